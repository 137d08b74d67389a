/-
  The document's table: Keys(39), Bytes(37).
-/
import Derived.Test.YtaalpijohdlabaaRefC
import Derived.Test.YtaalpijohdlabaaTab9
import Derived.Test.YtaalpijohdlabaaRtm
import Derived.Test.YtaalpijohdlabaaTof
namespace Go.Proofs.Ytaalpijohdlabaa
open Go Go.RowKit
attribute [local irreducible] wpL
theorem rap22 {w : World} {base n : Nat} {v u : Value} {L M : List Int} (hown : w.ownsRow base 2 1 v n (ints L)) (hr : Reads w 1 u (ints M)) (hb : base ≤ w.heap.size) (hlen : L.length + M.length ≤ 1000000) :
    ∃ v' n' w', (Builtin.append_ #[22, 22] 22 #[v, u]).run Try.prog w = .ok v' w' ∧ w'.ownsRow base 2 1 v' n' (ints (L ++ M)) ∧ w.grownBy w' v.ownBlock := by
  obtain ⟨i, hi, hz, hs, hby⟩ := info_parts Try.info2
  have hn := hown.1
  rw [ints_length] at hn
  obtain ⟨v', n', w', g1, g2, g3, g4, g5⟩ := run_append_reads (P := Try.prog) base 22 22 2 i (.int .i64 0) 1 8 Try.underlying22 hi hz hs hby rfl (by omega) hown hr (ints_one M) (by rw [ints_length]; omega) (by rw [ints_length]; unfold maxLen; omega) hb
  refine ⟨v', n', w', g1, ?_, g4⟩
  unfold ints at g2 ⊢
  rw [List.map_append]
  exact g2
def RKeysQ (w : World) (l : List Int) (e : Ending) (w' : World) : Prop := ∃ v n, e = .returned v ∧ w'.ownsRow w.heap.size 2 1 v n (ints l) ∧ Kept none' w w'
theorem tkeys_take {T : Tab} {k : Nat} {p : Int × Cell} (h : T[k]? = some p) : tkeys (T.take (k + 1)) = tkeys (T.take k) ++ [p.1] := by
  unfold tkeys; rw [List.take_add_one, h, List.map_append]; rfl
theorem own_grown {w wr w' : World} {e s n : Nat} {v : Value} {xs : List Value} (hk : Kept none' w wr) (ho : wr.ownsRow w.heap.size e s v n xs) (hg : wr.grownBy w' v.ownBlock) : Kept none' w w' :=
  hk.new (Kept.grown (S := fun j => w.heap.size ≤ j) hg (fun j hj _ => (owns_own ho hj).1)) (fun j hj hs => by omega)
set_option maxRecDepth 100000 in
set_option maxHeartbeats 1000000 in
theorem rkeys_any (D : Nat) (T : Tab) (w : World) (h : RTabAt w D T) : Calls Try.prog 39 #[.pointer (some ⟨D, 0, none⟩)] w (RKeysQ w (tkeys T)) := by
  obtain ⟨⟨v, hobj, hrt⟩, hok⟩ := h
  obtain ⟨pa, pcap, rfl, hc1, hc2, hcl⟩ := hrt.parts
  have c0 : w.cell? ⟨D, 0, none⟩ = some (.slice pa T.length pcap) := cells_at hobj rfl
  have hT := hok.len
  unfold maxLen at hc2
  have HC := Lib.hid (And.intro hcl hok)
  clear hobj hrt hcl hok
  go_enter Try.func39, Try.ntmps39
  go_wp2_with fail
  go_loopg [3, 4] T.length (fun g vl vi wr => ∃ k n : Nat, k ≤ T.length ∧ vi = .int .i64 (k : Int) ∧ wr.ownsRow w.heap.size 2 1 vl n (ints (tkeys (T.take k))) ∧ Kept none' w wr ∧ T.length - k ≤ g)
  case atStart => exact ⟨0, 0, by omega, rfl, World.ownsRow_nil _ _ _ _, Kept.refl _ _, by omega⟩
  case round =>
    obtain ⟨k, n, hk, rfl, hown, hkp, hg⟩ := hrel
    obtain ⟨oa, oc, rfl⟩ := owns_slice hown
    have c0 := hkp.cell (p := ⟨D, 0, none⟩) (fun h => h) c0
    have HI := Lib.hid (And.intro hown (And.intro hkp hg))
    clear hown hkp hg
    by_cases hlt : k < T.length
    · obtain ⟨p, hp⟩ : ∃ p, T[k]? = some p := ⟨_, List.getElem?_eq_getElem hlt⟩
      obtain ⟨rb, ro, rfl, hr⟩ := HC.out.1.resolve_left (fun h => by rw [h] at hp; cases hp)
      obtain ⟨x0, _, lv, _, _⟩ := (hr k p hp).pure HI.out.2.1
      have kA : Kept none' wr (wr.alloc (.cells #[.int .i64 p.1] 2)) := (Kept.refl _ _).alloc _
      obtain ⟨v7, n7, w7, f1, f2, f3⟩ := rap22 (M := [p.1]) (kA.owns HI.out.1 (fun _ _ h => h)) (Reads.lit wr [.int .i64 p.1] 2 1 1 rfl (by unfold maxLen; omega)) (Nat.le_trans HI.out.2.1.size kA.size) (by simp [tkeys]; omega)
      rw [← tkeys_take hp] at f2
      have F := Lib.hid (And.intro f2 (own_grown (HI.out.2.1.trans kA) (kA.owns HI.out.1 (fun _ _ h => h)) f3))
      have F1 := Lib.hid f1
      clear hr hp f1 f2 f3 kA
      go_wp2_with (at_builtin; refine wpList_append_run rfl (.tmp 14) (.tmp 23) 22 rfl (.slice oa n oc) (.slice (some ⟨wr.heap.size, 0, none⟩) 1 1) _ rfl rfl F1.out ?_)
      go_roundg (T.length - (k + 1))
      case rel => exact ⟨k + 1, n7, by omega, by go_num, F.out.1, F.out.2, Nat.le_refl _⟩
      case measure => have := HI.out.2.2; omega
    · have hkT : k = T.length := by omega
      have F := Lib.hid (show wr.ownsRow w.heap.size 2 1 (.slice oa n oc) n (ints (tkeys T)) from by have := HI.out.1; rwa [List.take_of_length_le (by omega)] at this)
      have HK := Lib.hid hkT
      clear hkT
      go_wp2_with fail
      go_ret
      exact ⟨_, n, rfl, F.out, HI.out.2.1⟩
theorem rowL_take {T : Tab} {k : Nat} {p : Int × Cell} (h : T[k]? = some p) (N : Int) : N :: (T.take (k + 1)).flatMap rowL = (N :: (T.take k).flatMap rowL) ++ ([p.1, p.2.1, (p.2.2.length : Int)] ++ p.2.2) := by
  rw [rows_snoc h]; simp [rowL]
theorem tabL_ok {T : Tab} (h : TOk T) : (∀ n ∈ tabL T, R64 n) ∧ (tabL T).length ≤ 6100 := by
  have hr := rows_ok h.key h.cell
  have hl := h.len
  refine ⟨fun n hn => ?_, ?_⟩
  · unfold tabL at hn
    rcases List.mem_cons.1 hn with rfl | hn
    · exact .small (by omega) (by omega)
    · exact hr.1 n hn
  · unfold tabL; rw [List.length_cons]; have := hr.2; omega
set_option maxRecDepth 100000 in
set_option maxHeartbeats 2000000 in
theorem rbytes_any (D : Nat) (T : Tab) (w : World) (h : RTabAt w D T) : Calls Try.prog 37 #[.pointer (some ⟨D, 0, none⟩)] w (Gives w (.string (strOf (putL (tabL T))))) := by
  have HT := Lib.hid h
  obtain ⟨⟨v, hobj, hrt⟩, hok⟩ := h
  obtain ⟨pa, pcap, rfl, hc1, hc2, hcl⟩ := hrt.parts
  have c0 : w.cell? ⟨D, 0, none⟩ = some (.slice pa T.length pcap) := cells_at hobj rfl
  have hD : D < w.heap.size := block_lt_of_cell c0
  have hT := hok.len
  unfold maxLen at hc2
  have HC := Lib.hid (And.intro hcl hok)
  clear hobj hrt hcl hok
  go_enter Try.func37, Try.ntmps37
  go_wp2_with fail
  have I0 : Hid ((w.alloc (.cells #[.int .i64 (T.length : Int)] 2)).ownsRow w.heap.size 2 1 (.slice (some ⟨w.heap.size, 0, none⟩) 1 1) 1 (ints ((T.length : Int) :: (T.take 0).flatMap rowL)) ∧ Kept none' w (w.alloc (.cells #[.int .i64 (T.length : Int)] 2))) :=
    ⟨⟨by simp, .inr ⟨w.heap.size, 1, #[.int .i64 (T.length : Int)], rfl, Nat.le_refl _, heap_alloc_new w _, Nat.le_refl _, by unfold maxLen; omega, rfl, rfl⟩⟩, (Kept.refl _ _).alloc _⟩
  go_loopg [3, 4] T.length (fun g vl vi wr => ∃ k n : Nat, k ≤ T.length ∧ vi = .int .i64 (k : Int) ∧ wr.ownsRow w.heap.size 2 1 vl n (ints ((T.length : Int) :: (T.take k).flatMap rowL)) ∧ Kept none' w wr ∧ T.length - k ≤ g)
  case atStart => exact ⟨0, 1, by omega, rfl, I0.out.1, I0.out.2, by omega⟩
  case round =>
    obtain ⟨k, n, hk, rfl, hown, hkp, hg⟩ := hrel
    obtain ⟨oa, oc, rfl⟩ := owns_slice hown
    have c0 := hkp.cell (p := ⟨D, 0, none⟩) (fun h => h) c0
    have HI := Lib.hid (And.intro hown (And.intro hkp hg))
    clear hown hkp hg I0
    by_cases hlt : k < T.length
    · obtain ⟨p, hp⟩ : ∃ p, T[k]? = some p := ⟨_, List.getElem?_eq_getElem hlt⟩
      obtain ⟨rb, ro, rfl, hr⟩ := HC.out.1.resolve_left (fun h => by rw [h] at hp; cases hp)
      obtain ⟨x0, x1, lv, x2, hlv0⟩ := hr k p hp
      have hrbw : rb < w.heap.size := block_lt_of_cell x0
      have hlvw : ∀ g, Value.blk lv = some g → g < w.heap.size := fun g hg => by
        obtain ⟨c, E, f, he⟩ := hlv0.isCells (by omega) hg
        exact (Array.getElem?_eq_some_iff.1 he).1
      have x0 := HI.out.2.1.cell (fun h => h) x0
      have x1 := HI.out.2.1.cell (fun h => h) x1
      have x2 := HI.out.2.1.cell (fun h => h) x2
      have hlv := hlv0.pure HI.out.2.1
      obtain ⟨la, lc, rfl, hl1, hl2, _⟩ := hlv.at
      unfold maxLen at hl2
      have hpc := HC.out.2.cell p (List.mem_of_getElem? hp)
      have hpl : p.2.2.length ≤ 16 := hpc.2.2
      have hcl : ((T.length : Int) :: (T.take k).flatMap rowL).length ≤ 6100 := by
        have h1 := (rows_ok (T := T.take k) (fun q hq => HC.out.2.key q (List.mem_of_mem_take hq)) (fun q hq => HC.out.2.cell q (List.mem_of_mem_take hq))).2
        have h2 := List.length_take_le' k T
        rw [List.length_cons]; omega
      have Q := Lib.hid (And.intro hp (And.intro hlv hcl))
      clear hr hp hlv hpc hcl hlv0
      go_wp2_with fail
      obtain ⟨W1, hW1⟩ : ∃ W1, wr.alloc (.cells #[.int .i64 p.2.1, .slice la p.2.2.length lc] 29) = W1 := ⟨_, rfl⟩
      have kA : Kept none' wr W1 := by rw [← hW1]; exact (Kept.refl _ _).alloc _
      have y0 : W1.cell? ⟨wr.heap.size, 0, none⟩ = some (.int .i64 p.2.1) := by rw [← hW1]; simp
      have y1 : W1.cell? ⟨wr.heap.size, 1, none⟩ = some (.slice la p.2.2.length lc) := by rw [← hW1]; simp
      rw [hW1]
      clear hW1
      have c1 := kA.cell (p := ⟨D, 0, none⟩) (fun h => h) c0
      have z0 := kA.cell (fun h => h) x0
      have hown1 := kA.owns HI.out.1 (fun _ _ h => h)
      have hob : ∀ g, (Value.slice oa n oc).ownBlock = some g → w.heap.size ≤ g ∧ g < wr.heap.size := fun g hg => owns_own HI.out.1 hg
      have nD : (Value.slice oa n oc).ownBlock ≠ some D := fun e => by have := hob D e; omega
      have nR : (Value.slice oa n oc).ownBlock ≠ some rb := fun e => by have := hob rb e; omega
      have nC : (Value.slice oa n oc).ownBlock ≠ some wr.heap.size := fun e => by have := hob _ e; omega
      have kB : Kept none' W1 (W1.drew.alloc (.cells #[.int .i64 p.1, .int .i64 p.2.1, .int .i64 (p.2.2.length : Int)] 2)) := (Kept.refl _ _).drew.alloc _
      obtain ⟨v7, n7, w7, f1, f2, f3⟩ := rap22 (M := [p.1, p.2.1, (p.2.2.length : Int)]) (kB.owns hown1 (fun _ _ h => h)) (Reads.lit W1.drew (ints [p.1, p.2.1, (p.2.2.length : Int)]) 2 1 3 rfl (by unfold maxLen; omega)) (Nat.le_trans (Nat.le_trans HI.out.2.1.size kA.size) kB.size) (by have := Q.out.2.2; simp only [List.length_cons, List.length_nil] at *; omega)
      obtain ⟨a7, c7, rfl⟩ := owns_slice f2
      have k7 : Kept (fun g => (Value.slice oa n oc).ownBlock = some g) W1 w7 := kB.pure.trans (Kept.grown f3 (fun g hg _ => hg))
      have hlv7 : Reads w7 1 (.slice la p.2.2.length lc) (ints p.2.2) :=
        (Q.out.2.1.pure kA).kept k7 (fun g hg hs => by have h1 := hlvw g hg; have h2 := hob g hs; omega)
      have y17 := k7.cell (p := ⟨wr.heap.size, 1, none⟩) (fun e => nC e) y1
      have hown7 := Lib.hid f2
      have K7 := Lib.hid (And.intro k7 (own_grown (HI.out.2.1.trans (kA.trans kB)) (kB.owns hown1 (fun _ _ h => h)) f3))
      have KB := Lib.hid kB
      have F1 := Lib.hid f1
      obtain ⟨v9, n9, w9, g1, g2, g3⟩ := rap22 (M := p.2.2) f2 hlv7 K7.out.2.size (by have := Q.out.2.2; rw [List.length_append]; simp only [List.length_cons, List.length_nil] at *; omega)
      rw [List.append_assoc, ← rowL_take Q.out.1] at g2
      have F := Lib.hid (And.intro g2 (own_grown K7.out.2 f2 g3))
      have G1 := Lib.hid g1
      have hki0 : (0 : Int) ≤ (k : Int) := by omega
      have hki1 : (k : Int) < (T.length : Int) := by omega
      have ND := Lib.hid (And.intro nD (And.intro nR nC))
      clear f1 f2 f3 g1 g2 g3 hlv7 k7 kB kA hown1 hob nD nR nC hlvw
      refine wp_region_eager [0, 1, 2, 3, 4, 5, 6, 7, 8, 9, 10, 11, 12, 13, 14, 15, 16] (fun W => Kept (fun g => (Value.slice oa n oc).ownBlock = some g) W1 W) (by kernel_rfl) (by kernel_rfl) rfl (Kept.refl _ W1).drew ?_
      simp only [List.map_cons, List.map_nil, List.getElem?_toArray, List.getElem?_cons_zero, List.getElem?_cons_succ, Option.getD_some]
      iterate 14 (apply wpL_float rfl rfl; (intro W hW; have e1 := hW.cell (p := ⟨D, 0, none⟩) ND.out.1 c1; have e2 := hW.cell (p := ⟨rb, ro + k * 3, none⟩) ND.out.2.1 z0; have e3 := hW.cell (p := ⟨wr.heap.size, 0, none⟩) ND.out.2.2 y0; have e4 := hW.cell (p := ⟨wr.heap.size, 1, none⟩) ND.out.2.2 y1; go_simp; rfl); go_frame)
      apply wpL_loud rfl rfl
      intro K hK
      go_wp2_with fail
      refine hK _ _ (fun _ => KB.out.pure) ?_
      clear hK
      apply wpL_loud rfl rfl
      intro K hK
      refine wp_append_run (.tmp 29) (.tmp 43) 22 rfl (.slice oa n oc) (.slice (some ⟨W1.heap.size, 0, none⟩) 3 3) _ rfl rfl F1.out ?_
      refine hK _ _ (fun _ => K7.out.1) ?_
      clear hK
      apply wpL_float rfl rfl
      · intro W hW; go_simp; rfl
      go_frame
      refine wpL_nil (fun _ => K7.out.1) ?_
      go_wp2_with (at_builtin; refine wpList_append_run rfl (.tmp 45) (.tmp 47) 22 rfl (.slice a7 n7 c7) (.slice la p.2.2.length lc) _ rfl rfl G1.out ?_)
      go_roundg (T.length - (k + 1))
      case rel => exact ⟨k + 1, n9, by omega, by go_num, F.out.1, F.out.2, Nat.le_refl _⟩
      case measure => have := HI.out.2.2; omega
    · have hkT : k = T.length := by omega
      have F := Lib.hid (show Reads wr 1 (.slice oa n oc) (ints (tabL T)) from by
        have := HI.out.1
        rw [List.take_of_length_le (by omega)] at this
        exact Reads.of_owns this)
      have HK := Lib.hid hkT
      clear hkT
      go_wp2_with fail
      (with_reducible refine (put02_any (.slice oa n oc) (tabL T) wr F.out (tabL_ok HC.out.2).1 (by have := (tabL_ok HC.out.2).2; omega)).mono ?_)
      rintro e w5 ⟨rfl, k5⟩
      go_wp2_with fail
      go_ret
      exact ⟨rfl, HI.out.2.1.trans k5⟩
end Go.Proofs.Ytaalpijohdlabaa
/-
  The document's table: Get(48); Same(49).
-/
namespace Go.Proofs.Ytaalpijohdlabaa
open Go Go.RowKit
attribute [local irreducible] wpL
def cellD (T : Tab) (k : Int) : Cell := (tget T k).getD (0, [])
def RGetQ (w : World) (T : Tab) (k : Int) (e : Ending) (w' : World) : Prop :=
  ∃ lv, e = .returned (.tuple #[.agg #[.int .i64 (cellD T k).1, lv], .bool (tget T k).isSome]) ∧ Reads w' 1 lv (ints (cellD T k).2) ∧ Kept none' w w'
/-- Where a key that is there stands. -/
theorem tfind_get {k : Int} {T : Tab} (hT : Rises T) {c : Cell} (h : tget T k = some c) : T[tfind k T]? = some (k, c) := by
  have h1 := tfind_is (k := k) hT
  rw [h] at h1
  cases hx : T[tfind k T]? with
  | none => rw [hx] at h1; cases h1
  | some p =>
    rw [hx] at h1
    have e : p.1 = k := by simpa using h1
    have h2 := (tget_some hT (k := p.1) (c := p.2)).2 (List.mem_of_getElem? hx)
    rw [e, h] at h2
    injection h2 with h2
    rw [← e, h2]
set_option maxRecDepth 100000 in
set_option maxHeartbeats 1000000 in
theorem rget_any (D : Nat) (T : Tab) (k : Int) (w : World) (h : RTabAt w D T) (hk : R64 k) : Calls Try.prog 48 #[.pointer (some ⟨D, 0, none⟩), .int .i64 k] w (RGetQ w T k) := by
  have HT := Lib.hid h
  have HK := Lib.hid hk
  obtain ⟨⟨v, hobj, hrt⟩, hok⟩ := h
  obtain ⟨pa, pcap, rfl, hc1, hc2, hcl⟩ := hrt.parts
  have c0 : w.cell? ⟨D, 0, none⟩ = some (.slice pa T.length pcap) := cells_at hobj rfl
  have hT := hok.len
  unfold maxLen at hc2
  have HC := Lib.hid (And.intro hcl hok)
  have hfl := tfind_le k T
  clear hobj hrt hcl hok hk
  cases hg : tget T k with
  | none =>
    have HG := Lib.hid hg
    clear hg
    go_enter Try.func48, Try.ntmps48
    go_wp2_with fail
    have kA : Kept none' w (w.alloc (.cells #[.int .i64 0, .slice none 0 0] 29)) := (Kept.refl _ _).alloc _
    (with_reducible refine (find_any D T k _ (HT.out.pure kA) HK.out).mono ?_)
    rintro e w1 ⟨rfl, k1⟩
    rw [HG.out]
    have hE : w.heap.size < w1.heap.size := by have := k1.size; simp at this; omega
    have q0 := k1.cell (p := ⟨w.heap.size, 0, none⟩) (v := .int .i64 0) (fun h => h) (by simp)
    have q1 := k1.cell (p := ⟨w.heap.size, 1, none⟩) (v := .slice none 0 0) (fun h => h) (by simp)
    have f0 := k1.fq w.heap.size 0 (by simp)
    have f1 := k1.fq w.heap.size 1 (by simp)
    have F : Hid (RGetQ w T k (.returned (.tuple #[.agg #[.int .i64 0, .slice none 0 0], .bool false])) ((w1.setCell ⟨w.heap.size, 0, none⟩ (.int .i64 0)).setCell ⟨w.heap.size, 1, none⟩ (.slice none 0 0))) := by
      show RGetQ _ _ _ _ _
      unfold RGetQ cellD
      rw [HG.out]
      exact ⟨_, rfl, Reads.nil _ _, (((kA.trans k1)).setCell (p := ⟨w.heap.size, 0, none⟩) (.inr (Nat.le_refl _)) _).setCell (p := ⟨w.heap.size, 1, none⟩) (.inr (Nat.le_refl _)) _⟩
    simp only [World.frozen?_alloc_new] at f0 f1
    clear k1 kA
    simp only [Option.isSome_none]
    go_wp2_with fail
    refine bodyPost_ret (v := .tuple #[.agg #[.int .i64 0, .slice none 0 0], .bool false]) (by simp [results, Try.results48, go_sem, q0, q1]) rfl F.out
  | some c =>
    have HG := Lib.hid (And.intro hg (tfind_get HC.out.2.rises hg))
    have hpT := HG.out.2
    obtain ⟨rb, ro, rfl, hr⟩ := HC.out.1.resolve_left (fun h => by rw [h] at hpT; cases hpT)
    obtain ⟨x0, x1, lv, x2, hlv⟩ := hr _ _ hpT
    obtain ⟨la, lc, rfl, _, _, _⟩ := hlv.at
    have hfl2 : tfind k T < T.length := (List.getElem?_eq_some_iff.1 hpT).1
    have HLV := Lib.hid hlv
    clear hg hpT hr hlv x0
    obtain ⟨i, hi⟩ : ∃ i, tfind k T = i := ⟨_, rfl⟩
    have HI := Lib.hid hi
    rw [hi] at x1 x2 hfl2 hfl
    clear hi
    go_enter Try.func48, Try.ntmps48
    go_wp2_with fail
    have kA : Kept none' w (w.alloc (.cells #[.int .i64 0, .slice none 0 0] 29)) := (Kept.refl _ _).alloc _
    (with_reducible refine (find_any D T k _ (HT.out.pure kA) HK.out).mono ?_)
    rintro e w1 ⟨rfl, k1⟩
    rw [HG.out.1, HI.out]
    have hE : w.heap.size < w1.heap.size := by have := k1.size; simp at this; omega
    have q0 := k1.cell (p := ⟨w.heap.size, 0, none⟩) (v := .int .i64 0) (fun h => h) (by simp)
    have q1 := k1.cell (p := ⟨w.heap.size, 1, none⟩) (v := .slice none 0 0) (fun h => h) (by simp)
    have f0 := k1.fq w.heap.size 0 (by simp)
    have f1 := k1.fq w.heap.size 1 (by simp)
    have c0 := (kA.trans k1).cell (fun h => h) c0
    have x1 := (kA.trans k1).cell (fun h => h) x1
    have x2 := (kA.trans k1).cell (fun h => h) x2
    have F : Hid (RGetQ w T k (.returned (.tuple #[.agg #[.int .i64 c.1, .slice la c.2.length lc], .bool true])) ((w1.setCell ⟨w.heap.size, 0, none⟩ (.int .i64 c.1)).setCell ⟨w.heap.size, 1, none⟩ (.slice la c.2.length lc))) := by
      show RGetQ _ _ _ _ _
      unfold RGetQ cellD
      rw [HG.out.1]
      have kk : Kept none' w ((w1.setCell ⟨w.heap.size, 0, none⟩ (.int .i64 c.1)).setCell ⟨w.heap.size, 1, none⟩ (.slice la c.2.length lc)) := (((kA.trans k1)).setCell (p := ⟨w.heap.size, 0, none⟩) (.inr (Nat.le_refl _)) _).setCell (p := ⟨w.heap.size, 1, none⟩) (.inr (Nat.le_refl _)) _
      exact ⟨_, rfl, HLV.out.pure kk, kk⟩
    simp only [World.frozen?_alloc_new] at f0 f1
    clear k1 kA
    simp only [Option.isSome_some]
    go_wp2_with fail
    refine bodyPost_ret (v := .tuple #[.agg #[.int .i64 c.1, .slice la c.2.length lc], .bool true]) (by simp [results, Try.results48, go_sem, q0, q1]) rfl F.out
set_option maxRecDepth 100000 in
set_option maxHeartbeats 1000000 in
/-- Two cells that hold the same. -/
theorem rsame_any (acc : Int) (va vb : Value) (xs : List Int) (w : World) (ha : Reads w 1 va (ints xs)) (hb : Reads w 1 vb (ints xs)) :
    Calls Try.prog 49 #[.agg #[.int .i64 acc, va], .agg #[.int .i64 acc, vb]] w (Gives w (.bool true)) := by
  obtain ⟨pa, ca, rfl, a1, a2, a3⟩ := ha.at
  obtain ⟨pb, cb, rfl, b1, b2, b3⟩ := hb.at
  unfold maxLen at a2 b2
  have A3 := Lib.hid a3
  have B3 := Lib.hid b3
  clear ha hb a3 b3
  go_enter Try.func49, Try.ntmps49
  go_wp2_with fail
  obtain ⟨W0, hW0⟩ : ∃ W0, ((w.alloc (.cells #[.int .i64 acc, .slice pa xs.length ca] 29)).alloc (.cells #[.int .i64 acc, .slice pb xs.length cb] 29)) = W0 := ⟨_, rfl⟩
  have k0 : Kept none' w W0 := by rw [← hW0]; exact ((Kept.refl _ _).alloc _).alloc _
  have d0 : W0.cell? ⟨w.heap.size, 1, none⟩ = some (.slice pa xs.length ca) := by rw [← hW0]; simp
  have d1 : W0.cell? ⟨w.heap.size + 1, 1, none⟩ = some (.slice pb xs.length cb) := by rw [← hW0]; simp
  rw [hW0]
  clear hW0
  go_loopw [5] (fun i wr => ∃ k : Nat, k ≤ xs.length ∧ i = .int .i64 (k : Int) ∧ Kept none' W0 wr) (fun i _ => xs.length - (intOf i).toNat)
  case atStart => exact ⟨0, by omega, rfl, Kept.refl _ _⟩
  case round =>
    obtain ⟨k, hk, rfl, hkp⟩ := hrel
    have d0 := hkp.cell (fun h => h) d0
    have d1 := hkp.cell (fun h => h) d1
    by_cases hlt : k < xs.length
    · obtain ⟨x, hx⟩ : ∃ x, xs[k]? = some x := ⟨_, List.getElem?_eq_getElem hlt⟩
      obtain ⟨b0, off, rfl, hc⟩ := A3.out.resolve_left (fun h => by rw [h] at hlt; simp at hlt)
      obtain ⟨b1, off1, rfl, hd⟩ := B3.out.resolve_left (fun h => by rw [h] at hlt; simp at hlt)
      have q0 := (k0.trans hkp).cell (p := ⟨b0, off + k, none⟩) (fun h => h) (hc k x hx)
      have q1 := (k0.trans hkp).cell (p := ⟨b1, off1 + k, none⟩) (fun h => h) (hd k x hx)
      have hki0 : (0 : Int) ≤ (k : Int) := by omega
      have hki1 : (k : Int) < (xs.length : Int) := by omega
      have HK := Lib.hid hkp
      clear hc hd hx hkp
      go_wp2_with fail
      refine wp_region_eager [0, 1, 2, 3, 4, 5, 6, 7, 8, 9, 10] (fun W => Kept none' wr W) (by kernel_rfl) (by kernel_rfl) rfl (Kept.refl none' wr).drew ?_
      simp only [List.map_cons, List.map_nil, List.getElem?_toArray, List.getElem?_cons_zero, List.getElem?_cons_succ, Option.getD_some]
      iterate 11 (apply wpL_float rfl rfl; (intro W hW; have r0 := hW.cell (fun h => h) q0; have r1 := hW.cell (fun h => h) q1; have r2 := hW.cell (fun h => h) d0; have r3 := hW.cell (fun h => h) d1; go_simp; rfl); go_frame)
      refine wpL_nil (fun _ => (Kept.refl none' wr).drew) ?_
      have hf : (x != x) = false := by simp
      go_wp2_with fail
      go_roundw
      case rel => exact ⟨k + 1, by omega, by go_num, HK.out.drew⟩
      case measure => simp [intOf]; omega
    · have HK := Lib.hid (k0.trans hkp)
      clear hkp
      go_wp2_with fail
      go_ret
      exact ⟨rfl, HK.out⟩
end Go.Proofs.Ytaalpijohdlabaa
/-
  The document's table: Drop(42).
-/
namespace Go.Proofs.Ytaalpijohdlabaa
open Go Go.RowKit
attribute [local irreducible] wpL H2.wpH
/-- The document's table with other rows. -/
theorem RTabAt.mkset {w : World} {b n z : Nat} {x : Option Addr} {v : Value} {cs : List Value} {T : Tab} (hobj : w.heap[b]? = some (.cells #[.slice x n z] 74 (0, 0))) (hr : Reads w 3 v cs) (hrows : RRows w cs T) (hok : TOk T) : RTabAt (w.setCell ⟨b, 0, none⟩ v) b T := by
  have kb : Kept (one b) w (w.setCell ⟨b, 0, none⟩ v) := (Kept.refl (one b) w).setCell (p := ⟨b, 0, none⟩) (.inl rfl) _
  have hnot : ∀ (x : Value) (l : List Int), Reads w 1 x (ints l) → Reads (w.setCell ⟨b, 0, none⟩ v) 1 x (ints l) := fun x l hx =>
    hx.kept kb (fun bb hbb e => hx.ne_obj hobj (by omega) (fun y hy => by
      cases l with
      | nil => cases hy
      | cons q l => cases hy; exact ⟨_, _, rfl⟩) bb hbb e)
  exact ⟨⟨v, one_setCell hobj, cs, hr.kept kb (fun bb hbb e => hr.ne_obj hobj (by omega) hrows.first bb hbb e), hrows.1, fun i p hp => by obtain ⟨a, b', lv, c', d⟩ := hrows.2 i p hp; exact ⟨a, b', lv, c', hnot _ _ d⟩⟩, hok⟩
section
variable {P : Program}
theorem slk_take_all {T E sz : Nat} (hT : P.underlying T = some (.slice E)) (hsz : ∀ w, (sizeOf E).run P w = .ok sz w) {w : World} {a : Option Addr} {n cap k : Nat} {cs : List Value} (h : Reads w sz (.slice a n cap) cs) (hk : k ≤ n) :
    (∀ W, (Instr.slice T (.slice a n cap) none (some (.int .i64 (k : Int))) none).run P W = .ok (.slice a k cap) W) ∧ Reads w sz (.slice a k cap) (cs.take (k * sz)) := by
  have h0 := slk_take hT (hsz w) h hk
  refine ⟨fun W => ?_, h0.2⟩
  obtain ⟨a', n', cap', e, h1, h2, _⟩ := h
  cases e
  have hb : (Instr.sliceBounds true n cap none (some (.int .i64 (k : Int))) none).run P W = .ok (0, k, cap) W := by
    simp [Instr.sliceBounds, Instr.sliceBound, asIntOf]
    intro h; omega
  simp only [Instr.slice, Sem.run_bind, run_underlying hT, Result.andThen_ok, hb, hsz, Sem.run_pure]
  cases a with
  | none => simp
  | some a => simp [Addr.add]
theorem slk_drop_all {T E sz : Nat} (hT : P.underlying T = some (.slice E)) (hsz : ∀ w, (sizeOf E).run P w = .ok sz w) {w : World} {a : Option Addr} {n cap k : Nat} {cs : List Value} (h : Reads w sz (.slice a n cap) cs) (hk : k ≤ n) :
    ∃ a' n' c', (∀ W, (Instr.slice T (.slice a n cap) (some (.int .i64 (k : Int))) none none).run P W = .ok (.slice a' n' c') W) ∧ Reads w sz (.slice a' n' c') (cs.drop (k * sz)) := by
  obtain ⟨v, hv, hr⟩ := slk_drop hT (hsz w) h hk
  obtain ⟨a', n', cap', e, h1, h2, _⟩ := h
  cases e
  have hall : ∀ W, (Instr.slice T (.slice a n cap) (some (.int .i64 (k : Int))) none none).run P W = .ok (.slice (if cap = k then a else a.map (·.add (k * sz))) (n - k) (cap - k)) W := by
    intro W
    have hb : (Instr.sliceBounds true n cap (some (.int .i64 (k : Int))) none none).run P W = .ok (k, n, cap) W := by
      simp [Instr.sliceBounds, Instr.sliceBound, asIntOf]
      intro h; omega
    simp only [Instr.slice, Sem.run_bind, run_underlying hT, Result.andThen_ok, hb, hsz, Sem.run_pure]
  have e2 : v = .slice (if cap = k then a else a.map (·.add (k * sz))) (n - k) (cap - k) := by
    have := hv.symm.trans (hall w)
    injection this
  subst e2
  exact ⟨_, _, _, hall, hr⟩
end
theorem tdrop_find {k : Int} : ∀ {T : Tab}, Rises T → tdrop k T = if (tget T k).isSome then T.take (tfind k T) ++ T.drop (tfind k T + 1) else T
  | [], _ => rfl
  | q :: T, h => by
    obtain ⟨h1, h2⟩ := List.pairwise_cons.1 h
    have ih := tdrop_find (k := k) h2
    have e1 : tdrop k (q :: T) = if k != q.1 then q :: tdrop k T else tdrop k T := by unfold tdrop; rw [List.filter_cons]
    rw [e1]
    unfold tget tfind
    rw [List.find?_cons]
    by_cases hl : lessB q.1 k = true
    · have hne : (k == q.1) = false := by
        simp; intro e; subst e; rw [lessB_irrefl] at hl; cases hl
      have hne' : (k != q.1) = true := by rw [bne, hne]; rfl
      rw [if_pos hl, if_pos hne', hne, ih]
      unfold tget
      by_cases hs : (Option.map (fun x => x.snd) (List.find? (fun p => k == p.fst) T)).isSome = true
      · rw [if_pos hs, if_pos (by simpa using hs)]; simp
      · rw [if_neg hs, if_neg (by simpa using hs)]
    · rw [if_neg hl]
      have hnone : ∀ (hk : lessB k q.1 = true), T.find? (fun p => k == p.1) = none := fun hk => by
        rw [List.find?_eq_none]
        intro x hx e
        have := lessB_trans hk (h1 x hx)
        simp at e; rw [e, lessB_irrefl] at this; cases this
      by_cases he : q.1 = k
      · subst he
        have hd : tdrop q.1 T = T := by
          unfold tdrop
          rw [List.filter_eq_self]
          intro x hx
          have := h1 x hx
          rw [bne_iff_ne]; intro e; rw [← e, lessB_irrefl] at this; cases this
        simp [hd]
      · have hkq : lessB k q.1 = true := (lessB_total (fun e => he e.symm)).resolve_right hl
        have e1 : (k == q.1) = false := by simp; exact fun e => he e.symm
        have e2 : (k != q.1) = true := by rw [bne, e1]; rfl
        rw [if_pos e2, e1, hnone hkq]
        have hd : tdrop k T = T := by
          unfold tdrop
          rw [List.filter_eq_self]
          intro x hx
          have := lessB_trans hkq (h1 x hx)
          rw [bne_iff_ne]; intro e; rw [← e, lessB_irrefl] at this; cases this
        simp [hd]
def RDropQ (w : World) (D : Nat) (T : Tab) (k : Int) (e : Ending) (w' : World) : Prop := e = .returned (.bool (tget T k).isSome) ∧ RTabAt w' D (tdrop k T) ∧ Kept (one D) w w'
set_option maxRecDepth 100000 in
set_option maxHeartbeats 2000000 in
theorem rdrop_any (D : Nat) (T : Tab) (k : Int) (w : World) (h : RTabAt w D T) (hk : R64 k) : Calls Try.prog 42 #[.pointer (some ⟨D, 0, none⟩), .int .i64 k] w (RDropQ w D T k) := by
  have HT := Lib.hid h
  have HK := Lib.hid hk
  obtain ⟨⟨v, hobj, cs, hcs, hrr⟩, hok⟩ := h
  obtain ⟨pa, pcap, rfl, hc1, hc2, _⟩ := (show RTabV w v T from ⟨cs, hcs, hrr⟩).parts
  have hT := hok.len
  unfold maxLen at hc2
  have HC := Lib.hid (And.intro hobj (And.intro hcs (And.intro hrr hok)))
  have hfl := tfind_le k T
  clear hobj hcs hrr hok hk
  cases hg : (tget T k).isSome with
  | false =>
    have HG := Lib.hid hg
    have F := Lib.hid (show tdrop k T = T by rw [tdrop_find HC.out.2.2.2.rises, if_neg (by rw [hg]; decide)])
    clear hg
    go_enter Try.func42, Try.ntmps42
    go_wp2_with fail
    (with_reducible refine (find_any D T k w HT.out HK.out).mono ?_)
    rintro e w1 ⟨rfl, k1⟩
    rw [HG.out]
    go_wp2_with fail
    go_ret
    exact ⟨by rw [HG.out]; rfl, by rw [F.out]; exact HT.out.pure k1, k1.pure⟩
  | true =>
    have HG := Lib.hid hg
    have hil : tfind k T < T.length := by
      obtain ⟨c, hc⟩ := Option.isSome_iff_exists.1 hg
      exact (List.getElem?_eq_some_iff.1 (tfind_get HC.out.2.2.2.rises hc)).1
    have F := Lib.hid (show tdrop k T = T.take (tfind k T) ++ T.drop (tfind k T + 1) by rw [tdrop_find HC.out.2.2.2.rises, if_pos hg])
    clear hg
    obtain ⟨i, hi⟩ : ∃ i, tfind k T = i := ⟨_, rfl⟩
    rw [hi] at hil hfl F
    have HI := Lib.hid hi
    clear hi
    have htk := slk_take_all (P := Try.prog) Try.underlying72 size118 HC.out.2.1 (k := i) hfl
    obtain ⟨da, dn, dc, hdk, hdr⟩ := slk_drop_all (P := Try.prog) Try.underlying72 size118 HC.out.2.1 (k := i + 1) (by omega)
    rw [show (((i + 1 : Nat)) : Int) = (i : Int) + 1 by omega] at hdk
    have HTK := Lib.hid htk
    have HDK := Lib.hid (And.intro hdk hdr)
    clear htk hdk hdr
    go_enter Try.func42, Try.ntmps42
    go_wp2_with fail
    (with_reducible refine (find_any D T k w HT.out HK.out).mono ?_)
    rintro e w1 ⟨rfl, k1⟩
    rw [HG.out, HI.out]
    have K1 := Lib.hid k1
    have c0 : w1.cell? ⟨D, 0, none⟩ = some (.slice pa T.length pcap) := cells_at (k1.heap HC.out.1 (fun h => h)) rfl
    have hwi : IntKind.i64.wrap ((i : Int) + 1) = (i : Int) + 1 := IntWalk.i64_in _ (by omega)
    have kD : Kept none' w1 w1.drew := (Kept.refl _ _).drew
    have kN : Kept none' w1 (w1.drew.alloc (.cells #[] 118)) := kD.alloc _
    have kw := K1.out.trans kN
    have hcl := HC.out.2.2.1.1
    obtain ⟨v7, n7, w7, f1, f2, f3, f4⟩ := rtap_any (w := w1.drew.alloc (.cells #[] 118)) (base := w1.heap.size) (World.ownsRow_made w1.drew #[] 0 (Nat.le_refl _) (Nat.zero_le _) rfl : (w1.drew.alloc (.cells #[] 118)).ownsRow w1.heap.size 118 3 (.slice (some ⟨w1.heap.size, 0, none⟩) 0 0) 0 []) (HTK.out.2.pure kw) (HC.out.2.2.1.take i).cells kN.size (by simp; omega)
    obtain ⟨a7, c7, rfl⟩ := owns_slice f2
    have k7 : Kept none' w1 w7 := kN.new (Kept.grown (S := fun j => w1.heap.size ≤ j) f4 (fun j hj _ => by cases hj; exact Nat.le_refl _)) (fun j hj hs => by omega)
    obtain ⟨v9, n9, w9, g1, g2, g3, g4⟩ := rtap_any f2 (HDK.out.2.pure (K1.out.trans k7)) (HC.out.2.2.1.drop (i + 1)).cells k7.size (by simp; omega)
    obtain ⟨a9, c9, rfl⟩ := owns_slice g2
    have k9 : Kept none' w1 w9 := k7.new (Kept.grown (S := fun j => w1.heap.size ≤ j) g4 (fun j hj _ => (owns_own f2 hj).1)) (fun j hj hs => by omega)
    have hobj9 := (K1.out.trans k9).heap HC.out.1 (fun h => h)
    have c9' : w9.cell? ⟨D, 0, none⟩ = some (.slice pa T.length pcap) := cells_at hobj9 rfl
    have f9 := free_at hobj9 0
    have hl9 := lt_of_block hobj9
    have FIN := Lib.hid (show RDropQ w D T k (.returned (.bool true)) (w9.setCell ⟨D, 0, none⟩ (.slice a9 n9 c9)) from by
      refine ⟨by rw [HG.out], ?_, (K1.out.trans k9).pure.trans ((Kept.refl (one D) w9).setCell (p := ⟨D, 0, none⟩) (.inl rfl) _)⟩
      rw [F.out]
      refine RTabAt.mkset hobj9 (Reads.of_owns g2) ?_ (by rw [← F.out]; exact HC.out.2.2.2.tdrop k)
      rw [List.nil_append]
      exact ((HC.out.2.2.1.take i).append (HC.out.2.2.1.drop (i + 1))).pure (K1.out.trans k9))
    have KD := Lib.hid kD
    have KN := Lib.hid kN
    have K7 := Lib.hid k7
    have K9 := Lib.hid k9
    have F1 := Lib.hid f1
    have G1 := Lib.hid g1
    clear f1 f2 f3 f4 g1 g2 g3 g4 kD kN kw k7 k9 hobj9 k1
    go_wp2_with fail
    refine H2.wp_region_hot [0, 2, 3, 4, 5, 6, 7, 9, 10, 11, 12, 13, 14, 15, 1, 8, 16, 17, 18, 19] (fun W => Kept none' w1 W) (by kernel_rfl) (by kernel_rfl) rfl KD.out ?_
    simp only [List.map_cons, List.map_nil, List.getElem?_toArray, List.getElem?_cons_zero, List.getElem?_cons_succ, Option.getD_some]
    iterate 14 (first | (apply H2.wpH_pure rfl rfl; (intro W; go_simp; rfl); go_frame) | (apply H2.wpH_read rfl rfl rfl; (intro W hW; have z0 := hW.cell (p := ⟨D, 0, none⟩) (fun h => h) c0; have z1 := HTK.out.1 W; have z2 := HDK.out.1 W; go_simp; rfl); go_frame))
    apply H2.wpH_loud rfl rfl rfl
    intro K hK
    go_wp2_with fail
    refine hK _ _ (fun _ => KN.out) ?_
    clear hK
    apply H2.wpH_loud rfl rfl rfl
    intro K hK
    refine wp_append_run (.tmp 15) (.tmp 21) 72 rfl (.slice (some ⟨w1.heap.size, 0, none⟩) 0 0) (.slice pa i pcap) _ rfl rfl F1.out ?_
    refine hK _ _ (fun _ => K7.out) ?_
    clear hK
    apply H2.wpH_loud rfl rfl rfl
    intro K hK
    refine wp_append_run (.tmp 22) (.tmp 29) 72 rfl (.slice a7 n7 c7) (.slice da dn dc) _ rfl rfl G1.out ?_
    refine hK _ _ (fun _ => K9.out) ?_
    clear hK
    iterate 2 (apply H2.wpH_pure rfl rfl; (intro W; go_simp; rfl); go_frame)
    apply H2.wpH_hot rfl rfl rfl
    intro K2 hK2
    go_wp2_with fail
    apply H2.wpH_end
    go_wp2_with fail
    go_ret
    exact FIN.out
end Go.Proofs.Ytaalpijohdlabaa
/-
  The document's table: Of(45).
-/
namespace Go.Proofs.Ytaalpijohdlabaa
open Go Go.RowKit
attribute [local irreducible] wpL H2.wpH
def ROfQ (w : World) (T : Tab) (e : Ending) (w' : World) : Prop := ∃ D, e = .returned (.pointer (some ⟨D, 0, none⟩)) ∧ RTabAt w' D T ∧ w.heap.size ≤ D ∧ Kept none' w w'
theorem tabOf_take {T : Tab} {i : Nat} {p : Int × Cell} (h : T[i]? = some p) (gs : List Int) : tabOf (T.take (i + 1)) gs = tabOf (T.take i) gs ++ if decide (grp p.1 ∈ gs) then [p] else [] := by
  unfold tabOf
  rw [List.take_add_one, h, List.filter_append]
  simp only [Option.toList_some]
  rw [List.filter_cons, List.filter_nil]
structure RofInv (w wr : World) (D : Nat) (T : Tab) (v : Value) (nv : Nat) (cs : List Value) : Prop where
  obj : wr.heap[D]? = some (.cells #[v] 74 (0, 0))
  rows : wr.ownsRow (w.heap.size + 1) 118 3 v nv cs
  rr : RRows w cs T
  kept : Kept none' w wr
theorem RofInv.tab {w wr : World} {D : Nat} {T : Tab} {v : Value} {nv : Nat} {cs : List Value} (h : RofInv w wr D T v nv cs) (hok : TOk T) : RTabAt wr D T := ⟨⟨v, h.obj, cs, Reads.of_owns h.rows, h.rr.pure h.kept⟩, hok⟩
set_option maxRecDepth 100000 in
set_option maxHeartbeats 4000000 in
theorem rtof_any (Dt : Nat) (T : Tab) (vg : Value) (gs : List Int) (w : World) (h : RTabAt w Dt T) (hr : Reads w 1 vg (ints gs)) : Calls Try.prog 45 #[.pointer (some ⟨Dt, 0, none⟩), vg] w (ROfQ w (tabOf T gs)) := by
  obtain ⟨ga, gc, rfl, hg1, hg2, hg3⟩ := hr.at
  obtain ⟨⟨v, hobj, hrt⟩, hok⟩ := h
  obtain ⟨pa, pcap, rfl, hc1, hc2, hcl⟩ := hrt.parts
  have c0 : w.cell? ⟨Dt, 0, none⟩ = some (.slice pa T.length pcap) := cells_at hobj rfl
  have hT := hok.len
  have hDt := block_lt_of_cell c0
  simp only [] at hDt
  unfold maxLen at hc2 hg2
  have HC := Lib.hid (And.intro hcl hok)
  have HG := Lib.hid hg3
  clear hobj hrt hcl hok hr hg3
  go_enter Try.func45, Try.ntmps45
  go_wp2_with fail
  obtain ⟨W0, hW0⟩ : ∃ W0, w.alloc (.cells #[.slice none 0 0] 74) = W0 := ⟨_, rfl⟩
  have k0 : Kept none' w W0 := by rw [← hW0]; exact (Kept.refl _ _).alloc _
  have ho0 : W0.heap[w.heap.size]? = some (.cells #[.slice none 0 0] 74 (0, 0)) := by rw [← hW0]; exact heap_alloc_new _ _
  rw [hW0]
  clear hW0
  obtain ⟨D, hD⟩ : ∃ D, w.heap.size = D := ⟨_, rfl⟩
  rw [hD] at ho0 ⊢
  have I0 := Lib.hid (show RofInv w W0 D (tabOf (T.take 0) gs) (.slice none 0 0) 0 [] from ⟨ho0, World.ownsRow_nil _ _ _ _, by rw [List.take_zero]; exact RRows.nil _, k0⟩)
  have HD := Lib.hid hD
  have hDDt : Dt < D := by omega
  clear ho0 k0 hD
  go_loopg [6] T.length (fun g vi wr => ∃ (i nv : Nat) (v : Value) (cs : List Value), i ≤ T.length ∧ vi = .int .i64 (i : Int) ∧ RofInv w wr D (tabOf (T.take i) gs) v nv cs ∧ T.length - i ≤ g)
  case atStart => exact ⟨0, 0, _, _, by omega, rfl, I0.out, by omega⟩
  case round =>
    obtain ⟨i, nv, v, cs, hi, rfl, hinv, hg⟩ := hrel
    obtain ⟨va, vcap, rfl⟩ := owns_slice hinv.rows
    have HI := Lib.hid (And.intro hinv hg)
    have c0 := hinv.kept.cell (p := ⟨Dt, 0, none⟩) (fun h => h) c0
    clear hinv hg
    by_cases hlt : i < T.length
    · obtain ⟨p, hp⟩ : ∃ p, T[i]? = some p := ⟨_, List.getElem?_eq_getElem hlt⟩
      obtain ⟨rb, ro, rfl, hr⟩ := HC.out.1.resolve_left (fun h => by rw [h] at hp; cases hp)
      obtain ⟨x0, x1, lv, x2, hlv⟩ := hr i p hp
      have hrb0 := Lib.hid x0
      have x0 := HI.out.1.kept.cell (fun h => h) x0
      have x1 := HI.out.1.kept.cell (fun h => h) x1
      have x2 := HI.out.1.kept.cell (fun h => h) x2
      have hp64 := HC.out.2.key p (List.mem_of_getElem? hp)
      have HP := Lib.hid (And.intro hp (And.intro hlv hp64))
      obtain ⟨la, ln, lc, rfl, _⟩ := hlv.slice
      clear hr hp hlv hp64
      go_wp2_with fail
      go_loopg [7, 8] gs.length (fun g vb vj wr2 => ∃ j : Nat, j ≤ gs.length ∧ vj = .int .i64 (j : Int) ∧ vb = .bool (decide (grp p.1 ∈ gs.take j)) ∧ Kept none' wr wr2 ∧ gs.length - j ≤ g)
      case atStart => exact ⟨0, by omega, rfl, by simp, Kept.refl _ _, by omega⟩
      case round =>
        obtain ⟨j, hj, rfl, rfl, hkp, hgj⟩ := hrel
        have HJ := Lib.hid (And.intro hkp hgj)
        have c0 := hkp.cell (fun h => h) c0
        have x0 := hkp.cell (fun h => h) x0
        have x1 := hkp.cell (fun h => h) x1
        have x2 := hkp.cell (fun h => h) x2
        clear hkp hgj
        by_cases hjl : j < gs.length
        · obtain ⟨y, hy⟩ : ∃ y, gs[j]? = some y := ⟨_, List.getElem?_eq_getElem hjl⟩
          obtain ⟨gb, go, rfl, hgc⟩ := HG.out.resolve_left (fun h => by rw [h] at hy; cases hy)
          have y0 := (HI.out.1.kept.trans HJ.out.1).cell (fun h => h) (hgc j y hy)
          have hji0 : (0 : Int) ≤ (j : Int) := by omega
          have hji1 : (j : Int) < (gs.length : Int) := by omega
          have hii0 : (0 : Int) ≤ (i : Int) := by omega
          have hii1 : (i : Int) < (T.length : Int) := by omega
          have HY := Lib.hid (show decide (grp p.1 ∈ gs.take (j + 1)) = (decide (grp p.1 ∈ gs.take j) || (y == grp p.1)) from by
            rw [List.take_add_one, hy, Bool.eq_iff_iff, Bool.or_eq_true]
            simp only [decide_eq_true_eq, List.mem_append, Option.toList_some, List.mem_singleton, beq_iff_eq]
            constructor
            · rintro (h | h)
              · exact .inl h
              · exact .inr h.symm
            · rintro (h | h)
              · exact .inl h
              · exact .inr h.symm)
          have KD := Lib.hid (show Kept none' wr wr.drew from (Kept.refl _ _).drew)
          obtain ⟨bb, hbb⟩ : ∃ bb, decide (grp p.1 ∈ gs.take j) = bb := ⟨_, rfl⟩
          rw [hbb] at HY ⊢
          clear hgc hy hbb
          cases bb with
          | true =>
            go_wp2_with fail
            refine wp_region_eager [0, 1, 2, 3, 4, 5, 6, 7, 8, 9, 10, 11, 12, 13, 14, 15, 16, 17] (fun W => Kept none' wr W) (by kernel_rfl) (by kernel_rfl) rfl KD.out ?_
            simp only [List.map_cons, List.map_nil, List.getElem?_toArray, List.getElem?_cons_zero, List.getElem?_cons_succ, Option.getD_some]
            iterate 18 (first | (apply wpL_skip rfl; go_frame) | (apply wpL_float rfl rfl; (intro W hW; go_simp; rfl); go_frame))
            refine wpL_nil (fun _ => KD.out) ?_
            go_wp2_with fail
            go_roundg (gs.length - (j + 1))
            case rel => exact ⟨j + 1, by omega, by go_num, by rw [HY.out]; rfl, HJ.out.1.trans KD.out, Nat.le_refl _⟩
            case measure => have := HJ.out.2; omega
          | false =>
            go_wp2_with fail
            refine wp_region_eager [0, 1, 2, 3, 4, 5, 6, 7, 8, 9, 10, 11, 12, 13, 14, 15, 16, 17] (fun W => Kept none' wr W) (by kernel_rfl) (by kernel_rfl) rfl KD.out ?_
            simp only [List.map_cons, List.map_nil, List.getElem?_toArray, List.getElem?_cons_zero, List.getElem?_cons_succ, Option.getD_some]
            iterate 14 (apply wpL_float rfl rfl; (intro W hW; have z0 := hW.cell (fun h => h) c0; have z1 := hW.cell (fun h => h) x0; have z2 := hW.cell (fun h => h) y0; go_simp; rfl); go_frame)
            apply wpL_loud rfl rfl
            intro K hK
            go_wp2_with fail
            (with_reducible refine (rof_any p.1 HP.out.2.2 wr.drew).mono ?_)
            rintro e w' ⟨rfl, rfl⟩
            go_wp2_with fail
            refine hK _ _ (fun _ => KD.out) ?_
            clear hK
            iterate 3 (apply wpL_float rfl rfl; (intro W hW; go_simp; rfl); go_frame)
            refine wpL_nil (fun _ => KD.out) ?_
            go_wp2_with fail
            go_roundg (gs.length - (j + 1))
            case rel => exact ⟨j + 1, by omega, by go_num, by rw [HY.out]; rfl, HJ.out.1.trans KD.out, Nat.le_refl _⟩
            case measure => have := HJ.out.2; omega
        · have hje : gs.take j = gs := List.take_of_length_le (by omega)
          rw [hje]
          clear hje
          have hrbw : rb < D := by
            have := block_lt_of_cell (hrb0.out)
            have := HD.out
            simp only [] at *
            omega
          have hst := tabOf_take HP.out.1 gs
          obtain ⟨bb, hbb⟩ : ∃ bb, decide (grp p.1 ∈ gs) = bb := ⟨_, rfl⟩
          rw [hbb] at hst ⊢
          have HST := Lib.hid hst
          clear hst hbb
          cases bb with
          | false =>
            have F := Lib.hid (show RofInv w wr D (tabOf (T.take (i + 1)) gs) (.slice va nv vcap) nv cs from by
              rw [HST.out]
              simp only [Bool.false_eq_true, if_false, List.append_nil]
              exact ⟨HJ.out.1.heap HI.out.1.obj (fun h => h), HJ.out.1.owns HI.out.1.rows (fun _ _ h => h), HI.out.1.rr, HI.out.1.kept.trans HJ.out.1⟩)
            go_wp2_with fail
            go_roundg (T.length - (i + 1))
            case rel => exact ⟨i + 1, nv, _, cs, by omega, by go_num, F.out, Nat.le_refl _⟩
            case measure => have := HI.out.2; omega
          | true =>
            have hobj := HJ.out.1.heap HI.out.1.obj (fun h => h)
            have cD : wr.cell? ⟨D, 0, none⟩ = some (.slice va nv vcap) := cells_at hobj rfl
            have hown := HJ.out.1.owns HI.out.1.rows (fun _ _ h => h)
            have hob : ∀ g, (Value.slice va nv vcap).ownBlock = some g → D < g := fun g hg => by have := (owns_own hown hg).1; have := HD.out; omega
            have kB : Kept none' wr (wr.drew.alloc (.cells #[.int .i64 p.1, .int .i64 p.2.1, .slice la ln lc] 118)) := (Kept.refl _ _).drew.alloc _
            have hcl := HI.out.1.rr.1
            have htl : (tabOf (T.take i) gs).length ≤ i := Nat.le_trans (List.length_filter_le _ _) (List.length_take_le _ _)
            obtain ⟨v7, n7, w7, f1, f2, f3, f4⟩ := rtap_any (kB.owns hown (fun _ _ h => h)) (Reads.lit wr.drew [.int .i64 p.1, .int .i64 p.2.1, .slice la ln lc] 118 3 1 rfl (by unfold maxLen; omega)) (by intro x hx; simp only [List.mem_cons, List.not_mem_nil, or_false] at hx; rcases hx with rfl | rfl | rfl <;> rfl) (by have := HI.out.1.kept.size; have := HJ.out.1.size; have := kB.size; have := lt_of_block hobj; have := HD.out; omega) (by simp only [List.length_cons, List.length_nil]; omega)
            obtain ⟨a7, c7, rfl⟩ := owns_slice f2
            have k7 : Kept (fun g => (Value.slice va nv vcap).ownBlock = some g) wr w7 := kB.pure.trans (Kept.grown f4 (fun g hg _ => hg))
            have nD : (Value.slice va nv vcap).ownBlock ≠ some D := fun e => by have := hob D e; omega
            have nR : (Value.slice va nv vcap).ownBlock ≠ some rb := fun e => by have := hob rb e; omega
            have nT : (Value.slice va nv vcap).ownBlock ≠ some Dt := fun e => by have := hob Dt e; omega
            have hobj7 := k7.heap hobj (fun h => nD h)
            have c7' : w7.cell? ⟨D, 0, none⟩ = some (.slice va nv vcap) := cells_at hobj7 rfl
            have f7 := free_at hobj7 0
            have hl7 := lt_of_block hobj7
            have F := Lib.hid (show RofInv w (w7.setCell ⟨D, 0, none⟩ (.slice a7 n7 c7)) D (tabOf (T.take (i + 1)) gs) (.slice a7 n7 c7) n7 (cs ++ [.int .i64 p.1, .int .i64 p.2.1, .slice la ln lc]) from by
              have k8 : Kept (one D) w7 (w7.setCell ⟨D, 0, none⟩ (.slice a7 n7 c7)) := (Kept.refl (one D) w7).setCell (p := ⟨D, 0, none⟩) (.inl rfl) _
              refine ⟨one_setCell hobj7, k8.owns f2 (fun g hg e => by have := (owns_own f2 hg).1; have := HD.out; unfold one at e; omega), ?_, ((HI.out.1.kept.trans HJ.out.1).new k7 (fun g hg hs => by have := hob g hs; have := HD.out; omega)).new k8 (fun g hg e => by have := HD.out; unfold one at e; omega)⟩
              rw [HST.out]
              simp only [if_true]
              exact HI.out.1.rr.append (RRows.one HP.out.2.1))
            have ND := Lib.hid (And.intro nD (And.intro nR nT))
            have KB := Lib.hid (show Kept (fun g => (Value.slice va nv vcap).ownBlock = some g) wr (wr.drew.alloc (.cells #[.int .i64 p.1, .int .i64 p.2.1, .slice la ln lc] 118)) from kB.pure)
            have K7 := Lib.hid k7
            have F1 := Lib.hid f1
            have hii0 : (0 : Int) ≤ (i : Int) := by omega
            have hii1 : (i : Int) < (T.length : Int) := by omega
            clear f1 f2 f3 f4 k7 kB hob nD nR nT hobj hobj7 hown
            go_wp2_with fail
            refine H2.wp_region_hot [0, 1, 2, 3, 4, 5, 6, 7, 8, 9, 10, 11, 12, 13, 14, 15, 16] (fun W => Kept (fun g => (Value.slice va nv vcap).ownBlock = some g) wr W) (by kernel_rfl) (by kernel_rfl) rfl (Kept.refl _ wr).drew ?_
            simp only [List.map_cons, List.map_nil, List.getElem?_toArray, List.getElem?_cons_zero, List.getElem?_cons_succ, Option.getD_some]
            iterate 12 (first | (apply H2.wpH_pure rfl rfl; (intro W; go_simp; rfl); go_frame) | (apply H2.wpH_read rfl rfl rfl; (intro W hW; have z0 := hW.cell (p := ⟨D, 0, none⟩) ND.out.1 cD; have z1 := hW.cell (p := ⟨Dt, 0, none⟩) ND.out.2.2 c0; have z2 := hW.cell (p := ⟨rb, ro + i * 3, none⟩) ND.out.2.1 x0; have z3 := hW.cell (p := ⟨rb, ro + i * 3 + 1, none⟩) ND.out.2.1 x1; have z4 := hW.cell (p := ⟨rb, ro + i * 3 + 2, none⟩) ND.out.2.1 x2; go_simp; rfl); go_frame))
            apply H2.wpH_loud rfl rfl rfl
            intro K hK
            go_wp2_with fail
            refine hK _ _ (fun _ => KB.out) ?_
            clear hK
            apply H2.wpH_loud rfl rfl rfl
            intro K hK
            refine wp_append_run (.tmp 48) (.tmp 56) 72 rfl (.slice va nv vcap) (.slice (some ⟨wr.heap.size, 0, none⟩) 1 1) _ rfl rfl F1.out ?_
            refine hK _ _ (fun _ => K7.out) ?_
            clear hK
            iterate 2 (apply H2.wpH_pure rfl rfl; (intro W; go_simp; rfl); go_frame)
            apply H2.wpH_hot rfl rfl rfl
            intro K2 hK2
            go_wp2_with fail
            apply H2.wpH_end
            go_wp2_with fail
            go_roundg (T.length - (i + 1))
            case rel => exact ⟨i + 1, n7, _, _, by omega, by go_num, F.out, Nat.le_refl _⟩
            case measure => have := HI.out.2; omega
    · have F := Lib.hid (show RTabAt wr D (tabOf T gs) from by
        have := HI.out.1
        rw [List.take_of_length_le (by omega)] at this
        exact this.tab (HC.out.2.filter _))
      go_wp2_with fail
      go_ret
      exact ⟨D, rfl, F.out, Nat.le_of_eq HD.out, HI.out.1.kept⟩
end Go.Proofs.Ytaalpijohdlabaa
/-
  The document's table: Join(47).
-/
namespace Go.Proofs.Ytaalpijohdlabaa
open Go Go.RowKit
attribute [local irreducible] wpL
def RJoinQ (w : World) (D : Nat) (T U : Tab) (e : Ending) (w' : World) : Prop := e = .returned (.int .i64 (joinE T U)) ∧ RTabAt w' D (joinT T U) ∧ Kept (one D) w w'
/-- Another table's struct turns. -/
theorem RTabV.keptD {w w' : World} {D : Nat} {T U : Tab} {v : Value} (h : RTabAt w D T) (hu : RTabV w v U) (hk : Kept (one D) w w') : RTabV w' v U ∧ ∀ b, Value.blk v = some b → b ≠ D := by
  obtain ⟨⟨tv, hobj, ht⟩, _⟩ := h
  obtain ⟨pa, pcap, rfl, _⟩ := ht.parts
  obtain ⟨cs, h1, h2⟩ := hu
  have hne := h1.ne_obj hobj (by omega) h2.first
  refine ⟨⟨cs, h1.kept hk (fun b hb e => hne b hb e), h2.1, fun i p hp => ?_⟩, hne⟩
  obtain ⟨a, b, lv, c, d⟩ := h2.2 i p hp
  exact ⟨a, b, lv, c, d.kept hk (fun g hg e => d.ne_obj hobj (by omega) (fun y hy => by
    obtain ⟨q, ql⟩ := p
    cases hl : ql.2 with
    | nil => rw [hl] at hy; cases hy
    | cons q l => rw [hl] at hy; cases hy; exact ⟨_, _, rfl⟩) g hg e)⟩
theorem RTabAt.keptD {w w' : World} {D D' : Nat} {T U : Tab} (h : RTabAt w D T) (hu : RTabAt w D' U) (hk : Kept (one D) w w') (hne : D' ≠ D) : RTabAt w' D' U := by
  obtain ⟨⟨v, h1, h2⟩, h3⟩ := hu
  exact ⟨⟨v, hk.heap h1 (fun e => hne e), (RTabV.keptD h h2 hk).1⟩, h3⟩
theorem jn_take {T U : Tab} {i : Nat} {p : Int × Cell} (h : U[i]? = some p) : jn T (U.take (i + 1)) = tput p.1 p.2 (jn T (U.take i)) := by
  unfold jn
  rw [List.take_add_one, h, List.foldl_append]
  rfl
theorem TOk.take {U : Tab} (h : TOk U) (i : Nat) : TOk (U.take i) := by
  have e : TOk (U.take i ++ U.drop i) := by rw [List.take_append_drop]; exact h
  exact e.pre
theorem TOk.jn_take {T U : Tab} (hT : TOk T) (hU : TOk U) (h : joinE T U = 0) (i : Nat) : TOk (Go.Proofs.Ytaalpijohdlabaa.jn T (U.take i)) := by
  obtain ⟨a, b⟩ := joinE_ok h
  refine hT.jn (hU.take i) (fun x hx => ?_) (fun g => ?_)
  · obtain ⟨q, hq, rfl⟩ := List.mem_map.1 hx
    exact a q.1 (List.mem_map.2 ⟨q, List.mem_of_mem_take hq, rfl⟩)
  · have : tmany (U.take i) g ≤ tmany U g := List.Sublist.countP_le (List.take_sublist _ _)
    have := b g
    omega
theorem join_put {T U : Tab} (hT : TOk T) (hU : TOk U) (h : joinE T U = 0) {i : Nat} {p : Int × Cell} (hp : U[i]? = some p) : putT (jn T (U.take i)) p.1 p.2 = jn T (U.take (i + 1)) := by
  have hc := (hU.cell p (List.mem_of_getElem? hp)).2.2
  have hk1 := (hT.jn_take hU h (i + 1)).many (grp p.1)
  have hk0 := hT.jn_take hU h i
  have hnone : tget (jn T (U.take i)) p.1 = none := by
    rw [tget_none]
    intro hm
    obtain ⟨q, hq, e⟩ := List.mem_map.1 hm
    rcases (mem_jn hT.rises (hU.take i).rises.nodup).1 hq with hq | ⟨hq, _⟩
    · have hn := (hU.take (i + 1)).rises.nodup
      unfold tkeys at hn
      rw [List.take_add_one, hp, List.map_append, List.nodup_append] at hn
      exact hn.2.2 q.1 (List.mem_map.2 ⟨q, hq, rfl⟩) p.1 (by simp) e
    · have := (joinE_ok h).1 p.1 (List.mem_map.2 ⟨p, List.mem_of_getElem? hp, rfl⟩)
      rw [tget_none] at this
      exact this (List.mem_map.2 ⟨q, hq, e⟩)
  rw [jn_take hp] at hk1 ⊢
  rw [tmany_tput hk0.rises, if_pos ⟨hnone, rfl⟩] at hk1
  have hE : putE (jn T (U.take i)) p.1 p.2.2.length = 0 := by unfold putE; rw [if_neg (by omega), if_neg (fun h => by have := h.2; omega)]
  unfold putT
  rw [if_pos hE]
set_option maxRecDepth 100000 in
set_option maxHeartbeats 4000000 in
theorem rjoin_any (D D' : Nat) (T U : Tab) (w : World) (h : RTabAt w D T) (h' : RTabAt w D' U) (hne : D' ≠ D) : Calls Try.prog 47 #[.pointer (some ⟨D, 0, none⟩), .pointer (some ⟨D', 0, none⟩)] w (RJoinQ w D T U) := by
  have HT := Lib.hid h
  have HU := Lib.hid h'
  obtain ⟨⟨v, hobj, hrt⟩, hok⟩ := h'
  obtain ⟨pa, pcap, rfl, hc1, hc2, hcl⟩ := hrt.parts
  have c0 : w.cell? ⟨D', 0, none⟩ = some (.slice pa U.length pcap) := cells_at hobj rfl
  have hU := hok.len
  have HRT := Lib.hid hrt
  unfold maxLen at hc2
  have HC := Lib.hid (And.intro hcl hok)
  clear hobj hrt hcl hok h
  go_enter Try.func47, Try.ntmps47
  go_wp2_with fail
  go_loopg [5] U.length (fun g vi wr => ∃ i : Nat, i ≤ U.length ∧ vi = .int .i64 (i : Int) ∧ (∀ x ∈ tkeys (U.take i), tget T x = none) ∧ Kept none' w wr ∧ U.length - i ≤ g)
  case atStart => exact ⟨0, by omega, rfl, by simp [tkeys], Kept.refl _ _, by omega⟩
  case round =>
    obtain ⟨i, hi, rfl, hno, hkp, hg⟩ := hrel
    have HI := Lib.hid (And.intro hno (And.intro hkp hg))
    have c1 := hkp.cell (fun h => h) c0
    clear hno hkp hg
    by_cases hlt : i < U.length
    · obtain ⟨p, hp⟩ : ∃ p, U[i]? = some p := ⟨_, List.getElem?_eq_getElem hlt⟩
      obtain ⟨rb, ro, rfl, hr⟩ := HC.out.1.resolve_left (fun h => by rw [h] at hp; cases hp)
      obtain ⟨x0, _, lv, _, _⟩ := (hr i p hp).pure HI.out.2.1
      have hp64 := HC.out.2.key p (List.mem_of_getElem? hp)
      have HP := Lib.hid (And.intro hp hp64)
      clear hr hp hp64
      go_wp2_with fail
      (with_reducible refine (find_any D T p.1 wr (HT.out.pure HI.out.2.1) HP.out.2).mono ?_)
      rintro e w1 ⟨rfl, k1⟩
      have K1 := Lib.hid (HI.out.2.1.trans k1)
      clear k1
      obtain ⟨n0, hn0⟩ : ∃ n0, tfind p.1 T = n0 := ⟨_, rfl⟩
      rw [hn0]
      clear hn0
      cases hs : (tget T p.1).isSome with
      | true =>
        have hE : joinE T U = 2 := joinE_two (List.mem_map.2 ⟨p, List.mem_of_getElem? HP.out.1, rfl⟩) hs
        have hJ : joinT T U = T := by unfold joinT; rw [if_neg (by rw [hE]; decide)]
        have HE := Lib.hid (And.intro hE hJ)
        clear hE hJ hs
        go_wp2_with fail
        go_ret
        exact ⟨by rw [HE.out.1]; rfl, by rw [HE.out.2]; exact HT.out.pure K1.out, K1.out.pure⟩
      | false =>
        have F := Lib.hid (show ∀ x ∈ tkeys (U.take (i + 1)), tget T x = none from by
          intro x hx
          rw [tkeys_take HP.out.1] at hx
          rcases List.mem_append.1 hx with hx | hx
          · exact HI.out.1 x hx
          · cases List.mem_singleton.1 hx
            cases ht : tget T p.1 with
            | none => rfl
            | some c => rw [ht] at hs; cases hs)
        clear hs
        go_wp2_with fail
        go_roundg (U.length - (i + 1))
        case rel => exact ⟨i + 1, by omega, by go_num, F.out, K1.out, Nat.le_refl _⟩
        case measure => have := HI.out.2.2; omega
    · have H1 := Lib.hid (show ∀ x ∈ tkeys U, tget T x = none from by have := HI.out.1; rwa [List.take_of_length_le (by omega)] at this)
      have H2 := Lib.hid HI.out.2.1
      clear HI
      go_wp2_with fail
      go_loopg [8] 8 (fun gg vi wr2 => ∃ j : Nat, j ≤ 8 ∧ vi = .int .i64 (j : Int) ∧ 8 - j ≤ gg ∧ (∀ g : Nat, g < j → tmany T (g : Int) + tmany U (g : Int) ≤ 40) ∧ Kept none' w wr2)
      case atStart => exact ⟨0, by omega, rfl, by omega, fun g hg => by omega, H2.out⟩
      case round =>
        obtain ⟨j, hj, rfl, hg, hs, hkp⟩ := hrel
        have G := Lib.hid (And.intro hg (And.intro hs hkp))
        clear hg hs hkp
        by_cases hlt8 : j < 8
        · have hlt' : (j : Int) < 8 := by omega
          go_wp2_with fail
          (with_reducible refine (rmany_any D T (j : Int) wr (HT.out.pure G.out.2.2)).mono ?_)
          rintro e w1 ⟨rfl, rfl⟩
          have m1 := HT.out.ok.many (j : Int)
          have m2 := HC.out.2.many (j : Int)
          go_wp2_with fail
          (with_reducible refine (rmany_any D' U (j : Int) wr (HU.out.pure G.out.2.2)).mono ?_)
          rintro e w2 ⟨rfl, rfl⟩
          by_cases hov : 40 < tmany T (j : Int) + tmany U (j : Int)
          · have hovi : (40 : Int) < ((tmany T (j : Int) : Nat) : Int) + ((tmany U (j : Int) : Nat) : Int) := by omega
            have hE : joinE T U = 7 := joinE_seven H1.out hlt8 hov
            have hJ : joinT T U = T := by unfold joinT; rw [if_neg (by rw [hE]; decide)]
            have HE := Lib.hid (And.intro hE hJ)
            clear hE hJ hov
            go_wp2_with fail
            go_ret
            exact ⟨by rw [HE.out.1]; rfl, by rw [HE.out.2]; exact HT.out.pure G.out.2.2, G.out.2.2.pure⟩
          · have hovi : ¬ (40 : Int) < ((tmany T (j : Int) : Nat) : Int) + ((tmany U (j : Int) : Nat) : Int) := by omega
            have G2 := Lib.hid (show ∀ g : Nat, g < j + 1 → tmany T (g : Int) + tmany U (g : Int) ≤ 40 from fun g hg => by
              by_cases e : g = j
              · subst e; omega
              · exact G.out.2.1 g (by omega))
            clear hov
            go_wp2_with fail
            go_roundg (8 - (j + 1))
            case rel => exact ⟨j + 1, by omega, by go_num, Nat.le_refl _, G2.out, G.out.2.2⟩
            case measure => have := G.out.1; omega
        · have HE := Lib.hid (joinE_all H1.out (fun g hg => G.out.2.1 g (by omega)))
          have hJ : joinT T U = jn T U := by unfold joinT; rw [if_pos HE.out]
          have HJ := Lib.hid hJ
          have KG := Lib.hid G.out.2.2
          clear hJ G c1
          go_wp2_with fail
          go_loopg [9] U.length (fun g vi wr3 => ∃ i : Nat, i ≤ U.length ∧ vi = .int .i64 (i : Int) ∧ RTabAt wr3 D (jn T (U.take i)) ∧ RTabV wr3 (.slice pa U.length pcap) U ∧ Kept (one D) w wr3 ∧ U.length - i ≤ g)
          case atStart => exact ⟨0, by omega, rfl, HT.out.pure KG.out, HRT.out.pure KG.out, KG.out.pure, by omega⟩
          case round =>
            obtain ⟨i, hi, rfl, htab, hu, hkp, hg⟩ := hrel
            have HI := Lib.hid (And.intro htab (And.intro hu (And.intro hkp hg)))
            have c1 := hkp.cell (p := ⟨D', 0, none⟩) (fun e => hne e) c0
            clear htab hkp hg
            by_cases hlt : i < U.length
            · obtain ⟨p, hp⟩ : ∃ p, U[i]? = some p := ⟨_, List.getElem?_eq_getElem hlt⟩
              have hneb := (RTabV.keptD HI.out.1 hu (Kept.refl _ wr)).2
              obtain ⟨a', cap', e, _, _, hcl'⟩ := hu.parts
              cases e
              obtain ⟨rb, ro, rfl, hr⟩ := hcl'.resolve_left (fun h => by rw [h] at hp; cases hp)
              obtain ⟨x0, x1, lv, x2, hlv⟩ := hr i p hp
              have hrb : rb ≠ D := hneb rb (by unfold Value.blk; simp only; rw [if_neg (by omega)])
              obtain ⟨la, lc, rfl, _, _, _⟩ := hlv.at
              have hp64 := HC.out.2.key p (List.mem_of_getElem? hp)
              have hpc := HC.out.2.cell p (List.mem_of_getElem? hp)
              have HP := Lib.hid (And.intro hp (And.intro hp64 (And.intro hpc hlv)))
              have hii0 : (0 : Int) ≤ (i : Int) := by omega
              have hii1 : (i : Int) < (U.length : Int) := by omega
              clear hcl' hr hp hp64 hpc hlv hneb hu
              go_wp2_with fail
              refine wp_region_eager [0, 1, 2, 3, 4, 5, 6, 7, 8, 9, 10, 11, 12, 13, 14, 15, 16, 17] (fun W => Kept (one D) wr W) (by kernel_rfl) (by kernel_rfl) rfl (Kept.refl _ wr).drew ?_
              simp only [List.map_cons, List.map_nil, List.getElem?_toArray, List.getElem?_cons_zero, List.getElem?_cons_succ, Option.getD_some]
              iterate 17 (apply wpL_float rfl rfl; (intro W hW; have z0 := hW.cell (p := ⟨D', 0, none⟩) (fun e => hne e) c1; have z1 := hW.cell (p := ⟨rb, ro + i * 3, none⟩) (fun e => hrb e) x0; have z2 := hW.cell (p := ⟨rb, ro + i * 3 + 1, none⟩) (fun e => hrb e) x1; have z3 := hW.cell (p := ⟨rb, ro + i * 3 + 2, none⟩) (fun e => hrb e) x2; go_simp; rfl); go_frame)
              apply wpL_loud rfl rfl
              intro K hK
              go_wp2_with fail
              have c := rput_any D (jn T (U.take i)) p.1 p.2 (.slice la p.2.2.length lc) wr.drew (HI.out.1.pure (Kept.refl none' wr).drew) HP.out.2.1 HP.out.2.2.1.1 HP.out.2.2.1.2.1 (by have := HP.out.2.2.1.2.2; omega) (HP.out.2.2.2.pure (Kept.refl none' wr).drew)
              (with_reducible refine c.mono ?_)
              clear c
              rintro e w5 ⟨rfl, t5, k5'⟩
              have k5 : Kept (one D) wr w5 := (show Kept (one D) wr wr.drew from (Kept.refl _ _).drew).trans k5'
              rw [join_put HT.out.ok HC.out.2 HE.out HP.out.1] at t5
              have F := Lib.hid (show RTabAt w5 D (jn T (U.take (i + 1))) ∧ RTabV w5 (.slice (some ⟨rb, ro, none⟩) U.length pcap) U ∧ Kept (one D) w w5 from ⟨t5, (RTabV.keptD HI.out.1 HI.out.2.1 k5).1, HI.out.2.2.1.trans k5⟩)
              have K5 := Lib.hid k5
              clear t5 k5 k5'
              go_wp2_with fail
              refine hK _ _ (fun _ => K5.out) ?_
              clear hK
              refine wpL_nil (fun _ => K5.out) ?_
              go_wp2_with fail
              go_roundg (U.length - (i + 1))
              case rel => exact ⟨i + 1, by omega, by go_num, F.out.1, F.out.2.1, F.out.2.2, Nat.le_refl _⟩
              case measure => have := HI.out.2.2.2; omega
            · have F := Lib.hid (show RTabAt wr D (joinT T U) from by
                have := HI.out.1
                rw [List.take_of_length_le (by omega)] at this
                rw [HJ.out]; exact this)
              clear hu
              go_wp2_with fail
              go_ret
              exact ⟨by rw [HE.out]; rfl, F.out, HI.out.2.2.1⟩
end Go.Proofs.Ytaalpijohdlabaa
