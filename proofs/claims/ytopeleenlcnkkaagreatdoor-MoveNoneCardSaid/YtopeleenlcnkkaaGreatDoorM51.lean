/-
  How many bytes states have.
-/
import Derived.Test.YtopeleenlcnkkaaGreatDoorM44
import Derived.Test.YtopeleenlcnkkaaGreatDoorM45
import Derived.Test.YtopeleenlcnkkaaGreatDoorM50
import Derived.Test.YtopeleenlcnkkaaGreatDoorM43
set_option linter.unusedVariables false
set_option linter.unusedSimpArgs false
namespace Go.Proofs.YtopeleenlcnkkaaGreatDoor
open Go Go.RowKit
theorem NodesAt.uids {w : World} {v : Value} {L : List JN} (h : NodesAt w v L) : ∀ d ∈ L, d.uid.size ≤ maxLen := fun d hd => by
  obtain ⟨cs, h1, h2, h3⟩ := h
  obtain ⟨i, hi⟩ := List.getElem?_of_mem hd
  obtain ⟨pi, ci, p, c, _, _, _, _, _, _, _, h⟩ := h3 i d hi
  exact h
theorem tab_size {T : Tab} (h : TOk T) : (strOf (putL (tabL T))).size ≤ maxLen := by
  obtain ⟨h1, h2⟩ := rows_ok h.key h.cell
  have hl := h.len
  have h3 : ∀ n ∈ tabL T, R64 n := by
    intro n hn
    unfold tabL at hn
    rcases List.mem_cons.1 hn with rfl | hn
    · exact .small (by omega) (by omega)
    · exact h1 n hn
  have h4 := putL_len h3
  rw [strOf_size]
  unfold tabL at h4 ⊢
  rw [List.length_cons] at h4
  unfold maxLen
  omega
theorem states_size {nodes : List JN} {Ts : Tabs} (hT : TabsOk nodes Ts) (hu : ∀ d ∈ nodes, d.uid.size ≤ maxLen) : ∀ s ∈ statesP nodes Ts, s.1.size ≤ maxLen ∧ s.2.size ≤ maxLen := fun s hs => by
  obtain ⟨i, d, T, hd, hTi, rfl⟩ := mem_states hs
  refine ⟨hu d (List.mem_of_getElem? hd), ?_⟩
  cases hst : stateful d.kind with
  | false => rw [hT.not i d hd hst] at hTi; cases hTi
  | true =>
    obtain ⟨U, hU, hok, _⟩ := hT.has i d hd hst
    rw [hU] at hTi
    cases hTi
    exact tab_size hok
theorem states_le (nodes : List JN) (Ts : Tabs) : (statesP nodes Ts).length ≤ nodes.length := by
  unfold statesP
  refine Nat.le_trans (List.length_filterMap_le _ _) ?_
  rw [List.length_zip]; omega
end Go.Proofs.YtopeleenlcnkkaaGreatDoor
/-
  Of the laws of the move: keeps, works.
-/
namespace Go.Proofs.YtopeleenlcnkkaaGreatDoor
open Go Go.RowKit
attribute [local irreducible] wpL wpTr H2.wpH
abbrev rBy : ByteArray := ⟨#[114]⟩
abbrev kBy : ByteArray := ⟨#[2, 10, 4, 0]⟩
set_option maxRecDepth 100000 in
theorem keeps_any (u : ByteArray) (w : World) : Calls Tryz.prog 41 #[.string u, .bool true] w fun e w' => ∃ v, e = .returned v ∧ Reads w' 2 v (stsC [(u, kBy)]) ∧ Kept none' w w' := by
  have hlit := Reads.lit w [.string u, .string kBy] 33 2 1 rfl (by unfold maxLen; omega)
  have HL := Lib.hid hlit
  clear hlit
  go_enter Tryz.func41, Tryz.ntmps41
  go_wp2_with fail
  go_ret
  exact ⟨_, rfl, HL.out, (Kept.refl _ _).alloc _⟩
def sumsJ2 : Jb := ⟨2, sumsN⟩
def othrJ : Jb := ⟨2, othrN⟩
theorem move_known : checkP sumsJ2 othrJ [(rBy, kBy)] = (rBy, 240) := by kernel_rfl
set_option maxRecDepth 100000 in
set_option maxHeartbeats 2000000 in
theorem works24_any (w : World) (m : Int) (hm : w.cell? ⟨0, 0, none⟩ = some (.int .i64 m)) : Calls Tryz.prog 16 #[] w (Gives w (.bool true)) := by
  have c1 := made_any sumsT 2 sumsN w sums_parse m hm
  have HM := Lib.hid hm
  clear hm
  go_enter Tryz.func16, Tryz.ntmps16
  go_wp2_with fail
  (with_reducible refine c1.mono ?_)
  clear c1
  rintro e w1 ⟨va, J, lo, D, rfl, hj, hJ, k1⟩
  have hja := hj.job
  obtain ⟨va1, va2, hva⟩ : ∃ a c, va = .slice a 3 c := by obtain ⟨a, c, h, _⟩ := hja.nds.at; exact ⟨a, c, h⟩
  subst hva
  have c2 := made_any othrT 2 othrN w1 othr_parse m (k1.cell (p := ⟨0, 0, none⟩) (fun h => h) HM.out)
  have K1 := Lib.hid (And.intro hja k1)
  clear hja k1 hj hJ
  go_wp2_with fail
  (with_reducible refine c2.mono ?_)
  clear c2
  rintro e w2 ⟨vb, J', lo', D', rfl, hj, hJ, k2⟩
  have hjb := hj.job
  obtain ⟨vb1, vb2, hvb⟩ : ∃ a c, vb = .slice a 3 c := by obtain ⟨a, c, h, _⟩ := hjb.nds.at; exact ⟨a, c, h⟩
  subst hvb
  have kA : Kept none' w2 ((w2.alloc (.cells #[.int .i64 2, .slice va1 3 va2] 24)).alloc (.cells #[.int .i64 2, .slice vb1 3 vb2] 24)) := ((Kept.refl _ _).alloc _).alloc _
  have t0 : ((w2.alloc (.cells #[.int .i64 2, .slice va1 3 va2] 24)).alloc (.cells #[.int .i64 2, .slice vb1 3 vb2] 24)).heap[w2.heap.size]? = some (.cells #[.int .i64 2, .slice va1 3 va2] 24 (0, 0)) := ((Kept.refl none' _).alloc _).heap (heap_alloc_new w2 _) (fun h => h)
  have t1 : ((w2.alloc (.cells #[.int .i64 2, .slice va1 3 va2] 24)).alloc (.cells #[.int .i64 2, .slice vb1 3 vb2] 24)).heap[w2.heap.size + 1]? = some (.cells #[.int .i64 2, .slice vb1 3 vb2] 24 (0, 0)) := by
    have := heap_alloc_new (w2.alloc (.cells #[.int .i64 2, .slice va1 3 va2] 24)) (.cells #[.int .i64 2, .slice vb1 3 vb2] 24)
    rwa [World.size_alloc] at this
  obtain ⟨W3, hW3⟩ : ∃ W3, ((w2.alloc (.cells #[.int .i64 2, .slice va1 3 va2] 24)).alloc (.cells #[.int .i64 2, .slice vb1 3 vb2] 24)) = W3 := ⟨_, rfl⟩
  rw [hW3] at kA t0 t1
  have p0 := cells_at t0 (j := 0) (v := .int .i64 2) rfl
  have p1 := cells_at t0 (j := 1) (v := .slice va1 3 va2) rfl
  have r0 := cells_at t1 (j := 0) (v := .int .i64 2) rfl
  have r1 := cells_at t1 (j := 1) (v := .slice vb1 3 vb2) rfl
  have K2 := Lib.hid (And.intro (K1.out.1.pure (k2.trans kA)) (And.intro (hjb.pure kA) (K1.out.2.trans (k2.trans kA))))
  have HW := Lib.hid hW3
  clear hjb k2 hj hJ kA t0 t1 hW3
  go_wp2_with fail
  rw [HW.out]
  clear HW
  refine wp_region_eager [0, 1, 2, 3, 4, 5, 6, 7, 8] (fun W => Kept none' W3 W) (by kernel_rfl) (by kernel_rfl) rfl (Kept.refl _ _).drew ?_
  simp only [List.map_cons, List.map_nil, List.getElem?_toArray, List.getElem?_cons_zero, List.getElem?_cons_succ, Option.getD_some]
  iterate 2 (apply wpL_float rfl rfl; (intro W hW; have a0 := hW.cell (p := ⟨w2.heap.size, 0, none⟩) (fun h => h) p0; have a1 := hW.cell (p := ⟨w2.heap.size, 1, none⟩) (fun h => h) p1; have b0 := hW.cell (p := ⟨w2.heap.size + 1, 0, none⟩) (fun h => h) r0; have b1 := hW.cell (p := ⟨w2.heap.size + 1, 1, none⟩) (fun h => h) r1; go_simp; rfl); go_frame)
  clear p0 p1 r0 r1
  apply wpL_loud rfl rfl
  intro K hK
  go_wp2_with fail
  (with_reducible refine (keeps_any rBy W3.drew).mono ?_)
  rintro e w4 ⟨v4, rfl, hv4, k4⟩
  have k4' : Kept none' W3 w4 := (Kept.refl none' W3).drew.trans k4
  obtain ⟨v4a, v4c, hv4e, -⟩ := hv4.stAt
  subst hv4e
  go_wp2_with fail
  refine hK _ _ (fun _ => k4') ?_
  clear hK
  have cc := check_any sumsJ2 othrJ _ _ _ [(rBy, kBy)] w4 (K2.out.1.pure k4') (K2.out.2.1.pure k4') hv4 (by intro s hs; simp at hs; subst hs; decide)
  rw [move_known, show sumsJ2.par = 2 from rfl, show othrJ.par = 2 from rfl, show ([(rBy, kBy)] : List St).length = 1 from rfl] at cc
  have K4 := Lib.hid k4'
  clear hv4 k4 k4'
  apply wpL_loud rfl rfl
  intro K hK
  go_wp2_with fail
  (with_reducible refine cc.mono ?_)
  clear cc
  rintro e w5 ⟨rfl, k5⟩
  have k5' := K4.out.trans k5
  go_wp2_with fail
  refine hK _ _ (fun _ => k5') ?_
  clear hK k5
  iterate 5 (apply wpL_float rfl rfl; (intro W hW; go_simp; rfl); go_frame)
  refine wpL_nil (fun _ => k5') ?_
  have F := Lib.hid (K2.out.2.2.trans k5')
  clear k5'
  go_wp2_with fail
  go_ret
  exact ⟨rfl, F.out⟩
end Go.Proofs.YtopeleenlcnkkaaGreatDoor
/-
  Heavy, and what it tells of states.
-/
namespace Go.Proofs.YtopeleenlcnkkaaGreatDoor
open Go Go.RowKit
attribute [local irreducible] wpL wpTr H2.wpH
def SaysN (w : World) (n : Nat) (e : Ending) (w' : World) : Prop := ∃ b : Bool, e = .returned (.bool b) ∧ Kept none' w w' ∧ (b = false → n ≤ 40)
set_option maxRecDepth 100000 in
set_option maxHeartbeats 1000000 in
theorem heavyN_any (j : Jb) (a : Array Value) (sv : Value) (l : List St) (rv : Value) (R : List Rec) (w : World) (h : JbAt w a j) (hs : Reads w 2 sv (stsC l)) (hsz : ∀ s ∈ l, s.1.size ≤ maxLen ∧ s.2.size ≤ maxLen) (hr : Reads w 3 rv (recs R)) :
    Calls Tryz.prog 15 #[.agg a, sv, rv] w (SaysN w l.length) := by
  have hJ := h
  obtain ⟨v, rfl, hn, hp⟩ := h
  obtain ⟨na, cap, rfl, h1, h2, h3⟩ := hn.at
  obtain ⟨sa, scap, rfl, s1, s2, s3⟩ := hs.stAt
  obtain ⟨ra, rcap, rfl, r1, r2, r3⟩ := hr.recAt
  unfold maxLen at h2 s2 r2
  have kA : Kept none' w (w.alloc (.cells #[.int .i64 j.par, .slice na j.nodes.length cap] 24)) := (Kept.refl _ _).alloc _
  have tA : (w.alloc (.cells #[.int .i64 j.par, .slice na j.nodes.length cap] 24)).heap[w.heap.size]? = some (.cells #[.int .i64 j.par, .slice na j.nodes.length cap] 24 (0, 0)) := heap_alloc_new _ _
  have H3 := Lib.hid (And.intro hJ (And.intro s3 hsz))
  have KA := Lib.hid (And.intro kA tA)
  clear h3 hn hp kA hJ s3 hsz hs hr r3 tA
  go_enter Tryz.func15, Tryz.ntmps15
  go_wp2_with fail
  obtain ⟨W0, hW0⟩ : ∃ W0, w.alloc (.cells #[.int .i64 j.par, .slice na j.nodes.length cap] 24) = W0 := ⟨_, rfl⟩
  rw [hW0] at KA ⊢
  clear hW0
  go_loopg [11] l.length (fun g vi wr => ∃ k : Nat, k ≤ l.length ∧ vi = .int .i64 (k : Int) ∧ l.length - k ≤ g ∧ Kept none' W0 wr)
  case atStart => exact ⟨0, by omega, rfl, by omega, Kept.refl _ _⟩
  case round =>
    obtain ⟨k, hkl, rfl, hg, hkp⟩ := hrel
    by_cases hlt : k < l.length
    · obtain ⟨s, hs⟩ : ∃ s, l[k]? = some s := ⟨_, List.getElem?_eq_getElem hlt⟩
      obtain ⟨bs, offs, rfl, hcs⟩ := H3.out.2.1.resolve_left (fun h => by rw [h] at hlt; simp at hlt)
      have kw := KA.out.1.trans hkp
      have y0 := kw.cell (fun h => h) (hcs k s hs).1
      have y1 := kw.cell (fun h => h) (hcs k s hs).2
      obtain ⟨hz0, hz1⟩ := H3.out.2.2 s (List.mem_of_getElem? hs)
      unfold maxLen at hz0 hz1
      have G := Lib.hid (And.intro hg (And.intro hkp (And.intro kw (hkp.alloc (.cells #[.string s.1, .string s.2] 33)))))
      clear hg hkp kw hcs hs
      by_cases q1 : 20000 < s.2.size
      · go_wp2_with fail
        go_ret
        exact ⟨true, rfl, KA.out.1.trans G.out.2.2.2, fun h => by cases h⟩
      · by_cases q2 : 1000 < s.1.size
        · go_wp2_with fail
          go_ret
          exact ⟨true, rfl, KA.out.1.trans G.out.2.2.2, fun h => by cases h⟩
        · go_wp2_with fail
          go_roundg (l.length - (k + 1))
          case rel => exact ⟨k + 1, by omega, by go_num, Nat.le_refl _, G.out.2.2.2⟩
          case measure => have := G.out.1; omega
    · have tw := hkp.heap KA.out.2 (fun h => h)
      have x0 := cells_at tw (j := 0) rfl
      have x1 := cells_at tw (j := 1) rfl
      have hB : w.heap.size < wr.heap.size := (Array.getElem?_eq_some_iff.1 tw).1
      have ch := heavy12_any j _ wr (H3.out.1.pure (KA.out.1.trans hkp))
      have G := Lib.hid (KA.out.1.trans hkp)
      clear hkp tw hg
      go_wp2_with fail
      (with_reducible refine ch.mono ?_)
      clear ch
      rintro e w2 ⟨b, rfl, k2⟩
      have F := Lib.hid (G.out.trans k2)
      clear k2
      by_cases q0 : b = true
      · subst q0
        go_wp2_with fail
        go_ret
        exact ⟨true, rfl, F.out, fun h => by cases h⟩
      · have q0' : b = false := by simpa using q0
        subst q0'
        clear q0
        by_cases q1 : 40 < l.length
        · go_wp2_with fail
          go_ret
          exact ⟨true, rfl, F.out, fun h => by cases h⟩
        · go_wp2_with fail
          go_ret
          exact ⟨_, rfl, F.out, fun _ => by omega⟩
end Go.Proofs.YtopeleenlcnkkaaGreatDoor
/-
  The law MoveTwice.
-/
namespace Go.Proofs.YtopeleenlcnkkaaGreatDoor
open Go Go.RowKit
attribute [local irreducible] wpL wpTr H2.wpH
theorem carry_size {a b : Jb} {l x : List St} (h : carryP a b l = .ok x) (hu : ∀ d ∈ b.nodes, d.uid.size ≤ maxLen) : (∀ s ∈ x, s.1.size ≤ maxLen ∧ s.2.size ≤ maxLen) ∧ x.length ≤ 1000 := by
  obtain ⟨_, Ts, hl, rfl⟩ := carry_ok h
  obtain ⟨hok, hT⟩ := load_ok hl
  have h12 := jobOk_small hok
  have := states_le b.nodes Ts
  exact ⟨states_size hT hu, by omega⟩
set_option maxRecDepth 100000 in
set_option maxHeartbeats 4000000 in
theorem twice_walk (a b : Jb) (va vb sv : Value) (l : List St) (par : Int) (w : World) (mx : Int) (hm : w.cell? ⟨0, 0, none⟩ = some (.int .i64 mx)) (ha : JbAt w #[.int .i64 a.par, va] a) (hb : JbAt w #[.int .i64 b.par, vb] b) (hs : Reads w 2 sv (stsC l)) (hsz : ∀ s ∈ l, s.1.size ≤ maxLen ∧ s.2.size ≤ maxLen) (hpr : R64 par) :
    Calls Tryz.prog 3 #[.agg #[.int .i64 a.par, va], .agg #[.int .i64 b.par, vb], sv, .int .i64 par] w (Gives w (.bool true)) := by
  obtain ⟨va1, va2, hva, -⟩ := ha.nds.at
  obtain ⟨vb1, vb2, hvb, -⟩ := hb.nds.at
  subst hva hvb
  obtain ⟨sa, scap, hsv, s1, s2, -⟩ := hs.stAt
  subst hsv
  unfold maxLen at s2
  have kA : Kept none' w ((w.alloc (.cells #[.int .i64 a.par, .slice va1 a.nodes.length va2] 24)).alloc (.cells #[.int .i64 b.par, .slice vb1 b.nodes.length vb2] 24)) := ((Kept.refl _ _).alloc _).alloc _
  have t0 : ((w.alloc (.cells #[.int .i64 a.par, .slice va1 a.nodes.length va2] 24)).alloc (.cells #[.int .i64 b.par, .slice vb1 b.nodes.length vb2] 24)).heap[w.heap.size]? = some (.cells #[.int .i64 a.par, .slice va1 a.nodes.length va2] 24 (0, 0)) := ((Kept.refl none' _).alloc _).heap (heap_alloc_new w _) (fun h => h)
  have t1 : ((w.alloc (.cells #[.int .i64 a.par, .slice va1 a.nodes.length va2] 24)).alloc (.cells #[.int .i64 b.par, .slice vb1 b.nodes.length vb2] 24)).heap[w.heap.size + 1]? = some (.cells #[.int .i64 b.par, .slice vb1 b.nodes.length vb2] 24 (0, 0)) := by
    have := heap_alloc_new (w.alloc (.cells #[.int .i64 a.par, .slice va1 a.nodes.length va2] 24)) (.cells #[.int .i64 b.par, .slice vb1 b.nodes.length vb2] 24)
    rwa [World.size_alloc] at this
  obtain ⟨W1, hW1⟩ : ∃ W1, ((w.alloc (.cells #[.int .i64 a.par, .slice va1 a.nodes.length va2] 24)).alloc (.cells #[.int .i64 b.par, .slice vb1 b.nodes.length vb2] 24)) = W1 := ⟨_, rfl⟩
  rw [hW1] at kA t0 t1
  have p0 := cells_at t0 (j := 0) (v := .int .i64 a.par) rfl
  have p1 := cells_at t0 (j := 1) (v := .slice va1 a.nodes.length va2) rfl
  have ch := heavyN_any a _ _ l (.slice none 0 0) [] W1 (ha.pure kA) (hs.pure kA) hsz (Reads.nil _ 3)
  have H := Lib.hid (And.intro hm (And.intro ha (And.intro hb (And.intro hs (And.intro hsz (And.intro kA (And.intro t0 (And.intro t1 hpr))))))))
  clear hm ha hb hs hsz kA t0 t1 hpr
  have HW := Lib.hid hW1
  clear hW1
  go_enter Tryz.func3, Tryz.ntmps3
  go_wp2_with fail
  rw [HW.out]
  clear HW
  (with_reducible refine ch.mono ?_)
  clear ch p0 p1
  rintro e w1 ⟨b1, rfl, k1, h40⟩
  have t0 := k1.heap H.out.2.2.2.2.2.2.1 (fun h => h)
  have t1 := k1.heap H.out.2.2.2.2.2.2.2.1 (fun h => h)
  have p0 := cells_at t0 (j := 0) (v := .int .i64 a.par) rfl
  have p1 := cells_at t0 (j := 1) (v := .slice va1 a.nodes.length va2) rfl
  have r0 := cells_at t1 (j := 0) (v := .int .i64 b.par) rfl
  have r1 := cells_at t1 (j := 1) (v := .slice vb1 b.nodes.length vb2) rfl
  have hsz : w.heap.size + 1 < w1.heap.size := (Array.getElem?_eq_some_iff.1 t1).1
  have hszA : w.heap.size < w1.heap.size := by omega
  clear t0 t1
  cases b1 with
  | true =>
    have cw := works24_any w1 mx ((H.out.2.2.2.2.2.1.trans k1).cell (p := ⟨0, 0, none⟩) (fun h => h) H.out.1)
    have KW1 := Lib.hid (H.out.2.2.2.2.2.1.trans k1)
    clear k1 h40 p0 p1 r0 r1
    go_wp2_with fail
    (with_reducible refine cw.mono ?_)
    clear cw
    rintro e wz1 ⟨rfl, kz1⟩
    have F1 := Lib.hid (KW1.out.trans kz1)
    clear kz1
    go_wp2_with fail
    go_ret
    exact ⟨rfl, F1.out⟩
  | false =>
    have hl40 := h40 rfl
    have ch := heavy_any b _ (.slice none 0 0) [] (.slice none 0 0) [] w1 (H.out.2.2.1.pure (H.out.2.2.2.2.2.1.trans k1)) (Reads.nil _ 2) (fun s hs => by cases hs) (Reads.nil _ 3)
    have K1 := Lib.hid k1
    clear k1 h40
    go_wp2_with fail
    (with_reducible refine ch.mono ?_)
    clear ch p0 p1 r0 r1
    rintro e w2 ⟨b2, rfl, k2⟩
    cases b2 with
    | true =>
      have cw := works24_any w2 mx ((H.out.2.2.2.2.2.1.trans (K1.out.trans k2)).cell (p := ⟨0, 0, none⟩) (fun h => h) H.out.1)
      have KW2 := Lib.hid (H.out.2.2.2.2.2.1.trans (K1.out.trans k2))
      clear k2
      go_wp2_with fail
      (with_reducible refine cw.mono ?_)
      clear cw
      rintro e wz2 ⟨rfl, kz2⟩
      have F2 := Lib.hid (KW2.out.trans kz2)
      clear kz2
      go_wp2_with fail
      go_ret
      exact ⟨rfl, F2.out⟩
    | false =>
      by_cases hp1 : par < 1
      · have cw := works24_any w2 mx ((H.out.2.2.2.2.2.1.trans (K1.out.trans k2)).cell (p := ⟨0, 0, none⟩) (fun h => h) H.out.1)
        have KW3 := Lib.hid (H.out.2.2.2.2.2.1.trans (K1.out.trans k2))
        clear k2
        go_wp2_with fail
        (with_reducible refine cw.mono ?_)
        clear cw
        rintro e wz3 ⟨rfl, kz3⟩
        have F3 := Lib.hid (KW3.out.trans kz3)
        clear kz3
        go_wp2_with fail
        go_ret
        exact ⟨rfl, F3.out⟩
      by_cases hp2 : 4 < par
      · have cw := works24_any w2 mx ((H.out.2.2.2.2.2.1.trans (K1.out.trans k2)).cell (p := ⟨0, 0, none⟩) (fun h => h) H.out.1)
        have KW4 := Lib.hid (H.out.2.2.2.2.2.1.trans (K1.out.trans k2))
        clear k2
        go_wp2_with fail
        (with_reducible refine cw.mono ?_)
        clear cw
        rintro e wz4 ⟨rfl, kz4⟩
        have F4 := Lib.hid (KW4.out.trans kz4)
        clear kz4
        go_wp2_with fail
        go_ret
        exact ⟨rfl, F4.out⟩
      have kx := K1.out.trans k2
      have t0 := kx.heap H.out.2.2.2.2.2.2.1 (fun h => h)
      have t1 := kx.heap H.out.2.2.2.2.2.2.2.1 (fun h => h)
      have p0 := cells_at t0 (j := 0) (v := .int .i64 a.par) rfl
      have p1 := cells_at t0 (j := 1) (v := .slice va1 a.nodes.length va2) rfl
      have r0 := cells_at t1 (j := 0) (v := .int .i64 b.par) rfl
      have r1 := cells_at t1 (j := 1) (v := .slice vb1 b.nodes.length vb2) rfl
      have hsz : w.heap.size + 1 < w2.heap.size := (Array.getElem?_eq_some_iff.1 t1).1
      have hszA : w.heap.size < w2.heap.size := by omega
      clear t0 t1
      have kw := H.out.2.2.2.2.2.1.trans kx
      have cc := carry_any a b _ _ _ l w2 (H.out.2.1.pure kw) (H.out.2.2.1.pure kw) (H.out.2.2.2.1.pure kw) H.out.2.2.2.2.1 (by omega)
      have K2 := Lib.hid kx
      clear k2 kx kw
      go_wp2_with fail
      (with_reducible refine cc.mono ?_)
      clear cc p0 p1 r0 r1
      intro e w3 hq
      unfold CarryQ at hq
      cases hc : carryP a b l with
      | error er =>
        rw [hc] at hq
        obtain ⟨rfl, hne, k3⟩ := hq
        clear hc
        have cw := works24_any w3 mx ((H.out.2.2.2.2.2.1.trans (K2.out.trans k3)).cell (p := ⟨0, 0, none⟩) (fun h => h) H.out.1)
        have KW5 := Lib.hid (H.out.2.2.2.2.2.1.trans (K2.out.trans k3))
        clear k3
        go_wp2_with fail
        (with_reducible refine cw.mono ?_)
        clear cw
        rintro e wz5 ⟨rfl, kz5⟩
        have F5 := Lib.hid (KW5.out.trans kz5)
        clear kz5
        go_wp2_with fail
        go_ret
        exact ⟨rfl, F5.out⟩
      | ok x =>
        rw [hc] at hq
        obtain ⟨v3, rfl, hv3, k3⟩ := hq
        have kx := K2.out.trans k3
        have t0 := kx.heap H.out.2.2.2.2.2.2.1 (fun h => h)
        have t1 := kx.heap H.out.2.2.2.2.2.2.2.1 (fun h => h)
        have p0 := cells_at t0 (j := 0) (v := .int .i64 a.par) rfl
        have p1 := cells_at t0 (j := 1) (v := .slice va1 a.nodes.length va2) rfl
        have r0 := cells_at t1 (j := 0) (v := .int .i64 b.par) rfl
        have r1 := cells_at t1 (j := 1) (v := .slice vb1 b.nodes.length vb2) rfl
        have hsz : w.heap.size + 1 < w3.heap.size := (Array.getElem?_eq_some_iff.1 t1).1
        have hszA : w.heap.size < w3.heap.size := by omega
        clear t0 t1
        obtain ⟨hx1, hx2⟩ := carry_size hc (H.out.2.2.1.nds.uids)
        have htw := carry_twice hc (par := par) (by omega) (by omega)
        have hv3k := hv3
        obtain ⟨xa, xc, hve, x1, x2, -⟩ := hv3.stAt
        subst hve
        unfold maxLen at x2
        have kB : Kept none' w3 (w3.alloc (.cells #[.int .i64 par, .slice vb1 b.nodes.length vb2] 24)) := (Kept.refl _ _).alloc _
        have kw := H.out.2.2.2.2.2.1.trans (kx.trans kB)
        have cc := carry_any b { b with par := par } _ _ _ x _ (H.out.2.2.1.pure kw) ((H.out.2.2.1.pure kw).withPar H.out.2.2.2.2.2.2.2.2) (hv3k.pure kB) hx1 hx2
        rw [htw] at cc
        have K3 := Lib.hid (And.intro hv3k (And.intro kB kw))
        clear k3 kx hc hx1 hx2 htw hv3 hv3k kB kw
        go_wp2_with fail
        (with_reducible refine cc.mono ?_)
        clear cc p0 p1 r0 r1
        intro e w4 hq
        unfold CarryQ at hq
        obtain ⟨v4, rfl, hv4, k4⟩ := hq
        have ce := equalSt _ _ _ _ w4 (K3.out.1.pure (K3.out.2.1.trans k4)) hv4
        rw [eqSt_self] at ce
        obtain ⟨ya, yc, hye, -⟩ := hv4.stAt
        subst hye
        have K4 := Lib.hid (K3.out.2.2.trans k4)
        clear hv4 k4
        go_wp2_with fail
        (with_reducible refine ce.mono ?_)
        clear ce
        rintro e w5 ⟨rfl, k5⟩
        have cw := works24_any w5 mx ((K4.out.trans k5).cell (p := ⟨0, 0, none⟩) (fun h => h) H.out.1)
        have KW6 := Lib.hid (K4.out.trans k5)
        clear k5
        go_wp2_with fail
        (with_reducible refine cw.mono ?_)
        clear cw
        rintro e wz6 ⟨rfl, kz6⟩
        have F6 := Lib.hid (KW6.out.trans kz6)
        clear kz6
        go_wp2_with fail
        go_ret
        exact ⟨rfl, F6.out⟩
end Go.Proofs.YtopeleenlcnkkaaGreatDoor
