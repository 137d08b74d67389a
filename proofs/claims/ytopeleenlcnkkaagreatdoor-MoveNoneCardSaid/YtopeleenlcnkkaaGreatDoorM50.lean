/-
  move.Carry: what is carried.
-/
import Derived.Test.YtopeleenlcnkkaaGreatDoorM49
import Derived.Test.YtopeleenlcnkkaaGreatDoorM44
set_option linter.unusedVariables false
set_option linter.unusedSimpArgs false
namespace Go.Proofs.YtopeleenlcnkkaaGreatDoor
open Go Go.RowKit
attribute [local irreducible] wpL wpTr H2.wpH
theorem keptL_snoc {l : List St} {k : Nat} {s : St} (h : l[k]? = some s) : keptL (l.take (k + 1)) = keptL (l.take k) ++ if takeT s.2 = [] then [] else [s] := by
  unfold keptL
  rw [List.take_add_one, h, Option.toList_some, List.filter_append]
  by_cases e : takeT s.2 = []
  · simp [e]
  · simp [e]
theorem keptL_le (l : List St) : (keptL l).length ≤ l.length := by unfold keptL; exact List.length_filter_le _ _
theorem check_load {a b : Jb} {l : List St} (h : (checkP a b l).2 = 0) : ∃ Ts, loadP a l = .ok Ts := by
  unfold checkP at h
  cases e : loadP a l with
  | ok Ts => exact ⟨Ts, rfl⟩
  | error er => rw [e] at h; exact absurd h (loadP_ne e)
set_option maxRecDepth 100000 in
theorem states_nil (w : World) : Calls Tryz.prog 21 #[.pointer none] w fun e w' => e = .returned (.slice none 0 0) ∧ w' = w := by
  go_enter Tryz.func21, Tryz.ntmps21
  go_wp2_with fail
  go_ret
  exact ⟨rfl, rfl⟩
/-- What Carry answers. -/
def CarryQ (w : World) (r : Except Int (List St)) (e : Ending) (w' : World) : Prop :=
  match r with
  | .ok x => ∃ v, e = .returned (.tuple #[v, .int .i64 0]) ∧ Reads w' 2 v (stsC x) ∧ Kept none' w w'
  | .error er => e = .returned (.tuple #[.slice none 0 0, .int .i64 er]) ∧ er ≠ 0 ∧ Kept none' w w'
set_option maxRecDepth 100000 in
set_option maxHeartbeats 4000000 in
theorem carry_any (a b : Jb) (va vb sv : Value) (l : List St) (w : World) (ha : JbAt w #[.int .i64 a.par, va] a) (hb : JbAt w #[.int .i64 b.par, vb] b) (hs : Reads w 2 sv (stsC l)) (hsz : ∀ s ∈ l, s.1.size ≤ maxLen ∧ s.2.size ≤ maxLen) (hl1000 : l.length ≤ 1000) :
    Calls Tryz.prog 17 #[.agg #[.int .i64 a.par, va], .agg #[.int .i64 b.par, vb], sv] w (CarryQ w (carryP a b l)) := by
  obtain ⟨na, ncap, hva, -⟩ := ha.nds.at
  obtain ⟨mb, mcap, hvb, -⟩ := hb.nds.at
  obtain ⟨sa, scap, hsv, s1, s2, s3⟩ := hs.stAt
  subst hva hvb hsv
  unfold maxLen at s2
  have kA : Kept none' w ((w.alloc (.cells #[.int .i64 a.par, .slice na a.nodes.length ncap] 24)).alloc (.cells #[.int .i64 b.par, .slice mb b.nodes.length mcap] 24)) := ((Kept.refl _ _).alloc _).alloc _
  have t0 : ((w.alloc (.cells #[.int .i64 a.par, .slice na a.nodes.length ncap] 24)).alloc (.cells #[.int .i64 b.par, .slice mb b.nodes.length mcap] 24)).heap[w.heap.size]? = some (.cells #[.int .i64 a.par, .slice na a.nodes.length ncap] 24 (0, 0)) := ((Kept.refl none' _).alloc _).heap (heap_alloc_new w _) (fun h => h)
  have t1 : ((w.alloc (.cells #[.int .i64 a.par, .slice na a.nodes.length ncap] 24)).alloc (.cells #[.int .i64 b.par, .slice mb b.nodes.length mcap] 24)).heap[w.heap.size + 1]? = some (.cells #[.int .i64 b.par, .slice mb b.nodes.length mcap] 24 (0, 0)) := by
    have := heap_alloc_new (w.alloc (.cells #[.int .i64 a.par, .slice na a.nodes.length ncap] 24)) (.cells #[.int .i64 b.par, .slice mb b.nodes.length mcap] 24)
    rwa [World.size_alloc] at this
  obtain ⟨W1, hW1⟩ : ∃ W1, ((w.alloc (.cells #[.int .i64 a.par, .slice na a.nodes.length ncap] 24)).alloc (.cells #[.int .i64 b.par, .slice mb b.nodes.length mcap] 24)) = W1 := ⟨_, rfl⟩
  rw [hW1] at kA t0 t1
  have cc := check_any a b _ _ _ l W1 (ha.pure kA) (hb.pure kA) (hs.pure kA) hsz
  have H := Lib.hid (And.intro hb (And.intro hsz (And.intro kA (And.intro t1 s3))))
  have HW := Lib.hid hW1
  clear ha hb hs hsz kA t0 t1 hW1 s3
  go_enter Tryz.func17, Tryz.ntmps17
  go_wp2_with fail
  rw [HW.out]
  clear HW
  (with_reducible refine cc.mono ?_)
  clear cc
  rintro e w2 ⟨rfl, k2⟩
  by_cases hz : (checkP a b l).2 = 0
  · have HZ := Lib.hid hz
    have hload := check_load hz
    obtain ⟨Ts, hload⟩ := hload
    have EACH := Lib.hid (loadP_each hload)
    rw [hz]
    have K2 := Lib.hid k2
    clear hload hz k2
    go_wp2_with fail
    go_loopg [10, 29] l.length (fun g vo vi wr => ∃ (k : Nat), k ≤ l.length ∧ vi = .int .i64 (k : Int) ∧ l.length - k ≤ g ∧ wr.ownsRow W1.heap.size 33 2 vo (keptL (l.take k)).length (stsC (keptL (l.take k))) ∧ Kept none' W1 wr)
    case atStart => exact ⟨0, by omega, rfl, by omega, World.ownsRow_nil _ _ _ _, K2.out⟩
    case round =>
      obtain ⟨k, hkl, rfl, hg, hown, hkp⟩ := hrel
      obtain ⟨wo, rfl⟩ : ∃ wo : World, wo = wr := ⟨_, rfl⟩
      obtain ⟨oa, oc, rfl⟩ := owns_slice hown
      by_cases hlt : k < l.length
      · obtain ⟨s, hs⟩ : ∃ s, l[k]? = some s := ⟨_, List.getElem?_eq_getElem hlt⟩
        obtain ⟨bs, offs, rfl, hcs⟩ := H.out.2.2.2.2.resolve_left (fun h => by rw [h] at hlt; simp at hlt)
        have kw := H.out.2.2.1.trans hkp
        have y0 := kw.cell (fun h => h) (hcs k s hs).1
        have y1 := kw.cell (fun h => h) (hcs k s hs).2
        obtain ⟨_, T, rest, htk⟩ := EACH.out s (List.mem_of_getElem? hs)
        have hTT : takeT s.2 = T := by unfold takeT; rw [htk]
        have hszs := H.out.2.1 s (List.mem_of_getElem? hs)
        have hsn := keptL_snoc hs
        rw [hTT] at hsn
        have ka : Kept none' wo (wo.alloc (.cells #[.string s.1, .string s.2] 33)) := (Kept.refl _ _).alloc _
        have sB : (wo.alloc (.cells #[.string s.1, .string s.2] 33)).heap[wo.heap.size]? = some (.cells #[.string s.1, .string s.2] 33 (0, 0)) := heap_alloc_new _ _
        obtain ⟨W4, hW4⟩ : ∃ W4, wo.alloc (.cells #[.string s.1, .string s.2] 33) = W4 := ⟨_, rfl⟩
        rw [hW4] at ka sB
        have z0 := cells_at sB (j := 0) (v := .string s.1) rfl
        have z1 := cells_at sB (j := 1) (v := .string s.2) rfl
        have ct := take_any s.2 hszs.2 W4
        unfold TakeQ at ct
        rw [htk] at ct
        dsimp only at ct
        have hle := keptL_le (l.take k)
        have G := Lib.hid (And.intro hg (And.intro (hkp.trans ka) (And.intro (ka.owns hown (fun _ _ h => h)) (And.intro sB hsn))))
        clear hg hkp ka sB htk hTT hszs hsn kw hcs hs hown
        go_wp2_with fail
        try rw [hW4]
        clear hW4 y0 y1 z0 z1
        (with_reducible refine ct.mono ?_)
        clear ct
        rintro e w5 ⟨tb, tm, rfl, tT, k5⟩
        have ck := keys_any _ tb tm T w5 tT
        have K5 := Lib.hid k5
        clear tT k5
        go_wp2_with fail
        (with_reducible refine ck.mono ?_)
        clear ck
        rintro e w6 ⟨v6, rfl, hk6, -, k6⟩
        obtain ⟨v6a, v6c, rfl⟩ := owns_slice hk6
        have hkl2 : (tkeys T).length = T.length := by unfold tkeys; rw [List.length_map]
        rw [hkl2]
        have k46 := K5.out.trans k6
        have sB6 := k46.heap G.out.2.2.2.1 (fun h => h)
        have z0 := cells_at sB6 (j := 0) (v := .string s.1) rfl
        have z1 := cells_at sB6 (j := 1) (v := .string s.2) rfl
        have hsz7 : wo.heap.size < w6.heap.size := (Array.getElem?_eq_some_iff.1 sB6).1
        have hown6 := k46.owns G.out.2.2.1 (fun _ _ h => h)
        have kw6 := G.out.2.1.trans k46
        clear hk6 hkl2 k6 k46 sB6
        by_cases hT0 : T = []
        · have hTl : T.length = 0 := by rw [hT0]; rfl
          rw [hTl]
          have F := Lib.hid (show w6.ownsRow W1.heap.size 33 2 (.slice oa (keptL (l.take k)).length oc) (keptL (l.take (k + 1))).length (stsC (keptL (l.take (k + 1)))) ∧ Kept none' W1 w6 from by
            rw [G.out.2.2.2.2, if_pos hT0, List.append_nil]; exact ⟨hown6, kw6⟩)
          clear hT0 hTl hown6 kw6 z0 z1
          go_wp2_with fail
          go_roundg (l.length - (k + 1))
          case rel => exact ⟨k + 1, by omega, by go_num, Nat.le_refl _, F.out.1, F.out.2⟩
          case measure => have := G.out.1; omega
        · have hTl : 0 < T.length := Nat.pos_of_ne_zero (fun h => hT0 (List.eq_nil_of_length_eq_zero h))
          obtain ⟨v7, w7, g1, g2, g3, a7, c7, rfl⟩ := push_st hown6 s kw6.size (by rw [List.length_take] at hle; omega)
          have Z := Lib.hid (And.intro g1 (show w7.ownsRow W1.heap.size 33 2 (.slice a7 ((keptL (l.take k)).length + 1) c7) (keptL (l.take (k + 1))).length (stsC (keptL (l.take (k + 1)))) ∧ Kept none' W1 w7 from by
            rw [G.out.2.2.2.2, if_neg hT0, List.length_append, List.length_singleton]
            exact ⟨g2, kw6.new g3 (fun i hi hs => by have := (hown6.lt i hs).1; omega)⟩))
          clear g1 g2 g3 hown6 kw6 hT0
          go_wp2_with (at_builtin; refine wpList_app1 rfl (.tmp 43) (.tmp 45) 25 rfl _ _ _ rfl rfl Z.out.1 ?_)
          go_roundg (l.length - (k + 1))
          case rel => exact ⟨k + 1, by omega, by go_num, Nat.le_refl _, Z.out.2.1, Z.out.2.2⟩
          case measure => have := G.out.1; omega
      · have e1 : k = l.length := by omega
        subst e1
        rw [List.take_of_length_le (Nat.le_refl _)] at hown
        rw [List.take_of_length_le (Nat.le_refl _)]
        have kw := H.out.2.2.1.trans hkp
        have t1 := hkp.heap H.out.2.2.2.1 (fun h => h)
        have r0 := cells_at t1 (j := 0) (v := .int .i64 b.par) rfl
        have r1 := cells_at t1 (j := 1) (v := .slice mb b.nodes.length mcap) rfl
        have hsz1 : w.heap.size + 1 < wo.heap.size := (Array.getElem?_eq_some_iff.1 t1).1
        have cl := load_any b _ _ (keptL l) wo (H.out.1.pure kw) (Reads.of_owns hown) (fun s hs => H.out.2.1 s ((List.mem_filter.1 hs).1))
        have G := Lib.hid kw
        clear hown hkp hg hlt kw t1
        go_wp2_with fail
        (with_reducible refine cl.mono ?_)
        clear cl r0 r1
        intro e w3 hq
        unfold LoadQ at hq
        cases hl : loadP b (keptL l) with
        | error er =>
          rw [hl] at hq
          obtain ⟨rfl, hne, k3⟩ := hq
          have cs := states_nil w3
          have F := Lib.hid (show CarryQ w (carryP a b l) (.returned (.tuple #[.slice none 0 0, .int .i64 er])) w3 from by
            unfold carryP
            rw [if_neg (by rw [HZ.out]; simp), hl]
            exact ⟨rfl, hne, G.out.trans k3⟩)
          clear hl k3
          go_wp2_with fail
          (with_reducible refine cs.mono ?_)
          clear cs
          rintro e w4 ⟨rfl, rfl⟩
          go_wp2_with fail
          go_ret2
          exact F.out
        | ok Us =>
          rw [hl] at hq
          obtain ⟨bi, mi, pm, rfl, hi, -, -, k3⟩ := hq
          obtain ⟨hok, hT⟩ := load_ok hl
          have hsm := jobOk_small hok
          have cs := states_any b bi mi Us pm w3 hi hT.len (by omega)
          have HL := Lib.hid (And.intro hl (G.out.trans k3))
          clear hl k3 hi hok hT hsm
          go_wp2_with fail
          (with_reducible refine cs.mono ?_)
          clear cs
          rintro e w4 ⟨v4, rfl, hv4, -, k4⟩
          have F := Lib.hid (show CarryQ w (carryP a b l) (.returned (.tuple #[v4, .int .i64 0])) w4 from by
            unfold carryP
            rw [if_neg (by rw [HZ.out]; simp), HL.out.1]
            exact ⟨_, rfl, hv4, HL.out.2.trans k4⟩)
          obtain ⟨v4a, v4c, rfl, -⟩ := hv4.stAt
          clear hv4 k4
          go_wp2_with fail
          go_ret2
          exact F.out
  · have F := Lib.hid (show CarryQ w (carryP a b l) (.returned (.tuple #[.slice none 0 0, .int .i64 (checkP a b l).2])) w2 from by
      unfold carryP
      rw [if_pos hz]
      exact ⟨rfl, hz, H.out.2.2.1.trans k2⟩)
    obtain ⟨er, her⟩ : ∃ er, (checkP a b l).2 = er := ⟨_, rfl⟩
    rw [her] at hz F ⊢
    clear k2 her
    go_wp2_with fail
    go_ret2
    exact F.out
end Go.Proofs.YtopeleenlcnkkaaGreatDoor
