/-
  OperMerged: its walk.
-/
import Derived.Test.YtglbkodmmogomaaGreatDoorF18
set_option linter.unusedVariables false
set_option linter.unusedSimpArgs false
namespace Go.Proofs.YtglbkodmmogomaaGreatDoor
open Go Go.RowKit
attribute [local irreducible] wpL
theorem Rows2.two {w : World} {va vb : Value} {A B : List Rec} (ha : Reads w 3 va (recs A)) (hb : Reads w 3 vb (recs B)) : Rows2 (w.alloc (.cells #[va, vb] 60)) (.slice (some ⟨w.heap.size, 0, none⟩) 2 2) [A, B] := by
  refine ⟨[va, vb], rfl, Reads.lit w [va, vb] 60 1 2 rfl (by unfold maxLen; omega), fun i u L h1 h2 => ?_⟩
  match i, h1, h2 with
  | 0, h1, h2 => cases h1; cases h2; exact ha.pure ((Kept.refl none' w).alloc _)
  | 1, h1, h2 => cases h1; cases h2; exact hb.pure ((Kept.refl none' w).alloc _)
theorem Rows2.one {w : World} {va : Value} {A : List Rec} (ha : Reads w 3 va (recs A)) : Rows2 (w.alloc (.cells #[va] 60)) (.slice (some ⟨w.heap.size, 0, none⟩) 1 1) [A] := by
  refine ⟨[va], rfl, Reads.lit w [va] 60 1 1 rfl (by unfold maxLen; omega), fun i u L h1 h2 => ?_⟩
  match i, h1, h2 with
  | 0, h1, h2 => cases h1; cases h2; exact ha.pure ((Kept.refl none' w).alloc _)
end Go.Proofs.YtglbkodmmogomaaGreatDoor
/-
  Gets: what a node gets of rows of records (oper.Gets).
-/
namespace Go.Proofs.YtglbkodmmogomaaGreatDoor
open Go Go.RowKit
attribute [local irreducible] wpL
/-- A row of the call's own, one cell written. -/
theorem own_set {w : World} {base e size n g cap : Nat} {xs : List Value} (h : w.ownsRow base e size (.slice (some ⟨g, 0, none⟩) n cap) n xs) (i : Nat) (x : Value) (hi : i < n * size) :
    (w.setCell ⟨g, i, none⟩ x).ownsRow base e size (.slice (some ⟨g, 0, none⟩) n cap) n (xs.set i x) ∧ (∃ v0, w.cell? ⟨g, i, none⟩ = some v0) ∧ w.frozen? ⟨g, i, none⟩ = false := by
  obtain ⟨hl, h2⟩ := h
  rcases h2 with ⟨e', _⟩ | ⟨g', cap', cur, e', hb, hg, hn, hc, hs, ht⟩
  · cases e'
  · injection e' with e1 e2 e3
    injection e1 with e1
    injection e1 with e1
    subst e1 e3
    have hisz : i < cur.size := by rw [hs]; exact Nat.lt_of_lt_of_le hi (Nat.mul_le_mul_right _ hn)
    refine ⟨⟨by rw [List.length_set]; exact hl, .inr ⟨g, cap, _, rfl, hb, set_at hg i x, hn, hc, by simp [hs], ?_⟩⟩, ⟨cur[i], ?_⟩, free_at hg i⟩
    · rw [← ht, Array.toList_setIfInBounds, List.take_set]
    · exact cells_at hg (by simp [hisz])
theorem recs_set (L : List Rec) : ∀ (j : Nat) (r : Rec) (p : Int), L[j]? = some r → (recs L).set (j * 3) (.int .i64 p) = recs (L.set j { r with pos := p }) := by
  induction L with
  | nil => intro j r p h; cases h
  | cons x L ih =>
    intro j r p h
    match j, h with
    | 0, h => cases h; rfl
    | j + 1, h =>
      have := ih j r p (by simpa using h)
      rw [show (j + 1) * 3 = j * 3 + 1 + 1 + 1 by omega]
      show (Value.int .i64 x.pos) :: (Value.int .i64 x.key) :: (Value.int .i64 x.val) :: (recs L).set (j * 3) (.int .i64 p) = _
      rw [this]; rfl
/-- The first ones widened. -/
def widK (b k : Nat) (L : List Rec) : List Rec := (L.take k).map (wideR b) ++ L.drop k
theorem widK_length (b k : Nat) (L : List Rec) : (widK b k L).length = L.length := by
  unfold widK; rw [List.length_append, List.length_map, List.length_take, List.length_drop]; omega
theorem widK_at {b k : Nat} {L : List Rec} {r : Rec} (h : L[k]? = some r) : (widK b k L)[k]? = some r ∧ (widK b k L).set k (wideR b r) = widK b (k + 1) L := by
  have hlt := (List.getElem?_eq_some_iff.1 h).1
  have hl : ((L.take k).map (wideR b)).length = k := by rw [List.length_map, List.length_take]; omega
  have hd : L.drop k = r :: L.drop (k + 1) := by
    obtain ⟨_, rfl⟩ := List.getElem?_eq_some_iff.1 h
    exact List.drop_eq_getElem_cons hlt
  unfold widK
  rw [hd]
  refine ⟨by rw [get_mid hl], ?_⟩
  rw [set_mid hl, List.take_add_one, h, List.map_append]
  simp
theorem widK_end (b : Nat) (L : List Rec) : widK b L.length L = L.map (wideR b) := by unfold widK; simp
theorem widK_zero (b : Nat) (L : List Rec) : widK b 0 L = L := by unfold widK; simp
theorem Tryz.info60 : ∃ i z, Tryz.prog.info? 60 = some i ∧ i.zero = some z ∧ i.size = 1 ∧ i.bytes = 24 ∧ z.cells.size = 1 := by
  have h : (Tryz.prog.info? 60).map (fun i => (i.zero, i.size, i.bytes)) = some (some (.slice none 0 0), 1, 24) := by kernel_rfl
  obtain ⟨i, h1, h2, h3, h4⟩ := info_parts h
  exact ⟨i, _, h1, h2, h3, h4, rfl⟩
def GetsQ (w : World) (L : List Rec) (e : Ending) (w' : World) : Prop := ∃ v, e = .returned v ∧ Reads w' 3 v (recs L) ∧ (∀ b, Value.blk v = some b → w.heap.size ≤ b) ∧ Kept none' w w'
set_option maxRecDepth 100000 in
set_option maxHeartbeats 1000000 in
theorem gets_plain (na : Array Value) (nd : Nod) (v : Value) (LL : List (List Rec)) (w : World) (hn : NodAt w na nd) (h8 : nd.kind ≠ 8) (hr : Rows2 w v LL) (hb : LL.flatten.length ≤ 1073741824) :
    Calls Tryz.prog 68 #[.agg na, v] w (GetsQ w (getsL nd.kind LL)) := by
  have hg : getsL nd.kind LL = smerge LL.flatten := by unfold getsL; rw [if_neg h8]
  rw [hg]
  obtain ⟨uid, inv, p, cap, rfl, hx, hk0, hk1, hn64⟩ := hn
  have h8b : (nd.kind != 8) = true := by simp [h8]
  have HR := Lib.hid hr
  clear hr hx h8 hg
  go_enter Tryz.func68, Tryz.ntmps68
  go_wp2_with fail
  have k1 : Kept none' w (w.alloc (.cells #[.string uid, .int .u8 nd.kind, inv, .int .u8 nd.x.op, .int .i64 nd.x.n, .slice p nd.x.args.length cap, .int .i64 nd.n] 42)) := (Kept.refl _ _).alloc _
  have c := merge_any v LL _ (HR.out.pure k1) hb
  (with_reducible refine c.mono ?_)
  clear c
  rintro e w2 ⟨u, rfl, r1, r2, k2⟩
  have F := Lib.hid (show GetsQ w (smerge LL.flatten) (.returned u) w2 from ⟨u, rfl, r1, fun b hb => Nat.le_trans k1.size (r2 b hb), k1.trans k2⟩)
  obtain ⟨ua, uc, rfl, _, _⟩ := r1.len
  clear r1 r2 k1 k2
  go_wp2_with fail
  go_ret
  exact F.out
end Go.Proofs.YtglbkodmmogomaaGreatDoor
/-
  Gets of a union: its walk.
-/
namespace Go.Proofs.YtglbkodmmogomaaGreatDoor
open Go Go.RowKit
attribute [local irreducible] wpL
/-- The rows that were widened, and the slice that holds them. -/
structure AllAt (w : World) (base : Nat) (va : Value) (vs : List Value) (LL : List (List Rec)) (k : Nat) : Prop where
  own : w.ownsRow base 60 1 va k vs
  len : vs.length = k
  each : ∀ (i : Nat) (u : Value) (L : List Rec), vs[i]? = some u → LL[i]? = some L → w.ownsRow base 68 3 u L.length (recs (L.map (wideR i)))
theorem own_types {w : World} {base base' e e' size size' n n' : Nat} {v v' : Value} {xs xs' : List Value} (h : w.ownsRow base e size v n xs) (h' : w.ownsRow base' e' size' v' n' xs') (hne : e ≠ e') : ∀ k, v.ownBlock = some k → v'.ownBlock = some k → False := by
  intro k hk hk'
  rcases h.2 with ⟨e1, _⟩ | ⟨g, cap, cur, e1, _, hg, _⟩
  · rw [e1] at hk; cases hk
  · rcases h'.2 with ⟨e2, _⟩ | ⟨g', cap', cur', e2, _, hg', _⟩
    · rw [e2] at hk'; cases hk'
    · rw [e1] at hk; rw [e2] at hk'
      simp [Value.ownBlock] at hk hk'
      subst hk hk'
      rw [hg] at hg'
      injection hg' with hg'
      injection hg' with _ hg' _
      exact hne hg'
theorem AllAt.kept {w w' : World} {base : Nat} {va : Value} {vs : List Value} {LL : List (List Rec)} {k : Nat} {S : Nat → Prop} (h : AllAt w base va vs LL k) (hk : Kept S w w') (hS : ∀ j, S j → w.heap.size ≤ j) : AllAt w' base va vs LL k := by
  have no : ∀ {e size n : Nat} {v : Value} {xs : List Value}, w.ownsRow base e size v n xs → ∀ j, v.ownBlock = some j → ¬ S j := fun ho j hj hs => by
    have := (owns_own ho hj).2; have := hS j hs; omega
  exact ⟨hk.owns h.own (no h.own), h.len, fun i u L h1 h2 => hk.owns (h.each i u L h1 h2) (no (h.each i u L h1 h2))⟩
theorem AllAt.lt {w : World} {base : Nat} {va : Value} {vs : List Value} {LL : List (List Rec)} {k : Nat} (h : AllAt w base va vs LL k) : ∀ j, va.ownBlock = some j → j < w.heap.size := fun _ hj => (owns_own h.own hj).2
/-- One more row. -/
theorem AllAt.push {w : World} {base : Nat} {va u : Value} {vs : List Value} {LL : List (List Rec)} {L : List Rec} {k : Nat} (h : AllAt w base va vs LL k) (hu : w.ownsRow base 68 3 u L.length (recs (L.map (wideR k)))) (hL : LL[k]? = some L) (hb : base ≤ w.heap.size) (hk : k ≤ 1000) :
    ∃ va' w', (Builtin.append_ #[142, 142] 142 #[va, .slice (some ⟨w.heap.size, 0, none⟩) 1 1]).run Tryz.prog (w.alloc (.cells #[u] 60)) = .ok va' w' ∧ AllAt w' base va' (vs ++ [u]) LL (k + 1) ∧ Kept (fun j => base ≤ j) w w' := by
  obtain ⟨i, z, hi, hz, hs, hby, hzs⟩ := Tryz.info60
  have kx : Kept none' w (w.alloc (.cells #[u] 60)) := (Kept.refl _ _).alloc _
  obtain ⟨ua, uc, rfl⟩ := owns_slice hu
  have own' := kx.owns h.own (fun _ _ h => h)
  have hu' := kx.owns hu (fun _ _ h => h)
  have hr := Reads.lit w [.slice ua L.length uc] 60 1 1 rfl (by unfold maxLen; omega)
  obtain ⟨v', n', w', g1, g2, g3, g4, g5⟩ := run_append_reads (P := Tryz.prog) base 142 142 60 i z 1 24 Tryz.underlying142 hi hz hs hby hzs (by omega) own' hr (by intro x hx; simp at hx; subst hx; rfl) (by simp; omega) (by unfold maxLen; simp; omega) (Nat.le_trans hb kx.size)
  have hn' : n' = k + 1 := by simp at g3; omega
  subst hn'
  refine ⟨v', w', g1, ⟨g2, by rw [List.length_append, h.len]; rfl, fun j y M h1 h2 => ?_⟩, ?_⟩
  · have kg : Kept (fun j => va.ownBlock = some j) (w.alloc (.cells #[.slice ua L.length uc] 60)) w' := Kept.grown g4 (fun j hj _ => hj)
    have hcase : (∃ y', vs[j]? = some y' ∧ y' = y) ∨ (j = k ∧ y = .slice ua L.length uc) := by
      rw [List.getElem?_append] at h1
      split at h1
      · exact .inl ⟨y, h1, rfl⟩
      · rename_i hlt
        rw [h.len] at h1 hlt
        have : j = k := by
          have := (List.getElem?_eq_some_iff.1 h1).1
          simp at this; omega
        subst this
        simp at h1
        exact .inr ⟨rfl, h1.symm⟩
    rcases hcase with ⟨y', hy, rfl⟩ | ⟨rfl, rfl⟩
    · have ho := kx.owns (h.each j y' M hy h2) (fun _ _ h => h)
      exact kg.owns ho (fun q hq hs => own_types ho own' (by omega) q hq hs)
    · rw [hL] at h2
      cases h2
      exact kg.owns hu' (fun q hq hs => own_types hu' own' (by omega) q hq hs)
  · exact kx.pure.trans (Kept.grown g4 (fun j hj _ => (owns_own h.own hj).1))
set_option maxRecDepth 100000 in
set_option maxHeartbeats 2000000 in
theorem gets_union (na : Array Value) (nd : Nod) (v : Value) (LL : List (List Rec)) (w : World) (hn : NodAt w na nd) (h8 : nd.kind = 8) (hr : Rows2 w v LL) (hb : LL.flatten.length ≤ 1073741) (hll : LL.length ≤ 1000) :
    Calls Tryz.prog 68 #[.agg na, v] w (GetsQ w (getsL nd.kind LL)) := by
  have hg : getsL nd.kind LL = smerge (wideL 0 LL).flatten := by unfold getsL; rw [if_pos h8]
  rw [hg]
  obtain ⟨uid, inv, p, cap, rfl, hx, hk0, hk1, hn64⟩ := hn
  obtain ⟨vs0, hv0, hrd, hev⟩ := hr
  obtain ⟨pa, n0, pcap, rfl, hc1, hc2, hc3, hcl⟩ := hrd
  have hn0 : n0 = LL.length := by omega
  subst hn0
  unfold maxLen at hc2
  have HE := Lib.hid (And.intro hv0 (And.intro hcl hev))
  rw [h8]
  clear hx hg hv0 hc3 hcl hev hk0 hk1
  go_enter Tryz.func68, Tryz.ntmps68
  go_wp2_with fail
  obtain ⟨W0, hW0⟩ : ∃ W0, w.alloc (.cells #[.string uid, .int .u8 8, inv, .int .u8 nd.x.op, .int .i64 nd.x.n, .slice p nd.x.args.length cap, .int .i64 nd.n] 42) = W0 := ⟨_, rfl⟩
  have k0 : Kept none' w W0 := by rw [← hW0]; exact (Kept.refl _ _).alloc _
  rw [hW0]
  have K0 := Lib.hid k0
  clear hW0 k0
  go_loopg [5, 17] LL.length (fun g va vi wr => ∃ (k : Nat) (vs : List Value), k ≤ LL.length ∧ vi = .int .i64 (k : Int) ∧ LL.length - k ≤ g ∧ AllAt wr W0.heap.size va vs LL k ∧ Kept none' W0 wr)
  case atStart => exact ⟨0, [], by omega, rfl, by omega, ⟨World.ownsRow_nil _ _ _ _, rfl, fun i u L h => by cases h⟩, Kept.refl _ _⟩
  case round =>
    obtain ⟨k, vs, hkl, rfl, hgk, hall, hkp⟩ := hrel
    obtain ⟨wo, rfl⟩ : ∃ wo : World, wo = wr := ⟨_, rfl⟩
    obtain ⟨va, vac, rfl⟩ := owns_slice hall.own
    by_cases hlt : k < LL.length
    · obtain ⟨L, hL⟩ : ∃ L, LL[k]? = some L := ⟨_, List.getElem?_eq_getElem hlt⟩
      obtain ⟨u, hu⟩ : ∃ u, vs0[k]? = some u := ⟨_, List.getElem?_eq_getElem (by rw [HE.out.1]; exact hlt)⟩
      have hru := HE.out.2.2 k u L hu hL
      obtain ⟨ua, uc, rfl, hu1, hu2⟩ := hru.len
      obtain ⟨pb, po, rfl, hpc⟩ := HE.out.2.1.resolve_left (fun h => by rw [h] at hu; cases hu)
      have q0 := (K0.out.trans hkp).cell (p := ⟨pb, po + k, none⟩) (fun h => h) (hpc k _ hu)
      have hLb : L.length ≤ 1073741 := by
        have : L.length ≤ LL.flatten.length := by
          have hm : L ∈ LL := List.mem_of_getElem? hL
          exact (List.sublist_flatten_of_mem hm).length_le
        omega
      have A := Lib.hid (And.intro hgk (And.intro hall (And.intro hkp (And.intro hL hru))))
      clear hgk hall hkp hL hu hru hpc
      go_wp2_with fail
      have c := clone_rec (.slice ua L.length uc) (recs L) wo (A.out.2.2.2.2.pure (K0.out.trans A.out.2.2.1)) (recs_one L) (by rw [recs_length]; omega)
      (with_reducible refine c.mono ?_)
      clear c
      rintro e W1 ⟨v', n', rfl, g1, g2, k1⟩
      rw [recs_length] at g2
      have hn' : n' = L.length := by omega
      subst hn'
      obtain ⟨oa, oc, rfl⟩ := owns_slice g1
      have hsz1 : W0.heap.size ≤ wo.heap.size := A.out.2.2.1.size
      have Z := Lib.hid (And.intro g1 k1)
      clear g1 g2 k1
      go_wp2_with fail
      go_loopg [26] L.length (fun g vi wr2 => ∃ j : Nat, j ≤ L.length ∧ vi = .int .i64 (j : Int) ∧ L.length - j ≤ g ∧ wr2.ownsRow wo.heap.size 68 3 (.slice oa L.length oc) L.length (recs (widK k j L)) ∧ Kept none' wo wr2)
      case atStart => exact ⟨0, by omega, rfl, by omega, by rw [widK_zero]; exact Z.out.1, Z.out.2⟩
      case round =>
        obtain ⟨j, hjl, rfl, hgj, hown, hkj⟩ := hrel
        by_cases hjt : j < L.length
        · obtain ⟨r, hr⟩ : ∃ r, L[j]? = some r := ⟨_, List.getElem?_eq_getElem hjt⟩
          obtain ⟨w1, w2⟩ := widK_at (b := k) hr
          obtain ⟨g0, hg0⟩ : ∃ g0, oa = some ⟨g0, 0, none⟩ := by
            rcases hown.2 with ⟨e1, e2⟩ | ⟨g, cap, cur, e1, _⟩
            · omega
            · injection e1 with e1; exact ⟨g, e1⟩
          subst hg0
          obtain ⟨s1, ⟨v0, s2⟩, s3⟩ := own_set hown (j * 3) (.int .i64 (wrap64 (wrap64 (8 * r.pos) + (k : Int)))) (by omega)
          rw [recs_set (widK k j L) j r _ w1] at s1
          rw [show ({ r with pos := wrap64 (wrap64 (8 * r.pos) + (k : Int)) } : Rec) = wideR k r from rfl, w2] at s1
          have hrr := Reads.of_owns hown
          obtain ⟨ra, rcap, re, _, _, rcell⟩ := hrr.recAt
          injection re with re1 re2 re3
          subst re1
          obtain ⟨b', off', e', rcell⟩ := rcell.resolve_left (fun h => by have := widK_length k j L; rw [h] at this; simp at this; omega)
          cases e'
          obtain ⟨t0, _, _⟩ := rcell j r w1
          rw [Nat.zero_add] at t0
          have hgs : wo.heap.size ≤ g0 := (owns_own hown (b := g0) rfl).1
          have B := Lib.hid (And.intro hgj (And.intro s1 (hkj.setCell (p := ⟨g0, j * 3, none⟩) (.inr hgs) (.int .i64 (wrap64 (wrap64 (8 * r.pos) + (k : Int)))))))
          clear s1 s2 hown hkj hgj w1 w2 hr rcell hrr
          go_wp2_with fail
          go_roundg (L.length - (j + 1))
          case rel => exact ⟨j + 1, by omega, by go_num, Nat.le_refl _, B.out.2.1, B.out.2.2⟩
          case measure => have := B.out.1; omega
        · have hje : j = L.length := by omega
          subst hje
          rw [widK_end] at hown
          have hall2 := A.out.2.1.kept hkj (fun _ h => h.elim)
          obtain ⟨va', w', h1, h2, h3⟩ := hall2.push (owns_base hown hsz1) A.out.2.2.2.1 (Nat.le_trans hsz1 hkj.size) (by omega)
          obtain ⟨va2, vc2, rfl⟩ := owns_slice h2.own
          have B := Lib.hid (And.intro h1 (And.intro h2 ((A.out.2.2.1.trans hkj).new h3 (fun i hi hs => by omega))))
          clear h1 h2 h3 hall2 hown hkj hgj
          go_wp2_with (at_builtin; refine wpList_append_run rfl (.tmp 42) (.tmp 44) 142 rfl _ _ _ rfl rfl B.out.1 ?_)
          go_roundg (LL.length - (k + 1))
          case rel => exact ⟨k + 1, _, by omega, by go_num, Nat.le_refl _, B.out.2.1, B.out.2.2⟩
          case measure => have := A.out.1; omega
    · have hke : k = LL.length := by omega
      subst hke
      have hrows : Rows2 wo (.slice va LL.length vac) (wideL 0 LL) := by
        refine ⟨vs, by rw [wideL_length]; exact hall.len, Reads.of_owns hall.own, fun i y M h1 h2 => ?_⟩
        rw [wideL_get, Nat.zero_add] at h2
        obtain ⟨M', hM, rfl⟩ := Option.map_eq_some_iff.1 h2
        exact Reads.of_owns (hall.each i y M' h1 hM)
      have HR := Lib.hid (And.intro hrows hkp)
      clear hrows hall hkp
      go_wp2_with fail
      have c := merge_any _ (wideL 0 LL) wo HR.out.1 (by rw [wideL_flat]; omega)
      (with_reducible refine c.mono ?_)
      clear c
      rintro e w2 ⟨u, rfl, r1, r2, k2⟩
      have F := Lib.hid (show GetsQ w (smerge (wideL 0 LL).flatten) (.returned u) w2 from ⟨u, rfl, r1, fun b hb => Nat.le_trans (K0.out.trans HR.out.2).size (r2 b hb), (K0.out.trans HR.out.2).trans k2⟩)
      obtain ⟨ra, rc, rfl, _, _⟩ := r1.len
      clear r1 r2 k2
      go_wp2_with fail
      go_ret
      exact F.out
theorem gets_any (na : Array Value) (nd : Nod) (v : Value) (LL : List (List Rec)) (w : World) (hn : NodAt w na nd) (hr : Rows2 w v LL) (hb : LL.flatten.length ≤ 1073741) (hll : LL.length ≤ 1000) :
    Calls Tryz.prog 68 #[.agg na, v] w (GetsQ w (getsL nd.kind LL)) := by
  by_cases h : nd.kind = 8
  · exact gets_union na nd v LL w hn h hr hb hll
  · exact gets_plain na nd v LL w hn h hr (by omega)
end Go.Proofs.YtglbkodmmogomaaGreatDoor
/-
  The document's Merge: its walk.
-/
namespace Go.Proofs.YtglbkodmmogomaaGreatDoor
open Go Go.RowKit
attribute [local irreducible] wpL
end Go.Proofs.YtglbkodmmogomaaGreatDoor
