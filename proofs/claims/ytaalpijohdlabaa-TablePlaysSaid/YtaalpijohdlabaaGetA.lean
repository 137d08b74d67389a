/-
  Gets: what a node gets of rows of records (oper.Gets).
-/
import Derived.Test.YtaalpijohdlabaaMrg1
namespace Go.Proofs.Ytaalpijohdlabaa
open Go Go.RowKit
attribute [local irreducible] wpL
def wideR (b : Nat) (r : Rec) : Rec := { r with pos := wrap64 (wrap64 (8 * r.pos) + (b : Int)) }
def wideL : Nat → List (List Rec) → List (List Rec)
  | _, [] => []
  | b, L :: LL => L.map (wideR b) :: wideL (b + 1) LL
def getsL (kind : Int) (LL : List (List Rec)) : List Rec := smerge (if kind = 8 then wideL 0 LL else LL).flatten
theorem wideL_length : ∀ (b : Nat) (LL : List (List Rec)), (wideL b LL).length = LL.length
  | _, [] => rfl
  | b, L :: LL => by simp [wideL, wideL_length (b + 1) LL]
theorem wideL_get : ∀ (b : Nat) (LL : List (List Rec)) (i : Nat), (wideL b LL)[i]? = LL[i]?.map (fun L => L.map (wideR (b + i)))
  | _, [], i => by simp [wideL]
  | b, L :: LL, 0 => by simp [wideL]
  | b, L :: LL, i + 1 => by
    simp only [wideL, List.getElem?_cons_succ, wideL_get (b + 1) LL i]
    congr 2; funext L; congr 2; omega
theorem wideL_flat : ∀ (b : Nat) (LL : List (List Rec)), (wideL b LL).flatten.length = LL.flatten.length
  | _, [] => rfl
  | b, L :: LL => by simp [wideL, wideL_flat (b + 1) LL]
/-- A row of the call's own, one cell written. -/
theorem own_set {w : World} {base e size n g cap : Nat} {xs : List Value} (h : w.ownsRow base e size (.slice (some ⟨g, 0, none⟩) n cap) n xs) (i : Nat) (x : Value) (hi : i < n * size) :
    (w.setCell ⟨g, i, none⟩ x).ownsRow base e size (.slice (some ⟨g, 0, none⟩) n cap) n (xs.set i x) ∧ (∃ v0, w.cell? ⟨g, i, none⟩ = some v0) ∧ w.frozen? ⟨g, i, none⟩ = false := by
  obtain ⟨hl, h2⟩ := h
  rcases h2 with ⟨e', _⟩ | ⟨g', cap', cur, e', hb, hg, hn, hc, hs, ht⟩
  · cases e'
  · injection e' with e1 e2 e3
    injection e1 with e1
    injection e1 with e1
    subst e1 e3
    have hisz : i < cur.size := by rw [hs]; exact Nat.lt_of_lt_of_le hi (Nat.mul_le_mul_right _ hn)
    refine ⟨⟨by rw [List.length_set]; exact hl, .inr ⟨g, cap, _, rfl, hb, set_at hg i x, hn, hc, by simp [hs], ?_⟩⟩, ⟨cur[i], ?_⟩, free_at hg i⟩
    · rw [← ht, Array.toList_setIfInBounds, List.take_set]
    · exact cells_at hg (by simp [hisz])
theorem recs_set (L : List Rec) : ∀ (j : Nat) (r : Rec) (p : Int), L[j]? = some r → (recs L).set (j * 3) (.int .i64 p) = recs (L.set j { r with pos := p }) := by
  induction L with
  | nil => intro j r p h; cases h
  | cons x L ih =>
    intro j r p h
    match j, h with
    | 0, h => cases h; rfl
    | j + 1, h =>
      have := ih j r p (by simpa using h)
      rw [show (j + 1) * 3 = j * 3 + 1 + 1 + 1 by omega]
      show (Value.int .i64 x.pos) :: (Value.int .i64 x.key) :: (Value.int .i64 x.val) :: (recs L).set (j * 3) (.int .i64 p) = _
      rw [this]; rfl
/-- The first ones widened. -/
def widK (b k : Nat) (L : List Rec) : List Rec := (L.take k).map (wideR b) ++ L.drop k
theorem widK_length (b k : Nat) (L : List Rec) : (widK b k L).length = L.length := by
  unfold widK; rw [List.length_append, List.length_map, List.length_take, List.length_drop]; omega
theorem widK_at {b k : Nat} {L : List Rec} {r : Rec} (h : L[k]? = some r) : (widK b k L)[k]? = some r ∧ (widK b k L).set k (wideR b r) = widK b (k + 1) L := by
  have hlt := (List.getElem?_eq_some_iff.1 h).1
  have hl : ((L.take k).map (wideR b)).length = k := by rw [List.length_map, List.length_take]; omega
  have hd : L.drop k = r :: L.drop (k + 1) := by
    obtain ⟨_, rfl⟩ := List.getElem?_eq_some_iff.1 h
    exact List.drop_eq_getElem_cons hlt
  unfold widK
  rw [hd]
  refine ⟨by rw [get_mid hl], ?_⟩
  rw [set_mid hl, List.take_add_one, h, List.map_append]
  simp
theorem widK_end (b : Nat) (L : List Rec) : widK b L.length L = L.map (wideR b) := by unfold widK; simp
theorem widK_zero (b : Nat) (L : List Rec) : widK b 0 L = L := by unfold widK; simp
theorem Try.info42 : ∃ i z, Try.prog.info? 42 = some i ∧ i.zero = some z ∧ i.size = 1 ∧ i.bytes = 24 ∧ z.cells.size = 1 := by
  have h : (Try.prog.info? 42).map (fun i => (i.zero, i.size, i.bytes)) = some (some (.slice none 0 0), 1, 24) := by kernel_rfl
  obtain ⟨i, h1, h2, h3, h4⟩ := info_parts h
  exact ⟨i, _, h1, h2, h3, h4, rfl⟩
def GetsQ (w : World) (L : List Rec) (e : Ending) (w' : World) : Prop := ∃ v, e = .returned v ∧ Reads w' 3 v (recs L) ∧ (∀ b, Value.blk v = some b → w.heap.size ≤ b) ∧ Kept none' w w'
set_option maxRecDepth 100000 in
set_option maxHeartbeats 1000000 in
theorem gets_plain (na : Array Value) (nd : Nod) (v : Value) (LL : List (List Rec)) (w : World) (hn : NodAt w na nd) (h8 : nd.kind ≠ 8) (hr : Rows2 w v LL) (hb : LL.flatten.length ≤ 1073741824) :
    Calls Try.prog 29 #[.agg na, v] w (GetsQ w (getsL nd.kind LL)) := by
  have hg : getsL nd.kind LL = smerge LL.flatten := by unfold getsL; rw [if_neg h8]
  rw [hg]
  obtain ⟨uid, inv, p, cap, rfl, hx, hk0, hk1, hn64⟩ := hn
  have h8b : (nd.kind != 8) = true := by simp [h8]
  have HR := Lib.hid hr
  clear hr hx h8 hg
  go_enter Try.func29, Try.ntmps29
  go_wp2_with fail
  have k1 : Kept none' w (w.alloc (.cells #[.string uid, .int .u8 nd.kind, inv, .int .u8 nd.x.op, .int .i64 nd.x.n, .slice p nd.x.args.length cap, .int .i64 nd.n] 54)) := (Kept.refl _ _).alloc _
  have c := merge_any v LL _ (HR.out.pure k1) hb
  (with_reducible refine c.mono ?_)
  clear c
  rintro e w2 ⟨u, rfl, r1, r2, k2⟩
  have F := Lib.hid (show GetsQ w (smerge LL.flatten) (.returned u) w2 from ⟨u, rfl, r1, fun b hb => Nat.le_trans k1.size (r2 b hb), k1.trans k2⟩)
  obtain ⟨ua, uc, rfl, _, _⟩ := r1.len
  clear r1 r2 k1 k2
  go_wp2_with fail
  go_ret
  exact F.out
end Go.Proofs.Ytaalpijohdlabaa
/-
  Gets of a union: its walk.
-/
namespace Go.Proofs.Ytaalpijohdlabaa
open Go Go.RowKit
attribute [local irreducible] wpL
/-- The rows that were widened, and the slice that holds them. -/
structure AllAt (w : World) (base : Nat) (va : Value) (vs : List Value) (LL : List (List Rec)) (k : Nat) : Prop where
  own : w.ownsRow base 42 1 va k vs
  len : vs.length = k
  each : ∀ (i : Nat) (u : Value) (L : List Rec), vs[i]? = some u → LL[i]? = some L → w.ownsRow base 46 3 u L.length (recs (L.map (wideR i)))
theorem own_types {w : World} {base base' e e' size size' n n' : Nat} {v v' : Value} {xs xs' : List Value} (h : w.ownsRow base e size v n xs) (h' : w.ownsRow base' e' size' v' n' xs') (hne : e ≠ e') : ∀ k, v.ownBlock = some k → v'.ownBlock = some k → False := by
  intro k hk hk'
  rcases h.2 with ⟨e1, _⟩ | ⟨g, cap, cur, e1, _, hg, _⟩
  · rw [e1] at hk; cases hk
  · rcases h'.2 with ⟨e2, _⟩ | ⟨g', cap', cur', e2, _, hg', _⟩
    · rw [e2] at hk'; cases hk'
    · rw [e1] at hk; rw [e2] at hk'
      simp [Value.ownBlock] at hk hk'
      subst hk hk'
      rw [hg] at hg'
      injection hg' with hg'
      injection hg' with _ hg' _
      exact hne hg'
theorem AllAt.kept {w w' : World} {base : Nat} {va : Value} {vs : List Value} {LL : List (List Rec)} {k : Nat} {S : Nat → Prop} (h : AllAt w base va vs LL k) (hk : Kept S w w') (hS : ∀ j, S j → w.heap.size ≤ j) : AllAt w' base va vs LL k := by
  have no : ∀ {e size n : Nat} {v : Value} {xs : List Value}, w.ownsRow base e size v n xs → ∀ j, v.ownBlock = some j → ¬ S j := fun ho j hj hs => by
    have := (owns_own ho hj).2; have := hS j hs; omega
  exact ⟨hk.owns h.own (no h.own), h.len, fun i u L h1 h2 => hk.owns (h.each i u L h1 h2) (no (h.each i u L h1 h2))⟩
theorem AllAt.lt {w : World} {base : Nat} {va : Value} {vs : List Value} {LL : List (List Rec)} {k : Nat} (h : AllAt w base va vs LL k) : ∀ j, va.ownBlock = some j → j < w.heap.size := fun _ hj => (owns_own h.own hj).2
/-- One more row. -/
theorem AllAt.push {w : World} {base : Nat} {va u : Value} {vs : List Value} {LL : List (List Rec)} {L : List Rec} {k : Nat} (h : AllAt w base va vs LL k) (hu : w.ownsRow base 46 3 u L.length (recs (L.map (wideR k)))) (hL : LL[k]? = some L) (hb : base ≤ w.heap.size) (hk : k ≤ 1000) :
    ∃ va' w', (Builtin.append_ #[57, 57] 57 #[va, .slice (some ⟨w.heap.size, 0, none⟩) 1 1]).run Try.prog (w.alloc (.cells #[u] 42)) = .ok va' w' ∧ AllAt w' base va' (vs ++ [u]) LL (k + 1) ∧ Kept (fun j => base ≤ j) w w' := by
  obtain ⟨i, z, hi, hz, hs, hby, hzs⟩ := Try.info42
  have kx : Kept none' w (w.alloc (.cells #[u] 42)) := (Kept.refl _ _).alloc _
  obtain ⟨ua, uc, rfl⟩ := owns_slice hu
  have own' := kx.owns h.own (fun _ _ h => h)
  have hu' := kx.owns hu (fun _ _ h => h)
  have hr := Reads.lit w [.slice ua L.length uc] 42 1 1 rfl (by unfold maxLen; omega)
  obtain ⟨v', n', w', g1, g2, g3, g4, g5⟩ := run_append_reads (P := Try.prog) base 57 57 42 i z 1 24 Try.underlying57 hi hz hs hby hzs (by omega) own' hr (by intro x hx; simp at hx; subst hx; rfl) (by simp; omega) (by unfold maxLen; simp; omega) (Nat.le_trans hb kx.size)
  have hn' : n' = k + 1 := by simp at g3; omega
  subst hn'
  refine ⟨v', w', g1, ⟨g2, by rw [List.length_append, h.len]; rfl, fun j y M h1 h2 => ?_⟩, ?_⟩
  · have kg : Kept (fun j => va.ownBlock = some j) (w.alloc (.cells #[.slice ua L.length uc] 42)) w' := Kept.grown g4 (fun j hj _ => hj)
    have hcase : (∃ y', vs[j]? = some y' ∧ y' = y) ∨ (j = k ∧ y = .slice ua L.length uc) := by
      rw [List.getElem?_append] at h1
      split at h1
      · exact .inl ⟨y, h1, rfl⟩
      · rename_i hlt
        rw [h.len] at h1 hlt
        have : j = k := by
          have := (List.getElem?_eq_some_iff.1 h1).1
          simp at this; omega
        subst this
        simp at h1
        exact .inr ⟨rfl, h1.symm⟩
    rcases hcase with ⟨y', hy, rfl⟩ | ⟨rfl, rfl⟩
    · have ho := kx.owns (h.each j y' M hy h2) (fun _ _ h => h)
      exact kg.owns ho (fun q hq hs => own_types ho own' (by omega) q hq hs)
    · rw [hL] at h2
      cases h2
      exact kg.owns hu' (fun q hq hs => own_types hu' own' (by omega) q hq hs)
  · exact kx.pure.trans (Kept.grown g4 (fun j hj _ => (owns_own h.own hj).1))
set_option maxRecDepth 100000 in
set_option maxHeartbeats 2000000 in
theorem gets_union (na : Array Value) (nd : Nod) (v : Value) (LL : List (List Rec)) (w : World) (hn : NodAt w na nd) (h8 : nd.kind = 8) (hr : Rows2 w v LL) (hb : LL.flatten.length ≤ 1073741) (hll : LL.length ≤ 1000) :
    Calls Try.prog 29 #[.agg na, v] w (GetsQ w (getsL nd.kind LL)) := by
  have hg : getsL nd.kind LL = smerge (wideL 0 LL).flatten := by unfold getsL; rw [if_pos h8]
  rw [hg]
  obtain ⟨uid, inv, p, cap, rfl, hx, hk0, hk1, hn64⟩ := hn
  obtain ⟨vs0, hv0, hrd, hev⟩ := hr
  obtain ⟨pa, n0, pcap, rfl, hc1, hc2, hc3, hcl⟩ := hrd
  have hn0 : n0 = LL.length := by omega
  subst hn0
  unfold maxLen at hc2
  have HE := Lib.hid (And.intro hv0 (And.intro hcl hev))
  rw [h8]
  clear hx hg hv0 hc3 hcl hev hk0 hk1
  go_enter Try.func29, Try.ntmps29
  go_wp2_with fail
  obtain ⟨W0, hW0⟩ : ∃ W0, w.alloc (.cells #[.string uid, .int .u8 8, inv, .int .u8 nd.x.op, .int .i64 nd.x.n, .slice p nd.x.args.length cap, .int .i64 nd.n] 54) = W0 := ⟨_, rfl⟩
  have k0 : Kept none' w W0 := by rw [← hW0]; exact (Kept.refl _ _).alloc _
  rw [hW0]
  have K0 := Lib.hid k0
  clear hW0 k0
  go_loopg [5, 17] LL.length (fun g va vi wr => ∃ (k : Nat) (vs : List Value), k ≤ LL.length ∧ vi = .int .i64 (k : Int) ∧ LL.length - k ≤ g ∧ AllAt wr W0.heap.size va vs LL k ∧ Kept none' W0 wr)
  case atStart => exact ⟨0, [], by omega, rfl, by omega, ⟨World.ownsRow_nil _ _ _ _, rfl, fun i u L h => by cases h⟩, Kept.refl _ _⟩
  case round =>
    obtain ⟨k, vs, hkl, rfl, hgk, hall, hkp⟩ := hrel
    obtain ⟨wo, rfl⟩ : ∃ wo : World, wo = wr := ⟨_, rfl⟩
    obtain ⟨va, vac, rfl⟩ := owns_slice hall.own
    by_cases hlt : k < LL.length
    · obtain ⟨L, hL⟩ : ∃ L, LL[k]? = some L := ⟨_, List.getElem?_eq_getElem hlt⟩
      obtain ⟨u, hu⟩ : ∃ u, vs0[k]? = some u := ⟨_, List.getElem?_eq_getElem (by rw [HE.out.1]; exact hlt)⟩
      have hru := HE.out.2.2 k u L hu hL
      obtain ⟨ua, uc, rfl, hu1, hu2⟩ := hru.len
      obtain ⟨pb, po, rfl, hpc⟩ := HE.out.2.1.resolve_left (fun h => by rw [h] at hu; cases hu)
      have q0 := (K0.out.trans hkp).cell (p := ⟨pb, po + k, none⟩) (fun h => h) (hpc k _ hu)
      have hLb : L.length ≤ 1073741 := by
        have : L.length ≤ LL.flatten.length := by
          have hm : L ∈ LL := List.mem_of_getElem? hL
          exact (List.sublist_flatten_of_mem hm).length_le
        omega
      have A := Lib.hid (And.intro hgk (And.intro hall (And.intro hkp (And.intro hL hru))))
      clear hgk hall hkp hL hu hru hpc
      go_wp2_with fail
      have c := clone_rec (.slice ua L.length uc) (recs L) wo (A.out.2.2.2.2.pure (K0.out.trans A.out.2.2.1)) (recs_one L) (by rw [recs_length]; omega)
      (with_reducible refine c.mono ?_)
      clear c
      rintro e W1 ⟨v', n', rfl, g1, g2, k1⟩
      rw [recs_length] at g2
      have hn' : n' = L.length := by omega
      subst hn'
      obtain ⟨oa, oc, rfl⟩ := owns_slice g1
      have hsz1 : W0.heap.size ≤ wo.heap.size := A.out.2.2.1.size
      have Z := Lib.hid (And.intro g1 k1)
      clear g1 g2 k1
      go_wp2_with fail
      go_loopg [26] L.length (fun g vi wr2 => ∃ j : Nat, j ≤ L.length ∧ vi = .int .i64 (j : Int) ∧ L.length - j ≤ g ∧ wr2.ownsRow wo.heap.size 46 3 (.slice oa L.length oc) L.length (recs (widK k j L)) ∧ Kept none' wo wr2)
      case atStart => exact ⟨0, by omega, rfl, by omega, by rw [widK_zero]; exact Z.out.1, Z.out.2⟩
      case round =>
        obtain ⟨j, hjl, rfl, hgj, hown, hkj⟩ := hrel
        by_cases hjt : j < L.length
        · obtain ⟨r, hr⟩ : ∃ r, L[j]? = some r := ⟨_, List.getElem?_eq_getElem hjt⟩
          obtain ⟨w1, w2⟩ := widK_at (b := k) hr
          obtain ⟨g0, hg0⟩ : ∃ g0, oa = some ⟨g0, 0, none⟩ := by
            rcases hown.2 with ⟨e1, e2⟩ | ⟨g, cap, cur, e1, _⟩
            · omega
            · injection e1 with e1; exact ⟨g, e1⟩
          subst hg0
          obtain ⟨s1, ⟨v0, s2⟩, s3⟩ := own_set hown (j * 3) (.int .i64 (wrap64 (wrap64 (8 * r.pos) + (k : Int)))) (by omega)
          rw [recs_set (widK k j L) j r _ w1] at s1
          rw [show ({ r with pos := wrap64 (wrap64 (8 * r.pos) + (k : Int)) } : Rec) = wideR k r from rfl, w2] at s1
          have hrr := Reads.of_owns hown
          obtain ⟨ra, rcap, re, _, _, rcell⟩ := hrr.recAt
          injection re with re1 re2 re3
          subst re1
          obtain ⟨b', off', e', rcell⟩ := rcell.resolve_left (fun h => by have := widK_length k j L; rw [h] at this; simp at this; omega)
          cases e'
          obtain ⟨t0, _, _⟩ := rcell j r w1
          rw [Nat.zero_add] at t0
          have hgs : wo.heap.size ≤ g0 := (owns_own hown (b := g0) rfl).1
          have B := Lib.hid (And.intro hgj (And.intro s1 (hkj.setCell (p := ⟨g0, j * 3, none⟩) (.inr hgs) (.int .i64 (wrap64 (wrap64 (8 * r.pos) + (k : Int)))))))
          clear s1 s2 hown hkj hgj w1 w2 hr rcell hrr
          go_wp2_with fail
          go_roundg (L.length - (j + 1))
          case rel => exact ⟨j + 1, by omega, by go_num, Nat.le_refl _, B.out.2.1, B.out.2.2⟩
          case measure => have := B.out.1; omega
        · have hje : j = L.length := by omega
          subst hje
          rw [widK_end] at hown
          have hall2 := A.out.2.1.kept hkj (fun _ h => h.elim)
          obtain ⟨va', w', h1, h2, h3⟩ := hall2.push (owns_base hown hsz1) A.out.2.2.2.1 (Nat.le_trans hsz1 hkj.size) (by omega)
          obtain ⟨va2, vc2, rfl⟩ := owns_slice h2.own
          have B := Lib.hid (And.intro h1 (And.intro h2 ((A.out.2.2.1.trans hkj).new h3 (fun i hi hs => by omega))))
          clear h1 h2 h3 hall2 hown hkj hgj
          go_wp2_with (at_builtin; refine wpList_append_run rfl (.tmp 42) (.tmp 44) 57 rfl _ _ _ rfl rfl B.out.1 ?_)
          go_roundg (LL.length - (k + 1))
          case rel => exact ⟨k + 1, _, by omega, by go_num, Nat.le_refl _, B.out.2.1, B.out.2.2⟩
          case measure => have := A.out.1; omega
    · have hke : k = LL.length := by omega
      subst hke
      have hrows : Rows2 wo (.slice va LL.length vac) (wideL 0 LL) := by
        refine ⟨vs, by rw [wideL_length]; exact hall.len, Reads.of_owns hall.own, fun i y M h1 h2 => ?_⟩
        rw [wideL_get, Nat.zero_add] at h2
        obtain ⟨M', hM, rfl⟩ := Option.map_eq_some_iff.1 h2
        exact Reads.of_owns (hall.each i y M' h1 hM)
      have HR := Lib.hid (And.intro hrows hkp)
      clear hrows hall hkp
      go_wp2_with fail
      have c := merge_any _ (wideL 0 LL) wo HR.out.1 (by rw [wideL_flat]; omega)
      (with_reducible refine c.mono ?_)
      clear c
      rintro e w2 ⟨u, rfl, r1, r2, k2⟩
      have F := Lib.hid (show GetsQ w (smerge (wideL 0 LL).flatten) (.returned u) w2 from ⟨u, rfl, r1, fun b hb => Nat.le_trans (K0.out.trans HR.out.2).size (r2 b hb), (K0.out.trans HR.out.2).trans k2⟩)
      obtain ⟨ra, rc, rfl, _, _⟩ := r1.len
      clear r1 r2 k2
      go_wp2_with fail
      go_ret
      exact F.out
theorem gets_any (na : Array Value) (nd : Nod) (v : Value) (LL : List (List Rec)) (w : World) (hn : NodAt w na nd) (hr : Rows2 w v LL) (hb : LL.flatten.length ≤ 1073741) (hll : LL.length ≤ 1000) :
    Calls Try.prog 29 #[.agg na, v] w (GetsQ w (getsL nd.kind LL)) := by
  by_cases h : nd.kind = 8
  · exact gets_union na nd v LL w hn h hr hb hll
  · exact gets_plain na nd v LL w hn h hr (by omega)
end Go.Proofs.Ytaalpijohdlabaa
/-
  The document's Merge: its walk.
-/
namespace Go.Proofs.Ytaalpijohdlabaa
open Go Go.RowKit
attribute [local irreducible] wpL
theorem size46 (w : World) : (sizeOf 46).run Try.prog w = .ok 3 w := by kernel_rfl
/-- The first ones of a slice. -/
theorem sl_take {w : World} {a : Option Addr} {n cap k : Nat} {L : List Rec} (h : Reads w 3 (.slice a n cap) (recs L)) (hk : k ≤ n) :
    (Instr.slice 42 (.slice a n cap) none (some (.int .i64 (k : Int))) none).run Try.prog w = .ok (.slice a k cap) w ∧ Reads w 3 (.slice a k cap) (recs (L.take k)) := by
  obtain ⟨a', n', cap', e, h1, h2, h3, h4⟩ := h
  cases e
  have hnL : n = L.length := by rw [recs_length] at h3; omega
  refine ⟨?_, ?_⟩
  · have hb : (Instr.sliceBounds true n cap none (some (.int .i64 (k : Int))) none).run Try.prog w = .ok (0, k, cap) w := by
      simp [Instr.sliceBounds, Instr.sliceBound, asIntOf]
      intro h; omega
    simp only [Instr.slice, Sem.run_bind, run_underlying Try.underlying42, Result.andThen_ok, hb, size46, Sem.run_pure]
    cases a with
    | none => simp
    | some a => simp [Addr.add]
  · refine ⟨a, k, cap, rfl, by omega, h2, by rw [recs_length, List.length_take]; omega, ?_⟩
    rcases h4 with h4 | ⟨b, off, rfl, h4⟩
    · left
      have : L = [] := by
        have h5 := recs_length L
        rw [h4] at h5
        exact List.eq_nil_of_length_eq_zero (by simp at h5; omega)
      rw [this]; simp [recs]
    · right
      refine ⟨b, off, rfl, fun i x hx => h4 i x ?_⟩
      have e : recs L = recs (L.take k) ++ recs (L.drop k) := by rw [← recs_append, List.take_append_drop]
      rw [e]
      exact List.getElem?_append_left (List.getElem?_eq_some_iff.1 hx).1 ▸ hx
/-- The others. -/
theorem sl_drop {w : World} {a : Option Addr} {n cap k : Nat} {L : List Rec} (h : Reads w 3 (.slice a n cap) (recs L)) (hk : k ≤ n) :
    ∃ v, (Instr.slice 42 (.slice a n cap) (some (.int .i64 (k : Int))) none none).run Try.prog w = .ok v w ∧ Reads w 3 v (recs (L.drop k)) := by
  obtain ⟨a', n', cap', e, h1, h2, h3, h4⟩ := h
  cases e
  have hnL : n = L.length := by rw [recs_length] at h3; omega
  refine ⟨.slice (if cap = k then a else a.map (·.add (k * 3))) (n - k) (cap - k), ?_, ?_⟩
  · have hb : (Instr.sliceBounds true n cap (some (.int .i64 (k : Int))) none none).run Try.prog w = .ok (k, n, cap) w := by
      simp [Instr.sliceBounds, Instr.sliceBound, asIntOf]
      intro h; omega
    simp only [Instr.slice, Sem.run_bind, run_underlying Try.underlying42, Result.andThen_ok, hb, size46, Sem.run_pure]
  · refine ⟨_, n - k, cap - k, rfl, by omega, by omega, by rw [recs_length, List.length_drop]; omega, ?_⟩
    rcases h4 with h4 | ⟨b, off, rfl, h4⟩
    · left
      have : L = [] := by
        have h5 := recs_length L
        rw [h4] at h5
        exact List.eq_nil_of_length_eq_zero (by simp at h5; omega)
      rw [this]; simp [recs]
    · by_cases hc : cap = k
      · left
        have : L.drop k = [] := List.drop_eq_nil_of_le (by omega)
        rw [this]; rfl
      · right
        refine ⟨b, off + k * 3, by rw [if_neg hc]; simp only [Option.map_some]; rw [Addr.add_lit], fun i x hx => ?_⟩
        rw [Nat.add_assoc]
        refine h4 (k * 3 + i) x ?_
        have e : recs L = recs (L.take k) ++ recs (L.drop k) := by rw [← recs_append, List.take_append_drop]
        rw [e, List.getElem?_append_right (by rw [recs_length, List.length_take]; omega)]
        rw [show k * 3 + i - (recs (L.take k)).length = i by rw [recs_length, List.length_take]; omega]
        exact hx
/-- append to a row of records of the call's own. -/
theorem rap_any {w : World} {base n : Nat} {v u : Value} {L M : List Rec} (hown : w.ownsRow base 46 3 v n (recs L)) (hr : Reads w 3 u (recs M)) (hb : base ≤ w.heap.size) (hlen : L.length + M.length ≤ 1073741824) :
    ∃ v' n' w', (Builtin.append_ #[42, 42] 42 #[v, u]).run Try.prog w = .ok v' w' ∧ w'.ownsRow base 46 3 v' n' (recs (L ++ M)) ∧ n' = L.length + M.length ∧ w.grownBy w' v.ownBlock ∧ True := by
  obtain ⟨i, z, hi, hz, hs, hby, hzs⟩ := Try.info46
  have hn : n = L.length := by have := hown.1; rw [recs_length] at this; omega
  subst hn
  obtain ⟨v', n', w', g1, g2, g3, g4, g5⟩ := run_append_reads (P := Try.prog) base 42 42 46 i z 3 24 Try.underlying42 hi hz hs hby hzs (by omega) hown hr (recs_one M) (by rw [recs_length]; omega) (by rw [recs_length]; unfold maxLen; omega) hb
  rw [recs_length] at g3
  exact ⟨v', n', w', g1, by rw [recs_append]; exact g2, by omega, g4, trivial⟩
theorem Kept.pure_of {w w' : World} (h : w.grownBy w' (Value.slice none 0 0).ownBlock) (_ : True) : Kept none' w w' := Kept.grown h (fun k hk _ => by cases hk)
/-- A record put in behind all that do not come behind it. -/
theorem ins_smerge {L : List Rec} {i k : Nat} {r : Rec} (hr : L[i]? = some r) (hd : ∀ x ∈ (smerge (L.take i)).drop k, r.pos < x.pos) (ht : ∀ x ∈ (smerge (L.take i)).take k, x.pos ≤ r.pos) :
    ([] ++ (smerge (L.take i)).take k ++ [r] ++ (smerge (L.take i)).drop k) = smerge (L.take (i + 1)) := by
  have hs := smerge_sorted (L.take i)
  have hsame := smerge_same (L.take i)
  generalize hM : smerge (L.take i) = M at *
  have hMM : M = M.take k ++ M.drop k := (List.take_append_drop k M).symm
  rw [hMM] at hs
  refine smerge_unique ?_ ?_
  · rw [List.nil_append, List.append_assoc]
    refine Sorted.append hs.left ?_ ?_
    · refine List.pairwise_cons.2 ⟨fun x hx => by have := hd x hx; omega, hs.right⟩
    · intro a ha b hb
      rcases List.mem_append.1 hb with hb | hb
      · simp at hb; subst hb; exact ht a ha
      · exact hs.le a ha b hb
  · rw [List.take_add_one, hr]
    have h1 : Same (L.take i ++ [r]) (M ++ [r]) := hsame.append (Same.refl _)
    refine h1.trans ?_
    rw [List.nil_append, List.append_assoc]
    have h2 : Same (M.drop k ++ [r]) ([r] ++ M.drop k) := Same.comm (fun a ha b hb => by simp at hb; subst hb; have := hd a ha; omega)
    have h3 := (Same.refl (M.take k)).append h2
    rw [← List.append_assoc, List.take_append_drop] at h3
    exact h3
set_option maxRecDepth 100000 in
set_option maxHeartbeats 4000000 in
theorem rmerge_any (v : Value) (L : List Rec) (w : World) (h : Reads w 3 v (recs L)) (hb : L.length ≤ 1000000) : Calls Try.prog 32 #[v] w (GetsQ w (smerge L)) := by
  obtain ⟨pa, pcap, rfl, h1, h2, h3⟩ := h.recAt
  unfold maxLen at h2
  have H3 := Lib.hid h3
  clear h3 h
  go_enter Try.func32, Try.ntmps32
  go_wp2
  go_loopg [3, 4] L.length (fun g vo vi wr => ∃ i : Nat, i ≤ L.length ∧ vi = .int .i64 (i : Int) ∧ L.length - i ≤ g ∧ wr.ownsRow w.heap.size 46 3 vo i (recs (smerge (L.take i))) ∧ Kept none' w wr)
  case atStart => exact ⟨0, by omega, rfl, by omega, (by simpa [smerge, recs] using World.ownsRow_nil _ _ _ _), Kept.refl _ _⟩
  case round =>
    obtain ⟨i, hil, rfl, hg, hown, hkp⟩ := hrel
    obtain ⟨wo, rfl⟩ : ∃ wo : World, wo = wr := ⟨_, rfl⟩
    obtain ⟨oa, oc, rfl⟩ := owns_slice hown
    by_cases hlt : i < L.length
    · obtain ⟨r, hr⟩ : ∃ r, L[i]? = some r := ⟨_, List.getElem?_eq_getElem hlt⟩
      obtain ⟨lb, lo, rfl, hlc⟩ := H3.out.resolve_left (fun h => by rw [h] at hr; cases hr)
      obtain ⟨x0, x1, x2⟩ := (hlc i r hr).pure hkp
      have hlen : (smerge (L.take i)).length = i := by rw [smerge_length, List.length_take]; omega
      have A := Lib.hid (And.intro hg (And.intro (And.intro hlen hown) hkp))
      have HRR := Lib.hid (And.intro hr hlc)
      clear hg hown hkp hlc hlen hr H3
      go_wp2_with fail
      go_loopg [5] i (fun g vk wx => ∃ k : Nat, k ≤ i ∧ vk = .int .i64 (k : Int) ∧ k ≤ g ∧ (∀ x ∈ (smerge (L.take i)).drop k, r.pos < x.pos) ∧ Kept none' wo wx)
      case atStart => exact ⟨i, Nat.le_refl _, rfl, Nat.le_refl _, (fun x hx => by rw [List.drop_of_length_le (by rw [A.out.2.1.1]; exact Nat.le_refl _)] at hx; cases hx), Kept.refl _ _⟩
      case round =>
        obtain ⟨k, hki, rfl, hgk, hdrop, hkx⟩ := hrel
        obtain ⟨wx, rfl⟩ : ∃ wx : World, wx = wr := ⟨_, rfl⟩
        have x0 := hkx.cell (p := ⟨lb, lo + i * 3, none⟩) (fun h => h) x0
        have x1 := hkx.cell (p := ⟨lb, lo + i * 3 + 1, none⟩) (fun h => h) x1
        have x2 := hkx.cell (p := ⟨lb, lo + i * 3 + 2, none⟩) (fun h => h) x2
        by_cases hk0 : k = 0
        · have hkd : decide (0 < k) = false := decide_eq_false (by omega)
          have hkd2 : decide (0 < (k : Int)) = false := decide_eq_false (by omega)
          have htake : ∀ x ∈ (smerge (L.take i)).take k, x.pos ≤ r.pos := by rw [hk0]; intro x hx; cases hx
          have D := Lib.hid (And.intro hdrop (And.intro htake hkx))
          clear hdrop htake hkx hk0
          go_wp2_with fail
          refine wp_region_eager [0, 1, 2, 3, 4, 5, 6, 7, 8, 9, 10, 11, 12, 13, 14, 15] (fun W => Kept none' wx W) (by kernel_rfl) (by kernel_rfl) rfl (Kept.refl _ _).drew ?_
          simp only [List.map_cons, List.map_nil, List.getElem?_toArray, List.getElem?_cons_zero, List.getElem?_cons_succ, Option.getD_some]
          iterate 16 (first | (apply wpL_skip rfl; go_frame) | (apply wpL_float rfl rfl; (intro W hW; go_simp; rfl); go_frame))
          refine wpL_nil (fun _ => (Kept.refl _ _).drew) ?_
          obtain ⟨hdrop, htake, hkx⟩ := D.out
          obtain ⟨wy, hwy⟩ : ∃ wy, wx.drew = wy := ⟨_, rfl⟩
          rw [hwy]
          have ky : Kept none' wx wy := by rw [← hwy]; exact (Kept.refl _ _).drew
          have kwy : Kept none' w wy := A.out.2.2.trans (hkx.trans ky)
          have hown := A.out.2.1.2
          have hLi := A.out.2.1.1
          have hLt := List.length_take_le' k (smerge (L.take i))
          have hLd : ((smerge (L.take i)).drop k).length ≤ (smerge (L.take i)).length := by rw [List.length_drop]; omega
          obtain ⟨vo2, n2, w2, p1, p2, p3, p4, p5⟩ := rap_any (base := wy.heap.size) (w := wy) (v := .slice none 0 0) (n := 0) (L := []) (M := (smerge (L.take i)).take k) (World.ownsRow_nil _ _ _ _) (sl_take (Reads.of_owns ((hkx.trans ky).owns hown (fun _ _ h => h))) hki).2 (Nat.le_refl _) (by rw [List.length_nil]; omega)
          have e1 := (sl_take (Reads.of_owns ((hkx.trans ky).owns hown (fun _ _ h => h))) hki).1
          obtain ⟨va2, vc2, rfl⟩ := owns_slice p2
          have k2 : Kept none' wy w2 := Kept.pure_of p4 p5
          obtain ⟨w2b, hw2b⟩ : ∃ w2b, w2.alloc (.cells #[.int .i64 r.pos, .int .i64 r.key, .int .i64 r.val] 46) = w2b := ⟨_, rfl⟩
          have k2b : Kept none' w2 w2b := by rw [← hw2b]; exact (Kept.refl _ _).alloc _
          have rl : Reads w2b 3 (.slice (some ⟨w2.heap.size, 0, none⟩) 1 1) (recs [r]) := by rw [← hw2b]; exact Reads.lit w2 (recs [r]) 46 3 1 rfl (by unfold maxLen; omega)
          obtain ⟨vo3, n3, w3, s1, s2, s3, s4, s5⟩ := rap_any (base := wy.heap.size) (w := w2b) (M := [r]) (k2b.owns p2 (fun _ _ h => h)) rl (Nat.le_trans k2.size k2b.size) (by rw [List.nil_append, List.length_singleton]; omega)
          obtain ⟨va3, vc3, rfl⟩ := owns_slice s2
          have k3 : Kept none' wy w3 := (k2.trans k2b).new (Kept.grown (S := fun j => wy.heap.size ≤ j) s4 (fun j hj _ => (owns_own p2 hj).1)) (fun j hj hs => by omega)
          have e2 := (sl_drop (Reads.of_owns (((hkx.trans ky).trans k3).owns hown (fun _ _ h => h))) hki)
          obtain ⟨vd, e2a, e2b⟩ := e2
          obtain ⟨vo4, n4, w4, t1, t2, t3, t4, t5⟩ := rap_any (base := wy.heap.size) (w := w3) (M := (smerge (L.take i)).drop k) s2 e2b k3.size (by rw [List.nil_append, List.length_append, List.length_singleton]; omega)
          obtain ⟨va4, vc4, rfl⟩ := owns_slice t2
          have k4 : Kept none' wy w4 := k3.new (Kept.grown (S := fun j => wy.heap.size ≤ j) t4 (fun j hj _ => (owns_own s2 hj).1)) (fun j hj hs => by omega)
          have hnew : ([] ++ (smerge (L.take i)).take k ++ [r] ++ (smerge (L.take i)).drop k) = smerge (L.take (i + 1)) := ins_smerge HRR.out.1 hdrop htake
          rw [hnew] at t2
          have hn4 : n4 = i + 1 := by have h1 := t2.1; rw [recs_length, smerge_length, List.length_take] at h1; omega
          subst hn4
          have Q := Lib.hid (And.intro p1 (And.intro s1 (And.intro t1 (And.intro (owns_base t2 kwy.size) (kwy.trans k4)))))
          obtain ⟨la, ln, lc, hvd⟩ : ∃ la ln lc, vd = .slice la ln lc := by obtain ⟨a, n, c, e, _⟩ := e2b; exact ⟨a, n, c, e⟩
          subst hvd
          have y0 := (k2.cell (p := ⟨lb, lo + i * 3, none⟩) (fun h => h) (ky.cell (fun h => h) x0))
          have y1 := (k2.cell (p := ⟨lb, lo + i * 3 + 1, none⟩) (fun h => h) (ky.cell (fun h => h) x1))
          have y2 := (k2.cell (p := ⟨lb, lo + i * 3 + 2, none⟩) (fun h => h) (ky.cell (fun h => h) x2))
          rw [← hw2b] at Q
          have HW2B := Lib.hid hw2b
          clear p1 p2 p3 p4 p5 s1 s2 s3 s4 s5 t1 t2 t3 t4 t5 k2 k2b k3 k4 rl e2b hnew ky kwy hown hLi hLt hLd hwy hw2b x0 x1 x2 hdrop htake hkx
          have tok1 : True := trivial
          have tok2 : True := trivial
          have tok3 : True := trivial
          have P1 := Lib.hid Q.out.1
          have P2 := Lib.hid Q.out.2.1
          have P3 := Lib.hid Q.out.2.2.1
          go_wp2_with (first | (at_builtin; have _t := tok1; clear _t tok1; refine wpList_append_run rfl (.tmp 33) (.tmp 36) 42 rfl (.slice none 0 0) (.slice oa k oc) _ rfl rfl P1.out ?_) | (at_builtin; have _t := tok2; clear _t tok2; refine wpList_append_run rfl (.tmp 38) (.tmp 43) 42 rfl (.slice va2 n2 vc2) (.slice (some ⟨w2.heap.size, 0, none⟩) 1 1) _ rfl rfl P2.out ?_) | (at_builtin; have _t := tok3; clear _t tok3; refine wpList_append_run rfl (.tmp 45) (.tmp 48) 42 rfl (.slice va3 n3 vc3) (.slice la ln lc) _ rfl rfl P3.out ?_))
          go_roundg (L.length - (i + 1))
          case rel => exact ⟨i + 1, by omega, by go_num, Nat.le_refl _, Q.out.2.2.2.1, Q.out.2.2.2.2⟩
          case measure => have := A.out.1; omega
        · obtain ⟨j, hj⟩ : ∃ j, k = j + 1 := ⟨k - 1, by omega⟩
          subst hj
          clear hk0
          have hwj : IntKind.i64.wrap ((j : Nat) : Int) = ((j : Nat) : Int) := wrapNat (by omega)
          have hjl2 : ((j : Nat) : Int) < (i : Int) := by omega
          have hjl3 : j < i := by omega
          obtain ⟨y, hy⟩ : ∃ y, (smerge (L.take i))[j]? = some y := ⟨_, List.getElem?_eq_getElem (by rw [A.out.2.1.1]; omega)⟩
          obtain ⟨ra, rcap, re, _, _, rcell⟩ := (Reads.of_owns (hkx.owns A.out.2.1.2 (fun _ _ h => h))).recAt
          injection re with re1 re2 re3
          clear re2 re3
          obtain ⟨ob, oo, e', rcell2⟩ := rcell.resolve_left (fun h => by rw [h] at hy; cases hy)
          subst re1
          subst e'
          obtain ⟨t0, _, _⟩ := rcell2 j y hy
          by_cases hgt : r.pos < y.pos
          · have hgd : decide (r.pos < y.pos) = true := decide_eq_true hgt
            have hdrop2 : ∀ x ∈ (smerge (L.take i)).drop j, r.pos < x.pos := by
              intro x hx
              obtain ⟨hjl, rfl⟩ := List.getElem?_eq_some_iff.1 hy
              rw [List.drop_eq_getElem_cons hjl] at hx
              rcases List.mem_cons.1 hx with rfl | hx
              · exact hgt
              · exact hdrop x hx
            have D := Lib.hid (And.intro hdrop2 hkx)
            clear hdrop hdrop2 hkx hy rcell rcell2 hgt x1 x2
            go_wp2_with fail
            refine wp_region_eager [0, 1, 2, 3, 4, 5, 6, 7, 8, 9, 10, 11, 12, 13, 14, 15] (fun W => Kept none' wx W) (by kernel_rfl) (by kernel_rfl) rfl (Kept.refl _ _).drew ?_
            simp only [List.map_cons, List.map_nil, List.getElem?_toArray, List.getElem?_cons_zero, List.getElem?_cons_succ, Option.getD_some]
            iterate 16 (first | (apply wpL_skip rfl; go_frame) | (apply wpL_float rfl rfl; (intro W hW; have z0 := hW.cell (fun h => h) t0; have z1 := hW.cell (fun h => h) x0; go_simp; rfl); go_frame))
            refine wpL_nil (fun _ => (Kept.refl _ _).drew) ?_
            go_wp2_with fail
            go_roundg j
            case rel => exact ⟨j, by omega, by first | rfl | go_num, Nat.le_refl _, D.out.1, D.out.2.trans (Kept.refl _ _).drew⟩
            case measure => omega
          · have hgd : decide (r.pos < y.pos) = false := decide_eq_false hgt
            have htake : ∀ x ∈ (smerge (L.take i)).take (j + 1), x.pos ≤ r.pos := by
              intro x hx
              rw [List.take_add_one] at hx
              have hs := smerge_sorted (L.take i)
              rcases List.mem_append.1 hx with hx | hx
              · have e : smerge (L.take i) = (smerge (L.take i)).take j ++ (smerge (L.take i)).drop j := (List.take_append_drop j _).symm
                rw [e] at hs
                obtain ⟨hjl, rfl⟩ := List.getElem?_eq_some_iff.1 hy
                have := hs.le x hx _ (by rw [List.drop_eq_getElem_cons hjl]; exact List.mem_cons_self)
                omega
              · rw [hy] at hx; simp at hx; subst hx; omega
            have D := Lib.hid (And.intro hdrop (And.intro htake hkx))
            clear hdrop htake hkx hy rcell rcell2 hgt
            go_wp2_with fail
            refine wp_region_eager [0, 1, 2, 3, 4, 5, 6, 7, 8, 9, 10, 11, 12, 13, 14, 15] (fun W => Kept none' wx W) (by kernel_rfl) (by kernel_rfl) rfl (Kept.refl _ _).drew ?_
            simp only [List.map_cons, List.map_nil, List.getElem?_toArray, List.getElem?_cons_zero, List.getElem?_cons_succ, Option.getD_some]
            iterate 16 (first | (apply wpL_skip rfl; go_frame) | (apply wpL_float rfl rfl; (intro W hW; have z0 := hW.cell (fun h => h) t0; have z1 := hW.cell (fun h => h) x0; go_simp; rfl); go_frame))
            refine wpL_nil (fun _ => (Kept.refl _ _).drew) ?_
            obtain ⟨hdrop, htake, hkx⟩ := D.out
            obtain ⟨wy, hwy⟩ : ∃ wy, wx.drew = wy := ⟨_, rfl⟩
            rw [hwy]
            have ky : Kept none' wx wy := by rw [← hwy]; exact (Kept.refl _ _).drew
            have kwy : Kept none' w wy := A.out.2.2.trans (hkx.trans ky)
            have hown := A.out.2.1.2
            have hLi := A.out.2.1.1
            have hLt := List.length_take_le' (j + 1) (smerge (L.take i))
            have hLd : ((smerge (L.take i)).drop (j + 1)).length ≤ (smerge (L.take i)).length := by rw [List.length_drop]; omega
            obtain ⟨vo2, n2, w2, p1, p2, p3, p4, p5⟩ := rap_any (base := wy.heap.size) (w := wy) (v := .slice none 0 0) (n := 0) (L := []) (M := (smerge (L.take i)).take (j + 1)) (World.ownsRow_nil _ _ _ _) (sl_take (Reads.of_owns ((hkx.trans ky).owns hown (fun _ _ h => h))) hki).2 (Nat.le_refl _) (by rw [List.length_nil]; omega)
            have e1x := (sl_take (Reads.of_owns ((hkx.trans ky).owns hown (fun _ _ h => h))) hki).1
            have e1 := e1x; have e1y := e1x; rw [show (((j + 1 : Nat) : Nat) : Int) = (j : Int) + 1 by omega] at e1y; clear e1x; obtain ⟨va2, vc2, rfl⟩ := owns_slice p2
            have k2 : Kept none' wy w2 := Kept.pure_of p4 p5
            obtain ⟨w2b, hw2b⟩ : ∃ w2b, w2.alloc (.cells #[.int .i64 r.pos, .int .i64 r.key, .int .i64 r.val] 46) = w2b := ⟨_, rfl⟩
            have k2b : Kept none' w2 w2b := by rw [← hw2b]; exact (Kept.refl _ _).alloc _
            have rl : Reads w2b 3 (.slice (some ⟨w2.heap.size, 0, none⟩) 1 1) (recs [r]) := by rw [← hw2b]; exact Reads.lit w2 (recs [r]) 46 3 1 rfl (by unfold maxLen; omega)
            obtain ⟨vo3, n3, w3, s1, s2, s3, s4, s5⟩ := rap_any (base := wy.heap.size) (w := w2b) (M := [r]) (k2b.owns p2 (fun _ _ h => h)) rl (Nat.le_trans k2.size k2b.size) (by rw [List.nil_append, List.length_singleton]; omega)
            obtain ⟨va3, vc3, rfl⟩ := owns_slice s2
            have k3 : Kept none' wy w3 := (k2.trans k2b).new (Kept.grown (S := fun j => wy.heap.size ≤ j) s4 (fun j hj _ => (owns_own p2 hj).1)) (fun j hj hs => by omega)
            have e2 := (sl_drop (Reads.of_owns (((hkx.trans ky).trans k3).owns hown (fun _ _ h => h))) hki)
            obtain ⟨vd, e2a, e2b⟩ := e2; have e2y := e2a; rw [show (((j + 1 : Nat) : Nat) : Int) = (j : Int) + 1 by omega] at e2y
            obtain ⟨vo4, n4, w4, t1, t2, t3, t4, t5⟩ := rap_any (base := wy.heap.size) (w := w3) (M := (smerge (L.take i)).drop (j + 1)) s2 e2b k3.size (by rw [List.nil_append, List.length_append, List.length_singleton]; omega)
            obtain ⟨va4, vc4, rfl⟩ := owns_slice t2
            have k4 : Kept none' wy w4 := k3.new (Kept.grown (S := fun j => wy.heap.size ≤ j) t4 (fun j hj _ => (owns_own s2 hj).1)) (fun j hj hs => by omega)
            have hnew : ([] ++ (smerge (L.take i)).take (j + 1) ++ [r] ++ (smerge (L.take i)).drop (j + 1)) = smerge (L.take (i + 1)) := ins_smerge HRR.out.1 hdrop htake
            rw [hnew] at t2
            have hn4 : n4 = i + 1 := by have h1 := t2.1; rw [recs_length, smerge_length, List.length_take] at h1; omega
            subst hn4
            have Q := Lib.hid (And.intro p1 (And.intro s1 (And.intro t1 (And.intro (owns_base t2 kwy.size) (kwy.trans k4)))))
            obtain ⟨la, ln, lc, hvd⟩ : ∃ la ln lc, vd = .slice la ln lc := by obtain ⟨a, n, c, e, _⟩ := e2b; exact ⟨a, n, c, e⟩
            subst hvd
            have y0 := (k2.cell (p := ⟨lb, lo + i * 3, none⟩) (fun h => h) (ky.cell (fun h => h) x0))
            have y1 := (k2.cell (p := ⟨lb, lo + i * 3 + 1, none⟩) (fun h => h) (ky.cell (fun h => h) x1))
            have y2 := (k2.cell (p := ⟨lb, lo + i * 3 + 2, none⟩) (fun h => h) (ky.cell (fun h => h) x2))
            rw [← hw2b] at Q
            have HW2B := Lib.hid hw2b
            clear p1 p2 p3 p4 p5 s1 s2 s3 s4 s5 t1 t2 t3 t4 t5 k2 k2b k3 k4 rl e2b hnew ky kwy hown hLi hLt hLd hwy hw2b x0 x1 x2 hdrop htake hkx
            have tok1 : True := trivial
            have tok2 : True := trivial
            have tok3 : True := trivial
            have P1 := Lib.hid Q.out.1
            have P2 := Lib.hid Q.out.2.1
            have P3 := Lib.hid Q.out.2.2.1
            go_wp2_with (first | (at_builtin; have _t := tok1; clear _t tok1; refine wpList_append_run rfl (.tmp 33) (.tmp 36) 42 rfl (.slice none 0 0) (.slice (some ⟨ob, oo, none⟩) (j + 1) oc) _ rfl rfl P1.out ?_) | (at_builtin; have _t := tok2; clear _t tok2; refine wpList_append_run rfl (.tmp 38) (.tmp 43) 42 rfl (.slice va2 n2 vc2) (.slice (some ⟨w2.heap.size, 0, none⟩) 1 1) _ rfl rfl P2.out ?_) | (at_builtin; have _t := tok3; clear _t tok3; refine wpList_append_run rfl (.tmp 45) (.tmp 48) 42 rfl (.slice va3 n3 vc3) (.slice la ln lc) _ rfl rfl P3.out ?_))
            go_roundg (L.length - (i + 1))
            case rel => exact ⟨i + 1, by omega, by go_num, Nat.le_refl _, Q.out.2.2.2.1, Q.out.2.2.2.2⟩
            case measure => have := A.out.1; omega
    · have hie : i = L.length := by omega
      subst hie
      rw [List.take_of_length_le (Nat.le_refl _)] at hown
      have F := Lib.hid (show GetsQ w (smerge L) (.returned (.slice oa L.length oc)) wo from ⟨_, rfl, Reads.of_owns hown, fun b hb => (owns_blk hown hb).1, hkp⟩)
      clear hown hkp
      go_wp2_with fail
      go_ret
      exact F.out
end Go.Proofs.Ytaalpijohdlabaa
/-
  The document's Gets: its walk.
-/
namespace Go.Proofs.Ytaalpijohdlabaa
open Go Go.RowKit
attribute [local irreducible] wpL
def stepG (kind : Int) (b : Nat) (r : Rec) : Rec := if kind = 8 then wideR b r else r
/-- What has been gathered: b rows, and i records of the next. -/
def rowG (kind : Int) (LL : List (List Rec)) : List (List Rec) := if kind = 8 then wideL 0 LL else LL
theorem rowG_get (kind : Int) (LL : List (List Rec)) (b : Nat) : (rowG kind LL)[b]? = LL[b]?.map (fun L => L.map (stepG kind b)) := by
  unfold rowG
  by_cases h : kind = 8
  · rw [if_pos h, wideL_get, Nat.zero_add]
    congr 1; funext L; congr 1; funext r; unfold stepG; rw [if_pos h]
  · rw [if_neg h]
    have : (fun L : List Rec => L.map (stepG kind b)) = id := by
      funext L
      have e : stepG kind b = id := by funext r; unfold stepG; rw [if_neg h]; rfl
      rw [e]; simp
    rw [this]; simp
theorem rowG_len (kind : Int) (LL : List (List Rec)) : (rowG kind LL).length = LL.length := by unfold rowG; split; exact wideL_length 0 LL; rfl
theorem rowG_flat (kind : Int) (LL : List (List Rec)) : (rowG kind LL).flatten.length = LL.flatten.length := by unfold rowG; split; exact wideL_flat 0 LL; rfl
def gpre (kind : Int) (LL : List (List Rec)) (b i : Nat) : List Rec := ((rowG kind LL).take b).flatten ++ (((rowG kind LL)[b]?).getD []).take i
theorem gpre_succ {kind : Int} {LL : List (List Rec)} {b i : Nat} {L : List Rec} {r : Rec} (hL : LL[b]? = some L) (hr : L[i]? = some r) : gpre kind LL b (i + 1) = gpre kind LL b i ++ [stepG kind b r] := by
  unfold gpre
  rw [rowG_get, hL]
  simp only [Option.map_some, Option.getD_some]
  rw [List.take_add_one, List.getElem?_map, hr, List.append_assoc]
  rfl
theorem gpre_zero (kind : Int) (LL : List (List Rec)) (b : Nat) : gpre kind LL b 0 = ((rowG kind LL).take b).flatten := by unfold gpre; simp
theorem gpre_next {kind : Int} {LL : List (List Rec)} {b : Nat} {L : List Rec} (hL : LL[b]? = some L) : gpre kind LL b L.length = gpre kind LL (b + 1) 0 := by
  have h1 : (rowG kind LL)[b]? = some (L.map (stepG kind b)) := by rw [rowG_get, hL]; rfl
  rw [gpre_zero, flat_take_succ h1]
  unfold gpre
  rw [h1]
  congr 1
  exact List.take_of_length_le (by simp)
theorem flat_le {LL : List (List Rec)} (b i : Nat) : ((LL.take b).flatten ++ ((LL[b]?).getD []).take i).length ≤ LL.flatten.length := by
  cases h : LL[b]? with
  | none => simp only [Option.getD_none, List.take_nil, List.append_nil]; exact flat_take_le b
  | some L =>
    simp only [Option.getD_some]
    have h1 := flat_take_succ h
    have h2 := flat_take_le (LL := LL) (b + 1)
    rw [h1, List.length_append] at h2
    have h3 := List.length_take_le' i L
    rw [List.length_append]; omega
theorem gpre_len (kind : Int) (LL : List (List Rec)) (b i : Nat) : (gpre kind LL b i).length ≤ LL.flatten.length := by rw [← rowG_flat kind LL]; exact flat_le b i
set_option maxRecDepth 100000 in
set_option maxHeartbeats 2000000 in
theorem rgets_any (na : Array Value) (nd : Nod) (v : Value) (LL : List (List Rec)) (w : World) (hn : NodAt w na nd) (hr : Rows2 w v LL) (hb : LL.flatten.length ≤ 1000000) (hll : LL.length ≤ 1000) :
    Calls Try.prog 31 #[.agg na, v] w (GetsQ w (getsL nd.kind LL)) := by
  have hg : getsL nd.kind LL = smerge (rowG nd.kind LL).flatten := rfl
  rw [hg]
  obtain ⟨uid, inv, p, cap, rfl, hx, hk0, hk1, hn64⟩ := hn
  obtain ⟨vs0, hv0, hrd, hev⟩ := hr
  obtain ⟨pa, n0, pcap, rfl, hc1, hc2, hc3, hcl⟩ := hrd
  have hn0 : n0 = LL.length := by omega
  subst hn0
  unfold maxLen at hc2
  have HE := Lib.hid (And.intro hv0 (And.intro hcl hev))
  clear hx hg hv0 hc3 hcl hev
  go_enter Try.func31, Try.ntmps31
  go_wp2_with fail
  obtain ⟨W0, hW0⟩ : ∃ W0, w.alloc (.cells #[.string uid, .int .u8 nd.kind, inv, .int .u8 nd.x.op, .int .i64 nd.x.n, .slice p nd.x.args.length cap, .int .i64 nd.n] 54) = W0 := ⟨_, rfl⟩
  have k0 : Kept none' w W0 := by rw [← hW0]; exact (Kept.refl _ _).alloc _
  have d1 : W0.cell? ⟨w.heap.size, 1, none⟩ = some (.int .u8 nd.kind) := by rw [← hW0]; simp
  rw [hW0]
  have K0 := Lib.hid (And.intro k0 d1)
  have hsz0 : w.heap.size ≤ W0.heap.size := k0.size
  clear hW0 k0 d1
  go_loopg [5, 6] LL.length (fun g va vi wr => ∃ b : Nat, b ≤ LL.length ∧ vi = .int .i64 (b : Int) ∧ LL.length - b ≤ g ∧ wr.ownsRow W0.heap.size 46 3 va (gpre nd.kind LL b 0).length (recs (gpre nd.kind LL b 0)) ∧ Kept none' W0 wr)
  case atStart => exact ⟨0, by omega, rfl, by omega, (by simpa [gpre, recs] using World.ownsRow_nil _ _ _ _), Kept.refl _ _⟩
  case round =>
    obtain ⟨b, hbl, rfl, hg, hown, hkp⟩ := hrel
    obtain ⟨wo, rfl⟩ : ∃ wo : World, wo = wr := ⟨_, rfl⟩
    obtain ⟨oa, oc, rfl⟩ := owns_slice hown
    by_cases hlt : b < LL.length
    · obtain ⟨L, hL⟩ : ∃ L, LL[b]? = some L := ⟨_, List.getElem?_eq_getElem hlt⟩
      obtain ⟨u, hu⟩ : ∃ u, vs0[b]? = some u := ⟨_, List.getElem?_eq_getElem (by rw [HE.out.1]; exact hlt)⟩
      have hru := HE.out.2.2 b u L hu hL
      obtain ⟨ua, uc, rfl, hu1, hu2, hu3⟩ := hru.recAt
      unfold maxLen at hu2
      obtain ⟨pb, po, rfl, hpc⟩ := HE.out.2.1.resolve_left (fun h => by rw [h] at hu; cases hu)
      have q00 := K0.out.1.cell (p := ⟨pb, po + b, none⟩) (fun h => h) (hpc b _ hu)
      have q0 := hkp.cell (p := ⟨pb, po + b, none⟩) (fun h => h) q00
      have A := Lib.hid (And.intro hg (And.intro hown hkp))
      have HL := Lib.hid (And.intro hL (And.intro hu3 q00))
      have hb1000 : b ≤ 1000 := by omega
      clear hg hown hkp hL hu hru hpc hu3 q0 q00
      go_wp2_with fail
      go_loopg [5, 7] L.length (fun g va vi wr => ∃ i : Nat, i ≤ L.length ∧ vi = .int .i64 (i : Int) ∧ L.length - i ≤ g ∧ wr.ownsRow W0.heap.size 46 3 va (gpre nd.kind LL b i).length (recs (gpre nd.kind LL b i)) ∧ Kept none' W0 wr)
      case atStart => exact ⟨0, by omega, rfl, by omega, A.out.2.1, A.out.2.2⟩
      case round =>
        obtain ⟨i, hil, rfl, hgi, hown, hkx⟩ := hrel
        obtain ⟨wx, rfl⟩ : ∃ wx : World, wx = wr := ⟨_, rfl⟩
        obtain ⟨xa, xc, rfl⟩ := owns_slice hown
        have q0 := hkx.cell (p := ⟨pb, po + b, none⟩) (fun h => h) HL.out.2.2
        by_cases hit : i < L.length
        · obtain ⟨r, hr⟩ : ∃ r, L[i]? = some r := ⟨_, List.getElem?_eq_getElem hit⟩
          obtain ⟨rb, ro, rfl, hrc⟩ := HL.out.2.1.resolve_left (fun h => by rw [h] at hr; cases hr)
          obtain ⟨x0, x1, x2⟩ := ((hrc i r hr).pure (K0.out.1.trans hkx))
          have d1 := hkx.cell (p := ⟨w.heap.size, 1, none⟩) (fun h => h) K0.out.2
          have hdl := block_lt_of_cell d1
          simp only [] at hdl
          have hgl := gpre_len nd.kind LL b i
          by_cases h8 : nd.kind = 8
          · have h8b : (nd.kind == 8) = true := by simp [h8]
            have HKD := Lib.hid (show (if nd.kind = 8 then wideR b r else r) = wideR b r from if_pos h8)
            clear h8
            obtain ⟨W1, hW1⟩ : ∃ W1, (wx.alloc (.cells #[.int .i64 (wrap64 (wrap64 (8 * r.pos) + (b : Int))), .int .i64 r.key, .int .i64 r.val] 46)).alloc (.cells #[.int .i64 (wrap64 (wrap64 (8 * r.pos) + (b : Int))), .int .i64 r.key, .int .i64 r.val] 46) = W1 := ⟨_, rfl⟩
            have k1 : Kept none' wx W1 := by rw [← hW1]; exact ((Kept.refl _ _).alloc _).alloc _
            have rl : Reads W1 3 (.slice (some ⟨wx.heap.size + 1, 0, none⟩) 1 1) (recs [(wideR b r : Rec)]) := by
              have := Reads.lit (wx.alloc (.cells #[.int .i64 (wrap64 (wrap64 (8 * r.pos) + (b : Int))), .int .i64 r.key, .int .i64 r.val] 46)) (recs [(wideR b r : Rec)]) 46 3 1 rfl (by unfold maxLen; omega)
              rw [World.size_alloc] at this
              rw [← hW1]; exact this
            obtain ⟨va, n1, W2, p1, p2, p3, p4, _⟩ := rap_any (k1.owns hown (fun _ _ h => h)) rl (Nat.le_trans hkx.size k1.size) (by rw [List.length_singleton]; omega)
            obtain ⟨va, vc, rfl⟩ := owns_slice p2
            have k2 : Kept none' W0 W2 := (hkx.trans k1).new (Kept.grown (S := fun j => W0.heap.size ≤ j) p4 (fun j hj _ => (owns_own hown hj).1)) (fun j hj hs => by omega)
            rw [List.length_singleton, ← List.length_singleton (a := (wideR b r : Rec)), ← List.length_append] at p3
            rw [show gpre nd.kind LL b i ++ [(wideR b r : Rec)] = gpre nd.kind LL b (i + 1) from by rw [gpre_succ HL.out.1 hr]; unfold stepG; rw [HKD.out]] at p2 p3
            subst p3
            rw [← hW1] at p1
            have Q := Lib.hid (And.intro hgi (And.intro p1 (And.intro p2 k2)))
            clear hgi p1 p2 p4 k2 k1 rl hW1 hown hkx hr hrc hgl
            go_wp2_with (at_builtin; refine wpList_append_run rfl (.tmp 40) (.tmp 42) 42 rfl (.slice xa (gpre nd.kind LL b i).length xc) (.slice (some ⟨wx.heap.size + 1, 0, none⟩) 1 1) _ rfl rfl Q.out.2.1 ?_)
            go_roundg (L.length - (i + 1))
            case rel => exact ⟨i + 1, by omega, by go_num, Nat.le_refl _, Q.out.2.2.1, Q.out.2.2.2⟩
            case measure => have := Q.out.1; omega
          · have h8b : (nd.kind == 8) = false := by simp [h8]
            have HKD := Lib.hid (show (if nd.kind = 8 then wideR b r else r) = r from if_neg h8)
            clear h8
            obtain ⟨W1, hW1⟩ : ∃ W1, (wx.alloc (.cells #[.int .i64 r.pos, .int .i64 r.key, .int .i64 r.val] 46)).alloc (.cells #[.int .i64 r.pos, .int .i64 r.key, .int .i64 r.val] 46) = W1 := ⟨_, rfl⟩
            have k1 : Kept none' wx W1 := by rw [← hW1]; exact ((Kept.refl _ _).alloc _).alloc _
            have rl : Reads W1 3 (.slice (some ⟨wx.heap.size + 1, 0, none⟩) 1 1) (recs [(r : Rec)]) := by
              have := Reads.lit (wx.alloc (.cells #[.int .i64 r.pos, .int .i64 r.key, .int .i64 r.val] 46)) (recs [(r : Rec)]) 46 3 1 rfl (by unfold maxLen; omega)
              rw [World.size_alloc] at this
              rw [← hW1]; exact this
            obtain ⟨va, n1, W2, p1, p2, p3, p4, _⟩ := rap_any (k1.owns hown (fun _ _ h => h)) rl (Nat.le_trans hkx.size k1.size) (by rw [List.length_singleton]; omega)
            obtain ⟨va, vc, rfl⟩ := owns_slice p2
            have k2 : Kept none' W0 W2 := (hkx.trans k1).new (Kept.grown (S := fun j => W0.heap.size ≤ j) p4 (fun j hj _ => (owns_own hown hj).1)) (fun j hj hs => by omega)
            rw [List.length_singleton, ← List.length_singleton (a := (r : Rec)), ← List.length_append] at p3
            rw [show gpre nd.kind LL b i ++ [(r : Rec)] = gpre nd.kind LL b (i + 1) from by rw [gpre_succ HL.out.1 hr]; unfold stepG; rw [HKD.out]] at p2 p3
            subst p3
            rw [← hW1] at p1
            have Q := Lib.hid (And.intro hgi (And.intro p1 (And.intro p2 k2)))
            clear hgi p1 p2 p4 k2 k1 rl hW1 hown hkx hr hrc hgl
            go_wp2_with (at_builtin; refine wpList_append_run rfl (.tmp 40) (.tmp 42) 42 rfl (.slice xa (gpre nd.kind LL b i).length xc) (.slice (some ⟨wx.heap.size + 1, 0, none⟩) 1 1) _ rfl rfl Q.out.2.1 ?_)
            go_roundg (L.length - (i + 1))
            case rel => exact ⟨i + 1, by omega, by go_num, Nat.le_refl _, Q.out.2.2.1, Q.out.2.2.2⟩
            case measure => have := Q.out.1; omega
        · have hie : i = L.length := by omega
          subst hie
          rw [gpre_next HL.out.1] at hown
          have Q := Lib.hid (And.intro hown hkx)
          have hlenx : (gpre nd.kind LL b L.length).length = (gpre nd.kind LL (b + 1) 0).length := by rw [gpre_next HL.out.1]
          rw [hlenx]
          clear hown hkx hgi
          go_wp2_with fail
          go_roundg (LL.length - (b + 1))
          case rel => exact ⟨b + 1, by omega, by go_num, Nat.le_refl _, Q.out.1, Q.out.2⟩
          case measure => have := A.out.1; omega
    · have hbe : b = LL.length := by omega
      subst hbe
      have hfull : gpre nd.kind LL LL.length 0 = (rowG nd.kind LL).flatten := by rw [gpre_zero, List.take_of_length_le (by rw [rowG_len]; exact Nat.le_refl _)]
      rw [hfull] at hown ⊢
      have hfl := rowG_flat nd.kind LL
      obtain ⟨FL, hFL⟩ : ∃ FL, (rowG nd.kind LL).flatten = FL := ⟨_, rfl⟩
      rw [hFL] at hown hfl ⊢
      have HFL := Lib.hid hFL
      clear hFL
      have Q := Lib.hid (And.intro (Reads.of_owns hown) (K0.out.1.trans hkp))
      have HF := Lib.hid hfl
      clear hown hkp hg hfl hfull
      go_wp2_with fail
      have c := rmerge_any _ FL wo Q.out.1 (by have := HF.out; omega)
      (with_reducible refine c.mono ?_)
      clear c
      rintro e w2 ⟨u, rfl, r1, r2, k2⟩
      have F := Lib.hid (show GetsQ w (smerge FL) (.returned u) w2 from ⟨u, rfl, r1, fun b hb => Nat.le_trans Q.out.2.size (r2 b hb), Q.out.2.trans k2⟩)
      obtain ⟨ra, rc, rfl, _, _⟩ := r1.len
      clear r1 r2 k2
      go_wp2_with fail
      go_ret
      rw [HFL.out]
      exact F.out
end Go.Proofs.Ytaalpijohdlabaa
