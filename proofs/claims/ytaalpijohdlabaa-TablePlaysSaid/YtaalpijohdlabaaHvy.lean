/-
  How great an expression is (Size); whether a node, calls and rows of records are more than are gone through (heavy).
-/
import Derived.Test.YtaalpijohdlabaaHeavy
import Derived.Test.YtaalpijohdlabaaGetA
namespace Go.Proofs.Ytaalpijohdlabaa
open Go Go.RowKit
attribute [local irreducible] wpL
def SizeQ (w : World) (e : Ending) (w' : World) : Prop := ∃ n : Int, e = .returned (.int .i64 n) ∧ 1 ≤ n ∧ n ≤ 2000 ∧ Kept none' w w'
set_option maxRecDepth 100000 in
set_option maxHeartbeats 1000000 in
theorem size_any : ∀ (N : Nat) (x : Ex) (a : Array Value) (w : World), SizeOf.sizeOf x ≤ N → ExAt w a x → Calls Try.prog 73 #[.agg a] w (SizeQ w)
  | 0, x, _, _, h, _ => by cases x; simp at h
  | N + 1, x, a, w, hN, h => by
    obtain ⟨p, cap, rfl, h0, h1, h2, h3, h4, h5⟩ := h.parts
    have sub : ∀ (i : Nat) (y : Ex), x.args[i]? = some y → SizeOf.sizeOf y ≤ N := by
      intro i y hy
      obtain ⟨op, n, args⟩ := x
      have h1 := List.sizeOf_lt_of_mem (List.mem_of_getElem? (show args[i]? = some y from hy))
      simp at hN
      omega
    have IH := Lib.hid (fun y a w hy => size_any N y a w hy)
    have SB := Lib.hid sub
    have H5 := Lib.hid h5
    unfold maxLen at h4
    clear h h5 sub hN
    go_enter Try.func73, Try.ntmps73
    go_wp2_with fail
    obtain ⟨W0, hW0⟩ : ∃ W0, w.alloc (.cells #[.int .u8 x.op, .int .i64 x.n, .slice p x.args.length cap] 52) = W0 := ⟨_, rfl⟩
    have k0 : Kept none' w W0 := by rw [← hW0]; exact (Kept.refl _ _).alloc _
    rw [hW0]
    have K0 := Lib.hid k0
    clear hW0 k0
    go_loopg [3, 9] x.args.length (fun g vn vi wr => ∃ (k : Nat) (n : Int), k ≤ x.args.length ∧ vi = .int .i64 (k : Int) ∧ vn = .int .i64 n ∧ x.args.length - k ≤ g ∧ 1 ≤ n ∧ n ≤ 4000 ∧ Kept none' w wr)
    case atStart => exact ⟨0, 1, by omega, rfl, rfl, by omega, by omega, by omega, K0.out⟩
    case round =>
      obtain ⟨k, n, hkl, rfl, rfl, hg, hn1, hn2, hkp⟩ := hrel
      by_cases hlt : k < x.args.length
      · obtain ⟨y, hy⟩ : ∃ y, x.args[k]? = some y := ⟨_, List.getElem?_eq_getElem hlt⟩
        obtain ⟨b, off, p', cap', rfl, q0, q1, q2, hy2⟩ := H5.out k y hy
        have r0 := hkp.cell (p := ⟨b, off + k * 3, none⟩) (fun h => h) q0
        have r1 := hkp.cell (p := ⟨b, off + k * 3 + 1, none⟩) (fun h => h) q1
        have r2 := hkp.cell (p := ⟨b, off + k * 3 + 2, none⟩) (fun h => h) q2
        have G := Lib.hid (And.intro hg (And.intro (ExAt.pure hkp hy2) (And.intro hkp (SB.out k y hy))))
        clear q0 q1 q2 hy hy2 hkp hg H5
        by_cases hb : n < 2000
        · go_wp2_with fail
          have ka : Kept none' wr (wr.alloc (.cells #[.int .u8 y.op, .int .i64 y.n, .slice p' y.args.length cap'] 52)) := (Kept.refl _ _).alloc _
          have c := IH.out y _ (wr.alloc (.cells #[.int .u8 y.op, .int .i64 y.n, .slice p' y.args.length cap'] 52)) G.out.2.2.2 (ExAt.pure ka G.out.2.1)
          (with_reducible refine c.mono ?_)
          clear c
          rintro e w2 ⟨m, rfl, hm1, hm2, k2⟩
          have K2 := Lib.hid (G.out.2.2.1.trans (ka.trans k2))
          clear k2 ka
          go_wp2_with fail
          go_roundg (x.args.length - (k + 1))
          case rel => exact ⟨k + 1, n + m, by omega, by go_num, rfl, Nat.le_refl _, by omega, by omega, K2.out⟩
          case measure => have := G.out.1; omega
        · go_wp2_with fail
          go_roundg (x.args.length - (k + 1))
          case rel => exact ⟨k + 1, n, by omega, by go_num, rfl, Nat.le_refl _, by omega, by omega, G.out.2.2.1.alloc _⟩
          case measure => have := G.out.1; omega
      · have HK := Lib.hid hkp
        clear hkp
        by_cases hb : n ≤ 2000
        · have e : min n 2000 = n := by omega
          go_wp2_with fail
          go_ret
          exact ⟨n, rfl, by omega, by omega, HK.out⟩
        · have e : min n 2000 = 2000 := by omega
          go_wp2_with fail
          go_ret
          exact ⟨2000, rfl, by omega, by omega, HK.out⟩
def totL (LL : List (List Rec)) : Nat := LL.flatten.length
theorem totL_succ {LL : List (List Rec)} {k : Nat} {L : List Rec} (h : LL[k]? = some L) : totL (LL.take (k + 1)) = totL (LL.take k) + L.length := by
  unfold totL; rw [flat_take_succ h, List.length_append]
theorem totL_le {LL : List (List Rec)} {M : Nat} (hL : ∀ L ∈ LL, L.length ≤ M) : ∀ k, totL (LL.take k) ≤ k * M
  | 0 => by simp [totL]
  | k + 1 => by
    have h0 := totL_le hL k
    rw [Nat.succ_mul]
    cases h : LL[k]? with
    | none =>
      rw [List.take_add_one, h, Option.toList_none, List.append_nil]
      omega
    | some L =>
      have := hL L (List.mem_of_getElem? h)
      rw [totL_succ h]; omega
/-- What heavy answers. -/
def HvyQ (w : World) (LL : List (List Rec)) (ops : List Op) (e : Ending) (w' : World) : Prop :=
  ∃ b : Bool, e = .returned (.bool b) ∧ (b = false → LL.length ≤ 20 ∧ totL LL ≤ 500 ∧ heavyB ops = false) ∧ Kept none' w w'
set_option maxRecDepth 100000 in
set_option maxHeartbeats 1000000 in
theorem hvy_any (na : Array Value) (nd : Nod) (vo v : Value) (ops : List Op) (LL : List (List Rec)) (w : World) (hn : NodAt w na nd) (ho : OpsAt w vo ops) (hr : Rows2 w v LL) (hL : ∀ L ∈ LL, L.length ≤ 5864062014805) :
    Calls Try.prog 30 #[.agg na, vo, v] w (HvyQ w LL ops) := by
  obtain ⟨uid, inv, p, cap, rfl, hx, hk0, hk1, hn64⟩ := hn
  obtain ⟨vs0, hv0, hrd, hev⟩ := hr
  obtain ⟨pa, n0, pcap, rfl, hc1, hc2, hc3, hcl⟩ := hrd
  have hn0 : n0 = LL.length := by omega
  subst hn0
  unfold maxLen at hc2
  have HE := Lib.hid (And.intro hv0 (And.intro hcl hev))
  have HX := Lib.hid hx
  have HO := Lib.hid ho
  have HLB := Lib.hid hL
  obtain ⟨oa, oc, rfl, _⟩ := ho
  clear hx hv0 hc3 hcl hev hL
  go_enter Try.func30, Try.ntmps30
  go_wp2_with fail
  obtain ⟨W0, hW0⟩ : ∃ W0, w.alloc (.cells #[.string uid, .int .u8 nd.kind, inv, .int .u8 nd.x.op, .int .i64 nd.x.n, .slice p nd.x.args.length cap, .int .i64 nd.n] 54) = W0 := ⟨_, rfl⟩
  have k0 : Kept none' w W0 := by rw [← hW0]; exact (Kept.refl _ _).alloc _
  have d3 : W0.cell? ⟨w.heap.size, 3, none⟩ = some (.int .u8 nd.x.op) := by rw [← hW0]; simp
  have d4 : W0.cell? ⟨w.heap.size, 4, none⟩ = some (.int .i64 nd.x.n) := by rw [← hW0]; simp
  have d5 : W0.cell? ⟨w.heap.size, 5, none⟩ = some (.slice p nd.x.args.length cap) := by rw [← hW0]; simp
  rw [hW0]
  have K0 := Lib.hid k0
  clear hW0 k0
  go_loopg [7, 12] LL.length (fun g vn vi wr => ∃ (k : Nat) (n : Int), k ≤ LL.length ∧ vi = .int .i64 (k : Int) ∧ vn = .int .i64 n ∧ LL.length - k ≤ g ∧ R64 n ∧ (k ≤ 20 → n = totL (LL.take k)) ∧ wr = W0)
  case atStart => exact ⟨0, 0, by omega, rfl, rfl, by omega, zero_r64, fun _ => by simp [totL], rfl⟩
  case round =>
    obtain ⟨k, n, hkl, rfl, rfl, hg, ⟨hn1, hn2⟩, htot, rfl⟩ := hrel
    by_cases hlt : k < LL.length
    · obtain ⟨L, hL⟩ : ∃ L, LL[k]? = some L := ⟨_, List.getElem?_eq_getElem hlt⟩
      obtain ⟨u, hu⟩ : ∃ u, vs0[k]? = some u := ⟨_, List.getElem?_eq_getElem (by rw [HE.out.1]; exact hlt)⟩
      have hru := HE.out.2.2 k u L hu hL
      obtain ⟨ua, uc, rfl, hu1, hu2⟩ := hru.len
      obtain ⟨pb, po, rfl, hpc⟩ := HE.out.2.1.resolve_left (fun h => by rw [h] at hu; cases hu)
      have q0 := K0.out.cell (p := ⟨pb, po + k, none⟩) (fun h => h) (hpc k _ hu)
      have G := Lib.hid (And.intro hg (And.intro htot hL))
      clear hg htot hL hu hru hpc hu1 hu2
      go_wp2_with fail
      go_roundg (LL.length - (k + 1))
      case rel =>
        refine ⟨k + 1, wrap64 (n + (L.length : Int)), by omega, by go_num, rfl, Nat.le_refl _, wrap_r64 _, fun h => ?_, rfl⟩
        have h1 := totL_le HLB.out k
        have h2 := HLB.out L (List.mem_of_getElem? G.out.2.2)
        rw [totL_succ G.out.2.2]
        have h3 := G.out.2.1 (by omega)
        have h4 : k * 5864062014805 ≤ 20 * 5864062014805 := Nat.mul_le_mul_right _ (by omega)
        unfold wrap64; omega
      case measure => have := G.out.1; omega
    · have hke : k = LL.length := by omega
      subst hke
      rw [List.take_of_length_le (Nat.le_refl _)] at htot
      have G := Lib.hid htot
      clear htot hg
      by_cases h5 : 500 < n
      · go_wp2_with fail
        go_ret
        exact ⟨true, rfl, (fun h => by cases h), K0.out⟩
      · by_cases h20 : 20 < LL.length
        · have h20b : (20 : Int) < (LL.length : Int) := by omega
          go_wp2_with fail
          go_ret
          exact ⟨true, rfl, (fun h => by cases h), K0.out⟩
        · have h20b : ¬ (20 : Int) < (LL.length : Int) := by omega
          go_wp2_with fail
          have c := heavy_any _ ops wr (HO.out.pure K0.out)
          (with_reducible refine c.mono ?_)
          clear c
          rintro e w1 ⟨rfl, k1⟩
          have KW := Lib.hid (And.intro k1 (K0.out.trans k1))
          have d3 := k1.cell (p := ⟨w.heap.size, 3, none⟩) (fun h => h) d3
          have d4 := k1.cell (p := ⟨w.heap.size, 4, none⟩) (fun h => h) d4
          have d5 := k1.cell (p := ⟨w.heap.size, 5, none⟩) (fun h => h) d5
          clear k1
          cases hh : heavyB ops with
          | true =>
            clear hh
            go_wp2_with fail
            go_ret
            exact ⟨true, rfl, (fun h => by cases h), KW.out.2⟩
          | false =>
            have HH := Lib.hid hh
            clear hh
            go_wp2_with fail
            have c := size_any (SizeOf.sizeOf nd.x) nd.x _ w1 (Nat.le_refl _) (ExAt.pure KW.out.2 HX.out)
            (with_reducible refine c.mono ?_)
            clear c
            rintro e w2 ⟨m, rfl, hm1, hm2, k2⟩
            have fin : (500 ≤ m ∨ ¬ 500 ≤ m) := by omega
            have F := Lib.hid (show ∀ b : Bool, HvyQ w LL ops (.returned (.bool b)) w2 from fun b => ⟨b, rfl, fun _ => ⟨by omega, by have := G.out (by omega); omega, HH.out⟩, KW.out.2.trans k2⟩)
            clear k2
            rcases fin with fin | fin
            · have fd : decide (500 ≤ m) = true := decide_eq_true fin
              go_wp2_with fail
              go_ret
              exact F.out true
            · have fd : decide (500 ≤ m) = false := decide_eq_false fin
              go_wp2_with fail
              go_ret
              exact F.out false
end Go.Proofs.Ytaalpijohdlabaa
