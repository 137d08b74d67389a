/-
  shadow.Ideals: the verdict of what two sides' ideals come to.
-/
import Derived.Test.YtopeleenlcnkkaaGreatDoorK46
set_option linter.unusedVariables false
set_option linter.unusedSimpArgs false
namespace Go.Proofs.YtopeleenlcnkkaaGreatDoor
open Go Go.RowKit
attribute [local irreducible] wpL wpTr H2.wpH
def SideAt (w : World) (v u : Value) (s : Side) : Prop := JbAt w #[.int .i64 s.1.par, v] s.1 ∧ Reads w 2 u (stsC s.2) ∧ ∀ x ∈ s.2, x.1.size ≤ maxLen ∧ x.2.size ≤ maxLen
def pairR (r : Rec) : Int × Int := (r.key, r.val)
theorem pairR_64 {L : List Rec} (h : ∀ r ∈ L, RecOk r) (k : Nat) : ∀ y ∈ (L.take k).map pairR, R64 y.1 ∧ R64 y.2 := fun y hy => by
 obtain ⟨r, hr, rfl⟩ := List.mem_map.1 hy
 have := h r (List.mem_of_mem_take hr)
 exact ⟨this.key, this.val⟩
theorem JbAt.nodes {w : World} {par : Int} {v : Value} {j : Jb} (h : JbAt w #[.int .i64 par, v] j) : NodesAt w v j.nodes := by
 obtain ⟨v', e, hn, _⟩ := h
 injection e with e
 injection e with _ e
 injection e with e
 subst e
 exact hn
theorem goL_append (nodes : List JN) : ∀ (l m : List (Int × Int)) (Ts : Tabs), goL nodes Ts (l ++ m) = ((goL nodes Ts l).1 ++ (goL nodes (goL nodes Ts l).2 m).1, (goL nodes (goL nodes Ts l).2 m).2)
 | [], m, Ts => by simp [goL]
 | y :: l, m, Ts => by simp only [List.cons_append, goL, goL_append nodes l m, List.append_assoc]
theorem goL_snoc (nodes : List JN) (Ts : Tabs) {L : List Rec} {k : Nat} {r : Rec} (h : L[k]? = some r) :
  goL nodes Ts ((L.take (k + 1)).map pairR) = ((goL nodes Ts ((L.take k).map pairR)).1 ++ (feedP nodes (goL nodes Ts ((L.take k).map pairR)).2 r.key r.val).1, (feedP nodes (goL nodes Ts ((L.take k).map pairR)).2 r.key r.val).2) := by
 rw [List.take_add_one, h, Option.toList_some, List.map_append, goL_append]
 simp [goL, pairR]
theorem Reads.blk_lt {w : World} {v : Value} {cs : List Value} {k b : Nat} (h : Reads w k v cs) (hk : 0 < k) (hb : Value.blk v = some b) : b < w.heap.size := by
 obtain ⟨c, E, f, h⟩ := h.isCells hk hb
 exact (Array.getElem?_eq_some_iff.1 h).1
theorem partOf_lt (key : Int) : partOf key < 2 := by unfold partOf; split <;> omega
theorem inPart_le (p : Nat) (L : List Rec) : (inPart p L).length ≤ L.length := by unfold inPart; rw [List.length_map]; exact List.length_filter_le _ _
def O4 (A B : List Rec) : List (List Outp) := [inPart 0 A, inPart 1 A, inPart 0 B, inPart 1 B]
theorem inPart_snoc (p : Nat) (A : List Rec) (s : Rec) : inPart p (A ++ [s]) = inPart p A ++ if partOf s.key = p then [(s.key, s.val)] else [] := by
 unfold inPart
 rw [List.filter_append, List.map_append]
 by_cases h : partOf s.key = p
 ·rw [if_pos h]; simp [h]
 ·rw [if_neg h]; simp [h]
theorem o4_get0 (A B : List Rec) {p : Nat} (h : p < 2) : (O4 A B)[p]? = some (inPart p A) := by
 have : p = 0 ∨ p = 1 := by omega
 rcases this with rfl | rfl <;> rfl
theorem o4_get1 (A B : List Rec) {p : Nat} (h : p < 2) : (O4 A B)[2 + p]? = some (inPart p B) := by
 have : p = 0 ∨ p = 1 := by omega
 rcases this with rfl | rfl <;> rfl
theorem o4_push0 (A B : List Rec) (s : Rec) : (O4 A B).set (partOf s.key) (inPart (partOf s.key) A ++ [(s.key, s.val)]) = O4 (A ++ [s]) B := by
 have hp := partOf_lt s.key
 have : partOf s.key = 0 ∨ partOf s.key = 1 := by omega
 unfold O4
 rw [inPart_snoc, inPart_snoc]
 rcases this with h | h <;> rw [h] <;> simp
theorem o4_push1 (A B : List Rec) (s : Rec) : (O4 A B).set (2 + partOf s.key) (inPart (partOf s.key) B ++ [(s.key, s.val)]) = O4 A (B ++ [s]) := by
 have hp := partOf_lt s.key
 have : partOf s.key = 0 ∨ partOf s.key = 1 := by omega
 unfold O4
 rw [inPart_snoc, inPart_snoc]
 rcases this with h | h <;> rw [h] <;> simp
theorem ideals_errA {sa sb : Side} {l : List (Int × Int)} {er : Int} (h : loadP sa.1 sa.2 = .error er) : idealsP sa sb l = ((false, 0, 0), er) := by unfold idealsP; rw [h]
theorem ideals_errB {sa sb : Side} {l : List (Int × Int)} {er : Int} {A : List Rec} (ha : ∃ Ts, loadP sa.1 sa.2 = .ok Ts ∧ A = (goL sa.1.nodes Ts l).1) (h : loadP sb.1 sb.2 = .error er) : idealsP sa sb l = ((false, 0, 0), er) := by
 obtain ⟨Ts, ha, _⟩ := ha
 unfold idealsP; rw [ha]; simp only; rw [h]
theorem ideals_both {sa sb : Side} {l : List (Int × Int)} {A B : List Rec} (ha : ∃ Ts, loadP sa.1 sa.2 = .ok Ts ∧ A = (goL sa.1.nodes Ts l).1) (hb : ∃ Ts, loadP sb.1 sb.2 = .ok Ts ∧ B = (goL sb.1.nodes Ts l).1) : idealsP sa sb l = (compareV (fun p => inPart p A) (fun p => inPart p B), 0) := by
 obtain ⟨Ts, ha, rfl⟩ := ha
 obtain ⟨Us, hb, rfl⟩ := hb
 unfold idealsP outsP; rw [ha]; simp only; rw [hb]
theorem pick_side0 (a b c d e f : Value) (w : World) : (Instr.index 114 (.agg #[a, b, c, d, e, f]) (.int .i64 0)).run Tryz.prog w = .ok (.agg #[a, b, c]) w := by
 apply Eq.symm; apply Eq.symm; kernel_rfl
theorem pick_side1 (a b c d e f : Value) (w : World) : (Instr.index 114 (.agg #[a, b, c, d, e, f]) (.int .i64 1)).run Tryz.prog w = .ok (.agg #[d, e, f]) w := by
 apply Eq.symm; apply Eq.symm; kernel_rfl
def IdealsQ (w : World) (v : Verd × Int) (e : Ending) (w' : World) : Prop := e = .returned (.tuple #[.agg (verdC v.1), .int .i64 v.2]) ∧ Kept none' w w'
set_option maxRecDepth 100000 in
set_option maxHeartbeats 4000000 in
theorem ideals_any (sa sb : Side) (va ua vb ub lv : Value) (L : List Rec) (w : World) (ha : SideAt w va ua sa) (hb : SideAt w vb ub sb) (hl : Reads w 3 lv (recs L)) (hL : ∀ r ∈ L, RecOk r) (hlen : L.length ≤ 60) :
  Calls Tryz.prog 26 #[.agg #[.int .i64 sa.1.par, va, ua], .agg #[.int .i64 sb.1.par, vb, ub], lv] w (IdealsQ w (idealsP sa sb (L.map pairR))) := by
 obtain ⟨la, lcap, rfl, l1, l2, l3⟩ := hl.recAt
 unfold maxLen at l2
 have H := Lib.hid (And.intro ha (And.intro hb (And.intro l3 hL)))
 obtain ⟨va1, va2, rfl⟩ : ∃ a c, va = .slice a sa.1.nodes.length c := by obtain ⟨a, c, h, _⟩ := ha.1.nodes.at; exact ⟨a, c, h⟩
 obtain ⟨vb1, vb2, rfl⟩ : ∃ a c, vb = .slice a sb.1.nodes.length c := by obtain ⟨a, c, h, _⟩ := hb.1.nodes.at; exact ⟨a, c, h⟩
 obtain ⟨ua1, ua2, rfl⟩ : ∃ a c, ua = .slice a sa.2.length c := by obtain ⟨a, c, h, _⟩ := ha.2.1.stAt; exact ⟨a, c, h⟩
 obtain ⟨ub1, ub2, rfl⟩ : ∃ a c, ub = .slice a sb.2.length c := by obtain ⟨a, c, h, _⟩ := hb.2.1.stAt; exact ⟨a, c, h⟩
 clear ha hb hl l3 hL
 have kA : Kept none' w ((((w.alloc (.cells #[.int .i64 sa.1.par, (.slice va1 sa.1.nodes.length va2), (.slice ua1 sa.2.length ua2)] 48)).alloc (.cells #[.int .i64 sb.1.par, (.slice vb1 sb.1.nodes.length vb2), (.slice ub1 sb.2.length ub2)] 48)).alloc (.cells #[.bool false, .int .i64 0, .int .i64 0] 52)).alloc (.cells #[.slice none 0 0, .slice none 0 0, .slice none 0 0, .slice none 0 0] 113)) := ((((Kept.refl _ _).alloc _).alloc _).alloc _).alloc _
 have t2 : ((((w.alloc (.cells #[.int .i64 sa.1.par, (.slice va1 sa.1.nodes.length va2), (.slice ua1 sa.2.length ua2)] 48)).alloc (.cells #[.int .i64 sb.1.par, (.slice vb1 sb.1.nodes.length vb2), (.slice ub1 sb.2.length ub2)] 48)).alloc (.cells #[.bool false, .int .i64 0, .int .i64 0] 52)).alloc (.cells #[.slice none 0 0, .slice none 0 0, .slice none 0 0, .slice none 0 0] 113)).heap[w.heap.size + 1 + 1]? = some (.cells #[.bool false, .int .i64 0, .int .i64 0] 52 (0, 0)) := by
  have := ((Kept.refl none' _).alloc (.cells #[.slice none 0 0, .slice none 0 0, .slice none 0 0, .slice none 0 0] 113)).heap (heap_alloc_new ((w.alloc (.cells #[.int .i64 sa.1.par, (.slice va1 sa.1.nodes.length va2), (.slice ua1 sa.2.length ua2)] 48)).alloc (.cells #[.int .i64 sb.1.par, (.slice vb1 sb.1.nodes.length vb2), (.slice ub1 sb.2.length ub2)] 48)) (.cells #[.bool false, .int .i64 0, .int .i64 0] 52)) (fun h => h)
  rwa [World.size_alloc, World.size_alloc] at this
 have t3 : ((((w.alloc (.cells #[.int .i64 sa.1.par, (.slice va1 sa.1.nodes.length va2), (.slice ua1 sa.2.length ua2)] 48)).alloc (.cells #[.int .i64 sb.1.par, (.slice vb1 sb.1.nodes.length vb2), (.slice ub1 sb.2.length ub2)] 48)).alloc (.cells #[.bool false, .int .i64 0, .int .i64 0] 52)).alloc (.cells #[.slice none 0 0, .slice none 0 0, .slice none 0 0, .slice none 0 0] 113)).heap[w.heap.size + 1 + 1 + 1]? = some (.cells #[.slice none 0 0, .slice none 0 0, .slice none 0 0, .slice none 0 0] 113 (0, 0)) := by
  have := heap_alloc_new (((w.alloc (.cells #[.int .i64 sa.1.par, (.slice va1 sa.1.nodes.length va2), (.slice ua1 sa.2.length ua2)] 48)).alloc (.cells #[.int .i64 sb.1.par, (.slice vb1 sb.1.nodes.length vb2), (.slice ub1 sb.2.length ub2)] 48)).alloc (.cells #[.bool false, .int .i64 0, .int .i64 0] 52)) (.cells #[.slice none 0 0, .slice none 0 0, .slice none 0 0, .slice none 0 0] 113)
  rwa [World.size_alloc, World.size_alloc, World.size_alloc] at this
 have t0 : ((((w.alloc (.cells #[.int .i64 sa.1.par, (.slice va1 sa.1.nodes.length va2), (.slice ua1 sa.2.length ua2)] 48)).alloc (.cells #[.int .i64 sb.1.par, (.slice vb1 sb.1.nodes.length vb2), (.slice ub1 sb.2.length ub2)] 48)).alloc (.cells #[.bool false, .int .i64 0, .int .i64 0] 52)).alloc (.cells #[.slice none 0 0, .slice none 0 0, .slice none 0 0, .slice none 0 0] 113)).heap[w.heap.size]? = some (.cells #[.int .i64 sa.1.par, (.slice va1 sa.1.nodes.length va2), (.slice ua1 sa.2.length ua2)] 48 (0, 0)) :=
  ((((Kept.refl none' _).alloc _).alloc _).alloc _).heap (heap_alloc_new w _) (fun h => h)
 have t1 : ((((w.alloc (.cells #[.int .i64 sa.1.par, (.slice va1 sa.1.nodes.length va2), (.slice ua1 sa.2.length ua2)] 48)).alloc (.cells #[.int .i64 sb.1.par, (.slice vb1 sb.1.nodes.length vb2), (.slice ub1 sb.2.length ub2)] 48)).alloc (.cells #[.bool false, .int .i64 0, .int .i64 0] 52)).alloc (.cells #[.slice none 0 0, .slice none 0 0, .slice none 0 0, .slice none 0 0] 113)).heap[w.heap.size + 1]? = some (.cells #[.int .i64 sb.1.par, (.slice vb1 sb.1.nodes.length vb2), (.slice ub1 sb.2.length ub2)] 48 (0, 0)) := by
  have := (((Kept.refl none' _).alloc (.cells #[.bool false, .int .i64 0, .int .i64 0] 52)).alloc (.cells #[.slice none 0 0, .slice none 0 0, .slice none 0 0, .slice none 0 0] 113)).heap (heap_alloc_new (w.alloc (.cells #[.int .i64 sa.1.par, (.slice va1 sa.1.nodes.length va2), (.slice ua1 sa.2.length ua2)] 48)) (.cells #[.int .i64 sb.1.par, (.slice vb1 sb.1.nodes.length vb2), (.slice ub1 sb.2.length ub2)] 48)) (fun h => h)
  rwa [World.size_alloc] at this
 obtain ⟨W1, hW1⟩ : ∃ W1, ((((w.alloc (.cells #[.int .i64 sa.1.par, (.slice va1 sa.1.nodes.length va2), (.slice ua1 sa.2.length ua2)] 48)).alloc (.cells #[.int .i64 sb.1.par, (.slice vb1 sb.1.nodes.length vb2), (.slice ub1 sb.2.length ub2)] 48)).alloc (.cells #[.bool false, .int .i64 0, .int .i64 0] 52)).alloc (.cells #[.slice none 0 0, .slice none 0 0, .slice none 0 0, .slice none 0 0] 113)) = W1 := ⟨_, rfl⟩
 rw [hW1] at kA t0 t1 t2 t3
 have p0 := cells_at t0 (j := 0) rfl
 have p1 := cells_at t0 (j := 1) rfl
 have p2 := cells_at t0 (j := 2) rfl
 have r0 := cells_at t1 (j := 0) rfl
 have r1 := cells_at t1 (j := 1) rfl
 have r2 := cells_at t1 (j := 2) rfl
 have hsz : w.heap.size + 1 + 1 + 1 < W1.heap.size := (Array.getElem?_eq_some_iff.1 t3).1
 have T2 := Lib.hid (And.intro t3 t2)
 have KW := Lib.hid kA
 have hout0 : OutsAt W1 W1.heap.size (w.heap.size + 1 + 1 + 1) 113 [.slice none 0 0, .slice none 0 0, .slice none 0 0, .slice none 0 0] (O4 [] []) := outs_new t3
 have HO := Lib.hid hout0
 clear kA t0 t1 t2 t3 hout0
 go_enter Tryz.func26, Tryz.ntmps26
 go_wp2_with fail
 try rw [hW1]
 clear hW1 p0 p1 p2 r0 r1 r2
 go_loopg [20] 2 (fun g vi wr => ∃ (i : Nat) (A B : List Rec) (V : List Value), i ≤ 2 ∧ vi = .int .i64 (i : Int) ∧ 2 - i ≤ g ∧
   ((i = 0 → A = [] ∧ B = []) ∧ (1 ≤ i → ∃ Ts, loadP sa.1 sa.2 = .ok Ts ∧ A = (goL sa.1.nodes Ts (L.map pairR)).1) ∧ (i = 1 → B = []) ∧ (2 ≤ i → ∃ Ts, loadP sb.1 sb.2 = .ok Ts ∧ B = (goL sb.1.nodes Ts (L.map pairR)).1)) ∧
   OutsAt wr W1.heap.size (w.heap.size + 1 + 1 + 1) 113 V (O4 A B) ∧ Kept (one (w.heap.size + 1 + 1 + 1)) W1 wr)
 case atStart => exact ⟨0, [], [], _, by omega, rfl, by omega, ⟨fun _ => ⟨rfl, rfl⟩, fun h => absurd h (by omega), fun _ => rfl, fun h => absurd h (by omega)⟩, HO.out, Kept.refl _ _⟩
 case round =>
  obtain ⟨i, A, B, V, hil, rfl, hg, hst, hout, hkp⟩ := hrel
  have h3 : i = 0 ∨ i = 1 ∨ i = 2 := by omega
  rcases h3 with rfl | rfl | rfl
  ·have kA : Kept none' wr (wr.alloc (.cells #[.int .i64 sa.1.par, (.slice va1 sa.1.nodes.length va2), (.slice ua1 sa.2.length ua2)] 48)) := (Kept.refl _ _).alloc _
   have aB : (wr.alloc (.cells #[.int .i64 sa.1.par, (.slice va1 sa.1.nodes.length va2), (.slice ua1 sa.2.length ua2)] 48)).heap[wr.heap.size]? = some (.cells #[.int .i64 sa.1.par, (.slice va1 sa.1.nodes.length va2), (.slice ua1 sa.2.length ua2)] 48 (0, 0)) := heap_alloc_new _ _
   obtain ⟨W2, hW2⟩ : ∃ W2, wr.alloc (.cells #[.int .i64 sa.1.par, (.slice va1 sa.1.nodes.length va2), (.slice ua1 sa.2.length ua2)] 48) = W2 := ⟨_, rfl⟩
   rw [hW2] at kA aB
   have m0 := cells_at aB (j := 0) rfl
   have m1 := cells_at aB (j := 1) rfl
   have m2 := cells_at aB (j := 2) rfl
   have kw2 : Kept none' w W2 := (KW.out.new hkp (fun q hq hs => by unfold one at hs; omega)).trans kA
   have cl := loadV_any sa.1 (.slice va1 sa.1.nodes.length va2) (.slice ua1 sa.2.length ua2) sa.2 W2 (H.out.1.1.pure kw2) (H.out.1.2.1.pure kw2) H.out.1.2.2
   have G := Lib.hid (And.intro hg (And.intro (hout.pure kA) (hkp.trans kA.pure)))
   have ST := Lib.hid hst
   have hidx := fun W => pick_side0 (.int .i64 sa.1.par) (.slice va1 sa.1.nodes.length va2) (.slice ua1 sa.2.length ua2) (.int .i64 sb.1.par) (.slice vb1 sb.1.nodes.length vb2) (.slice ub1 sb.2.length ub2) W
   have KW2 := Lib.hid kw2
   clear hg hout hkp hst kA aB kw2
   go_wp2_with fail
   try rw [hW2]
   clear hW2 hidx m0 m1 m2
   (with_reducible refine cl.mono ?_)
   clear cl
   intro e w3 hq
   unfold LoadV at hq
   cases hl : loadP sa.1 sa.2 with
   | error er =>
    rw [hl] at hq
    obtain ⟨rfl, hne, k3⟩ := hq
    have t2 := (G.out.2.2.trans k3.pure).heap T2.out.2 (fun e => by unfold one at e; omega)
    have F := Lib.hid (And.intro t2 (And.intro (KW2.out.trans k3) (show idealsP sa sb (L.map pairR) = ((false, 0, 0), er) from ideals_errA hl)))
    have f0 := cells_at t2 (j := 0) rfl
    have f1 := cells_at t2 (j := 1) rfl
    have f2 := cells_at t2 (j := 2) rfl
    have g0 := free_at t2 0
    have g1 := free_at t2 1
    have g2 := free_at t2 2
    clear k3 t2 hl
    go_wp2_with fail
    obtain ⟨q0, q1, q2, kE⟩ := verd_store (w := w) F.out.1 F.out.2.1 (by omega) false 0 0
    refine bodyPost_ret (v := .tuple #[.agg #[.bool false, .int .i64 0, .int .i64 0], .int .i64 er]) (by simp [results, Tryz.results26, go_sem, q0, q1, q2]) rfl ⟨by rw [F.out.2.2]; rfl, kE⟩
   | ok Ts0 =>
    rw [hl] at hq
    obtain ⟨bi, mi, pm, rfl, hob, hbi, hnn, hpar, hmi, htx, hnt, k3⟩ := hq
    obtain ⟨hok, hT0⟩ := load_ok hl
    have hjr : JR sa.1.nodes := hnn.jr
    have hle : W1.heap.size ≤ W2.heap.size := G.out.2.2.size
    have HL := Lib.hid hl
    have HI := Lib.hid (And.intro hok (And.intro hjr (And.intro hT0 (And.intro hpar (And.intro hbi (And.intro hmi hnt))))))
    have HS := Lib.hid (show OutsAt w3 W1.heap.size (w.heap.size + 1 + 1 + 1) 113 V (O4 ([]) []) ∧ TabsX w3 (fun q => ¬ outBk (w.heap.size + 1 + 1 + 1) V q) mi Ts0 pm ∧ Kept (one (w.heap.size + 1 + 1 + 1)) W1 w3 from
     ⟨by have := G.out.2.1.pure k3; rw [(ST.out.1 (by simp)).1, (ST.out.1 (by simp)).2] at this; exact this, htx.mono (fun q hq _ hb => by have := G.out.2.1.lt hb; unfold up at hq; omega), G.out.2.2.trans k3.pure⟩)
    have HN := Lib.hid (H.out.1.1.nodes)
    have HOB := Lib.hid hob
    clear hl hok hjr hT0 hpar hbi hmi hnt hob hnn htx k3 hle
    go_wp2_with fail
    go_loopg [38] L.length (fun g vi wk => ∃ (k : Nat) (V : List Value), k ≤ L.length ∧ vi = .int .i64 (k : Int) ∧ L.length - k ≤ g ∧ wk.heap[bi]? = some (.cells #[.int .i64 sa.1.par, (.slice va1 sa.1.nodes.length va2), .map (some mi)] 101 (0, 0)) ∧
      TabsX wk (fun q => ¬ outBk (w.heap.size + 1 + 1 + 1) V q) mi (goL sa.1.nodes Ts0 ((L.take k).map pairR)).2 pm ∧ OutsAt wk W1.heap.size (w.heap.size + 1 + 1 + 1) 113 V (O4 ((goL sa.1.nodes Ts0 ((L.take k).map pairR)).1) []) ∧ Kept (one (w.heap.size + 1 + 1 + 1)) W1 wk)
    case atStart => exact ⟨0, V, by omega, rfl, by omega, HOB.out, HS.out.2.1, HS.out.1, HS.out.2.2⟩
    case round =>
     obtain ⟨wk, rfl⟩ : ∃ wk : World, wk = wr := ⟨_, rfl⟩
     obtain ⟨k, V, hkl, rfl, hgk, hob, htx, hout, hkp⟩ := hrel
     have ko := goL_ok HI.out.1 HI.out.2.1 ((L.take k).map pairR) Ts0 HI.out.2.2.1 (pairR_64 H.out.2.2.2 k)
     obtain ⟨Ts, hTs⟩ : ∃ Ts, (goL sa.1.nodes Ts0 ((L.take k).map pairR)).2 = Ts := ⟨_, rfl⟩
     obtain ⟨A1, hA1⟩ : ∃ A1, (goL sa.1.nodes Ts0 ((L.take k).map pairR)).1 = A1 := ⟨_, rfl⟩
     rw [hTs] at htx ko
     rw [hA1] at hout ko
     by_cases hkt : k < L.length
     ·obtain ⟨r, hrk⟩ : ∃ r, L[k]? = some r := ⟨_, List.getElem?_eq_getElem hkt⟩
      obtain ⟨lb, loff, rfl, hlc⟩ := H.out.2.2.1.resolve_left (fun h => by rw [h] at hkt; simp at hkt)
      have kww : Kept none' w wk := KW.out.new hkp (fun q hq hs => by unfold one at hs; omega)
      obtain ⟨c0, c1, c2⟩ := (hlc k r hrk).pure kww
      have hro := H.out.2.2.2 r (List.mem_of_getElem? hrk)
      have hstep := goL_snoc sa.1.nodes Ts0 hrk
      rw [hTs, hA1] at hstep
      have ka : Kept none' wk (wk.alloc (.cells #[.int .i64 r.pos, .int .i64 r.key, .int .i64 r.val] 86)) := (Kept.refl _ _).alloc _
      obtain ⟨W4, hW4⟩ : ∃ W4, wk.alloc (.cells #[.int .i64 r.pos, .int .i64 r.key, .int .i64 r.val] 86) = W4 := ⟨_, rfl⟩
      have rB := heap_alloc_new wk (.cells #[.int .i64 r.pos, .int .i64 r.key, .int .i64 r.val] 86)
      rw [hW4] at ka rB
      have m0 := cells_at rB (j := 0) rfl
      have m1 := cells_at rB (j := 1) rfl
      have m2 := cells_at rB (j := 2) rfl
      have hiw : IdlAt W4 bi mi sa.1 Ts pm := ⟨⟨(.slice va1 sa.1.nodes.length va2), ka.heap hob (fun h => h), HN.out.pure (kww.trans ka)⟩, HI.out.2.2.2.1, htx.at_.pure ka⟩
      have cf := feedM_any (fun q => ¬ outBk (w.heap.size + 1 + 1 + 1) V q) sa.1 bi mi Ts pm r.key r.val W4 hiw (htx.pure ka) HI.out.1 HI.out.2.1 ko.1 hro.key hro.val
      have fo := feedP_ok HI.out.1 HI.out.2.1 ko.1 hro.key hro.val
      have hnw := HI.out.2.2.1.newT ko.1 HI.out.2.2.2.2.2.2
      have GK := Lib.hid (And.intro hgk (And.intro (ka.heap hob (fun h => h)) (And.intro (hout.pure ka) (And.intro (hkp.trans ka.pure) (And.intro hstep (And.intro fo (And.intro ko (And.intro hnw hiw))))))))
      clear hgk hob htx hout hkp hro hstep hrk hlc kww ka hiw fo ko hnw hTs hA1
      go_wp2_with fail
      try rw [hW4]
      clear hW4 m0 m1 m2 rB
      (with_reducible refine cf.mono ?_)
      clear cf c0 c1 c2
      rintro e w5 ⟨v5, rfl, hv5, hb5, hi5, k5, hx5⟩
      obtain ⟨T2, O, hO, hT2⟩ : ∃ T2 O, (feedP sa.1.nodes Ts r.key r.val).1 = O ∧ (feedP sa.1.nodes Ts r.key r.val).2 = T2 := ⟨_, _, rfl, rfl⟩
      have fo := GK.out.2.2.2.2.2.1
      have hstep := GK.out.2.2.2.2.1
      rw [hO, hT2] at fo hstep
      rw [hO] at hv5
      rw [hT2] at hi5 hx5
      have hv5k := hv5
      obtain ⟨oa, ocap, rfl, o1, o2, o3⟩ := hv5.recAt
      unfold maxLen at o2
      have hob5 := k5.heap GK.out.2.1 (fun hs => GK.out.2.2.2.2.2.2.2.2.tabs.maps_no hs _ _ _ GK.out.2.1)
      have hout5 := GK.out.2.2.1.keptS k5 (fun q hq hs => by obtain ⟨c, T, f, h⟩ := GK.out.2.2.1.isCells hq; exact GK.out.2.2.2.2.2.2.2.2.tabs.maps_no hs _ _ _ h)
      have hx5' : TabsX w5 (fun q => ¬ outBk (w.heap.size + 1 + 1 + 1) V q) mi T2 pm := hx5.mono (fun q hq _ hb => hq.elim (fun h => h hb) (fun h => by have := GK.out.2.2.1.lt hb; omega))
      have hk5 : Kept (one (w.heap.size + 1 + 1 + 1)) W1 w5 := GK.out.2.2.2.1.new k5 (fun q hq hs => by
       obtain ⟨i', T', hT', rfl⟩ := hs
       have := GK.out.2.2.2.2.2.2.2.1 i' T' hT'
       have := G.out.2.2.size
       omega)
      have hb5' : ∀ b, Value.blk (.slice oa O.length ocap) = some b → ¬ outBk (w.heap.size + 1 + 1 + 1) V b ∧ b < w5.heap.size := fun b hb => ⟨fun h => by have := GK.out.2.2.1.lt h; have := hb5 b hb; omega, hv5k.blk_lt (by omega) hb⟩
      have hAl : A1.length ≤ 64 * 60 := by
       have := GK.out.2.2.2.2.2.2.1.2.2
       rw [List.length_map, List.length_take] at this
       omega
      have Z := Lib.hid (And.intro hob5 (And.intro hx5' (And.intro hout5 (And.intro hk5 (And.intro hv5k (And.intro hb5' (And.intro hstep (And.intro fo hAl))))))))
      clear hob5 hx5' hx5 hout5 hk5 hv5 hv5k hb5 hb5' hi5 k5 fo hstep hO hT2 o3 hAl
      go_wp2_with fail
      go_loopg [49] O.length (fun g vi wq => ∃ (n : Nat) (V : List Value), n ≤ O.length ∧ vi = .int .i64 (n : Int) ∧ O.length - n ≤ g ∧ wq.heap[bi]? = some (.cells #[.int .i64 sa.1.par, (.slice va1 sa.1.nodes.length va2), .map (some mi)] 101 (0, 0)) ∧
        TabsX wq (fun q => ¬ outBk (w.heap.size + 1 + 1 + 1) V q) mi T2 pm ∧ OutsAt wq W1.heap.size (w.heap.size + 1 + 1 + 1) 113 V (O4 (A1 ++ O.take n) []) ∧ Kept (one (w.heap.size + 1 + 1 + 1)) W1 wq ∧
        Reads wq 3 (.slice oa O.length ocap) (recs O) ∧ ∀ b, Value.blk (.slice oa O.length ocap) = some b → ¬ outBk (w.heap.size + 1 + 1 + 1) V b ∧ b < wq.heap.size)
      case atStart => exact ⟨0, V, by omega, rfl, by omega, Z.out.1, Z.out.2.1, by rw [List.take_zero, List.append_nil]; exact Z.out.2.2.1, Z.out.2.2.2.1, Z.out.2.2.2.2.1, Z.out.2.2.2.2.2.1⟩
      case round =>
       obtain ⟨wq, rfl⟩ : ∃ wq : World, wq = wr := ⟨_, rfl⟩
       obtain ⟨n, V, hnl, rfl, hgn, hob, htx, hout, hkp, hrd, hbl⟩ := hrel
       by_cases hnt : n < O.length
       ·obtain ⟨s, hs⟩ : ∃ s, O[n]? = some s := ⟨_, List.getElem?_eq_getElem hnt⟩
        obtain ⟨oa', ocap', eo, -, -, o3⟩ := hrd.recAt
        injection eo with eo1 _ eo2
        subst eo1 eo2
        obtain ⟨ob, ooff, rfl, hoc⟩ := o3.resolve_left (fun h => by rw [h] at hnt; simp at hnt)
        obtain ⟨d0, d1, d2⟩ := hoc n s hs
        have ka : Kept none' wq (wq.alloc (.cells #[.int .i64 s.pos, .int .i64 s.key, .int .i64 s.val] 44)) := (Kept.refl _ _).alloc _
        have sB : (wq.alloc (.cells #[.int .i64 s.pos, .int .i64 s.key, .int .i64 s.val] 44)).heap[wq.heap.size]? = some (.cells #[.int .i64 s.pos, .int .i64 s.key, .int .i64 s.val] 44 (0, 0)) := heap_alloc_new _ _
        obtain ⟨W6, hW6⟩ : ∃ W6, wq.alloc (.cells #[.int .i64 s.pos, .int .i64 s.key, .int .i64 s.val] 44) = W6 := ⟨_, rfl⟩
        rw [hW6] at ka sB
        have hp2 := partOf_lt s.key
        have hAl2 : (A1 ++ O.take n).length ≤ 100000 := by
         rw [List.length_append, List.length_take]
         have := Z.out.2.2.2.2.2.2.2.2; have := Z.out.2.2.2.2.2.2.2.1.2.2.2; omega
        have hgt := o4_get0 (A1 ++ O.take n) [] hp2
        have hpu := o4_push0 (A1 ++ O.take n) [] s
        have hin := inPart_le (partOf s.key) (A1 ++ O.take n)
        have ca := add_any W6.drew W1.heap.size (w.heap.size + 1 + 1 + 1) 113 V _ 0 (partOf s.key) s _ ((hout.pure ka).pure (Kept.refl none' W6).drew) (by have := hkp.size; have := ka.size; have : W6.drew.heap.size = W6.heap.size := rfl; omega) (by rw [Nat.zero_add]; exact hgt) hp2 (by omega)
        unfold AddQ at ca
        rw [Nat.zero_add, hpu] at ca
        have hwno : ¬ outBk (w.heap.size + 1 + 1 + 1) V wq.heap.size := fun h => by have := hout.lt h; omega
        have Y := Lib.hid (And.intro hgn (And.intro (ka.heap hob (fun h => h)) (And.intro (htx.pure ka) (And.intro (hout.pure ka) (And.intro (hkp.trans ka.pure) (And.intro (hrd.pure ka) (And.intro (fun b hb => (⟨(hbl b hb).1, Nat.lt_of_lt_of_le (hbl b hb).2 ka.size⟩ : ¬ outBk (w.heap.size + 1 + 1 + 1) V b ∧ b < W6.heap.size)) (And.intro sB (And.intro hwno hs)))))))))
        clear hgn hob htx hout hkp hrd hbl hoc hs o3 ka sB hp2 hAl2 hgt hpu hin hwno
        go_wp2_with fail
        try rw [hW6]
        clear hW6 d0 d1 d2
        have z0 := cells_at Y.out.2.2.2.2.2.2.2.1 (j := 0) rfl
        have z1 := cells_at Y.out.2.2.2.2.2.2.2.1 (j := 1) rfl
        have z2 := cells_at Y.out.2.2.2.2.2.2.2.1 (j := 2) rfl
        refine wp_region_eager [0, 1, 2, 3, 5, 4, 6] (fun W => Kept (outBk (w.heap.size + 1 + 1 + 1) V) W6 W) (by kernel_rfl) (by kernel_rfl) rfl (Kept.refl _ _).drew ?_
        simp only [List.map_cons, List.map_nil, List.getElem?_toArray, List.getElem?_cons_zero, List.getElem?_cons_succ, Option.getD_some]
        iterate 5 (apply wpL_float rfl rfl; (intro W hW; have q0 := hW.cell (p := ⟨wq.heap.size, 0, none⟩) Y.out.2.2.2.2.2.2.2.2.1 z0; have q1 := hW.cell (p := ⟨wq.heap.size, 1, none⟩) Y.out.2.2.2.2.2.2.2.2.1 z1; have q2 := hW.cell (p := ⟨wq.heap.size, 2, none⟩) Y.out.2.2.2.2.2.2.2.2.1 z2; go_simp; rfl); go_frame)
        clear z0 z1 z2
        apply wpL_loud rfl rfl
        intro K hK
        go_wp2_with fail
        (with_reducible refine (part_any s.key _).mono ?_)
        rintro e w7 ⟨rfl, rfl⟩
        go_wp2_with fail
        refine hK _ _ (fun _ => (Kept.refl _ _).drew) ?_
        clear hK
        apply wpL_loud rfl rfl
        intro K hK
        go_wp2_with fail
        (with_reducible refine ca.mono ?_)
        clear ca
        rintro e w8 ⟨rfl, V8, ho8, k8, hn8⟩
        have k8' := k8.drew_left
        go_wp2_with fail
        refine hK _ _ (fun _ => k8') ?_
        clear hK
        have hds : W6.drew.heap.size = W6.heap.size := rfl
        have F := Lib.hid (show w8.heap[bi]? = some (.cells #[.int .i64 sa.1.par, (.slice va1 sa.1.nodes.length va2), .map (some mi)] 101 (0, 0)) ∧ TabsX w8 (fun q => ¬ outBk (w.heap.size + 1 + 1 + 1) V8 q) mi T2 pm ∧ OutsAt w8 W1.heap.size (w.heap.size + 1 + 1 + 1) 113 V8 (O4 (A1 ++ O.take (n + 1)) []) ∧ Kept (one (w.heap.size + 1 + 1 + 1)) W1 w8 ∧
         Reads w8 3 (.slice (some ⟨ob, ooff, none⟩) O.length ocap) (recs O) ∧ ∀ b, Value.blk (.slice (some ⟨ob, ooff, none⟩) O.length ocap) = some b → ¬ outBk (w.heap.size + 1 + 1 + 1) V8 b ∧ b < w8.heap.size from by
          refine ⟨k8'.heap Y.out.2.1 (fun hs => ?_), ((Y.out.2.2.1.mono (M' := fun q => ¬ outBk (w.heap.size + 1 + 1 + 1) V q ∧ ¬ outBk (w.heap.size + 1 + 1 + 1) V8 q) (fun q hq hlt => ⟨hq, fun hs => (hn8 q hs).elim hq (fun h => by omega)⟩)).keptC (fun q hq hn => hn.1 hq) (fun hs => ?_) k8').mono (fun q hq _ => hq.2), ?_, Y.out.2.2.2.2.1.new k8' (fun q hq hs => ?_), Y.out.2.2.2.2.2.1.kept k8' (fun b hb => (Y.out.2.2.2.2.2.2.1 b hb).1), fun b hb => ⟨fun hs => ?_, Nat.lt_of_lt_of_le (Y.out.2.2.2.2.2.2.1 b hb).2 k8'.size⟩⟩
          ·obtain ⟨c', T', f', h1, h2⟩ := Y.out.2.2.2.1.ty hs
           rw [Y.out.2.1] at h1
           injection h1 with h1
           injection h1 with _ h1 _
           rcases h2 with h2 | h2 <;> rw [h2] at h1 <;> exact absurd h1 (by decide)
          ·obtain ⟨c', T', f', h1, _⟩ := Y.out.2.2.2.1.ty hs
           exact Y.out.2.2.1.at_.map_no _ _ _ h1
          ·rw [List.take_add_one, Y.out.2.2.2.2.2.2.2.2.2, Option.toList_some, ← List.append_assoc]; exact ho8
          ·rcases Y.out.2.2.2.1.at_ hs with h | h
           ·exact h
           ·exact absurd hq (by omega)
          ·rcases hn8 b hs with h | h
           ·exact (Y.out.2.2.2.2.2.2.1 b hb).1 h
           ·have := (Y.out.2.2.2.2.2.2.1 b hb).2; omega)
        clear ho8 k8 hn8 hds
        refine wpL_nil (fun _ => k8') ?_
        clear k8'
        go_wp2_with fail
        go_roundg (O.length - (n + 1))
        case rel => exact ⟨n + 1, V8, by omega, by go_num, Nat.le_refl _, F.out.1, F.out.2.1, F.out.2.2.1, F.out.2.2.2.1, F.out.2.2.2.2.1, F.out.2.2.2.2.2⟩
        case measure => have := Y.out.1; omega
       ·have hn2 : O.take n = O := List.take_of_length_le (by omega)
        rw [hn2] at hout
        have F := Lib.hid (And.intro hob (And.intro htx (And.intro hout hkp)))
        clear hob htx hout hkp hrd hbl hgn
        go_wp2_with fail
        go_roundg (L.length - (k + 1))
        case rel => exact ⟨k + 1, V, by omega, by go_num, Nat.le_refl _, F.out.1, by rw [Z.out.2.2.2.2.2.2.1]; exact F.out.2.1, by rw [Z.out.2.2.2.2.2.2.1]; exact F.out.2.2.1, F.out.2.2.2⟩
        case measure => have := GK.out.1; omega
     ·have hk2 : L.take k = L := List.take_of_length_le (by omega)
      rw [hk2] at hTs hA1
      subst hA1
      have F := Lib.hid (And.intro hout hkp)
      clear hgk hob htx hout hkp ko hTs
      go_wp2_with fail
      go_roundg (2 - (0 + 1))
      case rel => exact ⟨1, (goL sa.1.nodes Ts0 (L.map pairR)).1, [], V, by omega, by go_num, Nat.le_refl _, ⟨fun h => absurd h (by omega), fun _ => ⟨Ts0, HL.out, rfl⟩, fun _ => rfl, fun h => absurd h (by omega)⟩, F.out.1, F.out.2⟩
      case measure => have := G.out.1; omega
  ·have kA : Kept none' wr (wr.alloc (.cells #[.int .i64 sb.1.par, (.slice vb1 sb.1.nodes.length vb2), (.slice ub1 sb.2.length ub2)] 48)) := (Kept.refl _ _).alloc _
   have aB : (wr.alloc (.cells #[.int .i64 sb.1.par, (.slice vb1 sb.1.nodes.length vb2), (.slice ub1 sb.2.length ub2)] 48)).heap[wr.heap.size]? = some (.cells #[.int .i64 sb.1.par, (.slice vb1 sb.1.nodes.length vb2), (.slice ub1 sb.2.length ub2)] 48 (0, 0)) := heap_alloc_new _ _
   obtain ⟨W2, hW2⟩ : ∃ W2, wr.alloc (.cells #[.int .i64 sb.1.par, (.slice vb1 sb.1.nodes.length vb2), (.slice ub1 sb.2.length ub2)] 48) = W2 := ⟨_, rfl⟩
   rw [hW2] at kA aB
   have m0 := cells_at aB (j := 0) rfl
   have m1 := cells_at aB (j := 1) rfl
   have m2 := cells_at aB (j := 2) rfl
   have kw2 : Kept none' w W2 := (KW.out.new hkp (fun q hq hs => by unfold one at hs; omega)).trans kA
   have cl := loadV_any sb.1 (.slice vb1 sb.1.nodes.length vb2) (.slice ub1 sb.2.length ub2) sb.2 W2 (H.out.2.1.1.pure kw2) (H.out.2.1.2.1.pure kw2) H.out.2.1.2.2
   have G := Lib.hid (And.intro hg (And.intro (hout.pure kA) (hkp.trans kA.pure)))
   have ST := Lib.hid hst
   have hidx := fun W => pick_side1 (.int .i64 sa.1.par) (.slice va1 sa.1.nodes.length va2) (.slice ua1 sa.2.length ua2) (.int .i64 sb.1.par) (.slice vb1 sb.1.nodes.length vb2) (.slice ub1 sb.2.length ub2) W
   have KW2 := Lib.hid kw2
   clear hg hout hkp hst kA aB kw2
   go_wp2_with fail
   try rw [hW2]
   clear hW2 hidx m0 m1 m2
   (with_reducible refine cl.mono ?_)
   clear cl
   intro e w3 hq
   unfold LoadV at hq
   cases hl : loadP sb.1 sb.2 with
   | error er =>
    rw [hl] at hq
    obtain ⟨rfl, hne, k3⟩ := hq
    have t2 := (G.out.2.2.trans k3.pure).heap T2.out.2 (fun e => by unfold one at e; omega)
    have F := Lib.hid (And.intro t2 (And.intro (KW2.out.trans k3) (show idealsP sa sb (L.map pairR) = ((false, 0, 0), er) from ideals_errB (ST.out.2.1 (by simp)) hl)))
    have f0 := cells_at t2 (j := 0) rfl
    have f1 := cells_at t2 (j := 1) rfl
    have f2 := cells_at t2 (j := 2) rfl
    have g0 := free_at t2 0
    have g1 := free_at t2 1
    have g2 := free_at t2 2
    clear k3 t2 hl
    go_wp2_with fail
    obtain ⟨q0, q1, q2, kE⟩ := verd_store (w := w) F.out.1 F.out.2.1 (by omega) false 0 0
    refine bodyPost_ret (v := .tuple #[.agg #[.bool false, .int .i64 0, .int .i64 0], .int .i64 er]) (by simp [results, Tryz.results26, go_sem, q0, q1, q2]) rfl ⟨by rw [F.out.2.2]; rfl, kE⟩
   | ok Ts0 =>
    rw [hl] at hq
    obtain ⟨bi, mi, pm, rfl, hob, hbi, hnn, hpar, hmi, htx, hnt, k3⟩ := hq
    obtain ⟨hok, hT0⟩ := load_ok hl
    have hjr : JR sb.1.nodes := hnn.jr
    have hle : W1.heap.size ≤ W2.heap.size := G.out.2.2.size
    have HL := Lib.hid hl
    have HI := Lib.hid (And.intro hok (And.intro hjr (And.intro hT0 (And.intro hpar (And.intro hbi (And.intro hmi hnt))))))
    have HS := Lib.hid (show OutsAt w3 W1.heap.size (w.heap.size + 1 + 1 + 1) 113 V (O4 A ([])) ∧ TabsX w3 (fun q => ¬ outBk (w.heap.size + 1 + 1 + 1) V q) mi Ts0 pm ∧ Kept (one (w.heap.size + 1 + 1 + 1)) W1 w3 from
     ⟨by have := G.out.2.1.pure k3; rw [ST.out.2.2.1 (by simp)] at this; exact this, htx.mono (fun q hq _ hb => by have := G.out.2.1.lt hb; unfold up at hq; omega), G.out.2.2.trans k3.pure⟩)
    have HN := Lib.hid (H.out.2.1.1.nodes)
    have HOB := Lib.hid hob
    clear hl hok hjr hT0 hpar hbi hmi hnt hob hnn htx k3 hle
    go_wp2_with fail
    go_loopg [38] L.length (fun g vi wk => ∃ (k : Nat) (V : List Value), k ≤ L.length ∧ vi = .int .i64 (k : Int) ∧ L.length - k ≤ g ∧ wk.heap[bi]? = some (.cells #[.int .i64 sb.1.par, (.slice vb1 sb.1.nodes.length vb2), .map (some mi)] 101 (0, 0)) ∧
      TabsX wk (fun q => ¬ outBk (w.heap.size + 1 + 1 + 1) V q) mi (goL sb.1.nodes Ts0 ((L.take k).map pairR)).2 pm ∧ OutsAt wk W1.heap.size (w.heap.size + 1 + 1 + 1) 113 V (O4 A ((goL sb.1.nodes Ts0 ((L.take k).map pairR)).1)) ∧ Kept (one (w.heap.size + 1 + 1 + 1)) W1 wk)
    case atStart => exact ⟨0, V, by omega, rfl, by omega, HOB.out, HS.out.2.1, HS.out.1, HS.out.2.2⟩
    case round =>
     obtain ⟨wk, rfl⟩ : ∃ wk : World, wk = wr := ⟨_, rfl⟩
     obtain ⟨k, V, hkl, rfl, hgk, hob, htx, hout, hkp⟩ := hrel
     have ko := goL_ok HI.out.1 HI.out.2.1 ((L.take k).map pairR) Ts0 HI.out.2.2.1 (pairR_64 H.out.2.2.2 k)
     obtain ⟨Ts, hTs⟩ : ∃ Ts, (goL sb.1.nodes Ts0 ((L.take k).map pairR)).2 = Ts := ⟨_, rfl⟩
     obtain ⟨A1, hA1⟩ : ∃ A1, (goL sb.1.nodes Ts0 ((L.take k).map pairR)).1 = A1 := ⟨_, rfl⟩
     rw [hTs] at htx ko
     rw [hA1] at hout ko
     by_cases hkt : k < L.length
     ·obtain ⟨r, hrk⟩ : ∃ r, L[k]? = some r := ⟨_, List.getElem?_eq_getElem hkt⟩
      obtain ⟨lb, loff, rfl, hlc⟩ := H.out.2.2.1.resolve_left (fun h => by rw [h] at hkt; simp at hkt)
      have kww : Kept none' w wk := KW.out.new hkp (fun q hq hs => by unfold one at hs; omega)
      obtain ⟨c0, c1, c2⟩ := (hlc k r hrk).pure kww
      have hro := H.out.2.2.2 r (List.mem_of_getElem? hrk)
      have hstep := goL_snoc sb.1.nodes Ts0 hrk
      rw [hTs, hA1] at hstep
      have ka : Kept none' wk (wk.alloc (.cells #[.int .i64 r.pos, .int .i64 r.key, .int .i64 r.val] 86)) := (Kept.refl _ _).alloc _
      obtain ⟨W4, hW4⟩ : ∃ W4, wk.alloc (.cells #[.int .i64 r.pos, .int .i64 r.key, .int .i64 r.val] 86) = W4 := ⟨_, rfl⟩
      have rB := heap_alloc_new wk (.cells #[.int .i64 r.pos, .int .i64 r.key, .int .i64 r.val] 86)
      rw [hW4] at ka rB
      have m0 := cells_at rB (j := 0) rfl
      have m1 := cells_at rB (j := 1) rfl
      have m2 := cells_at rB (j := 2) rfl
      have hiw : IdlAt W4 bi mi sb.1 Ts pm := ⟨⟨(.slice vb1 sb.1.nodes.length vb2), ka.heap hob (fun h => h), HN.out.pure (kww.trans ka)⟩, HI.out.2.2.2.1, htx.at_.pure ka⟩
      have cf := feedM_any (fun q => ¬ outBk (w.heap.size + 1 + 1 + 1) V q) sb.1 bi mi Ts pm r.key r.val W4 hiw (htx.pure ka) HI.out.1 HI.out.2.1 ko.1 hro.key hro.val
      have fo := feedP_ok HI.out.1 HI.out.2.1 ko.1 hro.key hro.val
      have hnw := HI.out.2.2.1.newT ko.1 HI.out.2.2.2.2.2.2
      have GK := Lib.hid (And.intro hgk (And.intro (ka.heap hob (fun h => h)) (And.intro (hout.pure ka) (And.intro (hkp.trans ka.pure) (And.intro hstep (And.intro fo (And.intro ko (And.intro hnw hiw))))))))
      clear hgk hob htx hout hkp hro hstep hrk hlc kww ka hiw fo ko hnw hTs hA1
      go_wp2_with fail
      try rw [hW4]
      clear hW4 m0 m1 m2 rB
      (with_reducible refine cf.mono ?_)
      clear cf c0 c1 c2
      rintro e w5 ⟨v5, rfl, hv5, hb5, hi5, k5, hx5⟩
      obtain ⟨T2, O, hO, hT2⟩ : ∃ T2 O, (feedP sb.1.nodes Ts r.key r.val).1 = O ∧ (feedP sb.1.nodes Ts r.key r.val).2 = T2 := ⟨_, _, rfl, rfl⟩
      have fo := GK.out.2.2.2.2.2.1
      have hstep := GK.out.2.2.2.2.1
      rw [hO, hT2] at fo hstep
      rw [hO] at hv5
      rw [hT2] at hi5 hx5
      have hv5k := hv5
      obtain ⟨oa, ocap, rfl, o1, o2, o3⟩ := hv5.recAt
      unfold maxLen at o2
      have hob5 := k5.heap GK.out.2.1 (fun hs => GK.out.2.2.2.2.2.2.2.2.tabs.maps_no hs _ _ _ GK.out.2.1)
      have hout5 := GK.out.2.2.1.keptS k5 (fun q hq hs => by obtain ⟨c, T, f, h⟩ := GK.out.2.2.1.isCells hq; exact GK.out.2.2.2.2.2.2.2.2.tabs.maps_no hs _ _ _ h)
      have hx5' : TabsX w5 (fun q => ¬ outBk (w.heap.size + 1 + 1 + 1) V q) mi T2 pm := hx5.mono (fun q hq _ hb => hq.elim (fun h => h hb) (fun h => by have := GK.out.2.2.1.lt hb; omega))
      have hk5 : Kept (one (w.heap.size + 1 + 1 + 1)) W1 w5 := GK.out.2.2.2.1.new k5 (fun q hq hs => by
       obtain ⟨i', T', hT', rfl⟩ := hs
       have := GK.out.2.2.2.2.2.2.2.1 i' T' hT'
       have := G.out.2.2.size
       omega)
      have hb5' : ∀ b, Value.blk (.slice oa O.length ocap) = some b → ¬ outBk (w.heap.size + 1 + 1 + 1) V b ∧ b < w5.heap.size := fun b hb => ⟨fun h => by have := GK.out.2.2.1.lt h; have := hb5 b hb; omega, hv5k.blk_lt (by omega) hb⟩
      have hAl : A1.length ≤ 64 * 60 := by
       have := GK.out.2.2.2.2.2.2.1.2.2
       rw [List.length_map, List.length_take] at this
       omega
      have Z := Lib.hid (And.intro hob5 (And.intro hx5' (And.intro hout5 (And.intro hk5 (And.intro hv5k (And.intro hb5' (And.intro hstep (And.intro fo hAl))))))))
      clear hob5 hx5' hx5 hout5 hk5 hv5 hv5k hb5 hb5' hi5 k5 fo hstep hO hT2 o3 hAl
      go_wp2_with fail
      go_loopg [49] O.length (fun g vi wq => ∃ (n : Nat) (V : List Value), n ≤ O.length ∧ vi = .int .i64 (n : Int) ∧ O.length - n ≤ g ∧ wq.heap[bi]? = some (.cells #[.int .i64 sb.1.par, (.slice vb1 sb.1.nodes.length vb2), .map (some mi)] 101 (0, 0)) ∧
        TabsX wq (fun q => ¬ outBk (w.heap.size + 1 + 1 + 1) V q) mi T2 pm ∧ OutsAt wq W1.heap.size (w.heap.size + 1 + 1 + 1) 113 V (O4 A (A1 ++ O.take n)) ∧ Kept (one (w.heap.size + 1 + 1 + 1)) W1 wq ∧
        Reads wq 3 (.slice oa O.length ocap) (recs O) ∧ ∀ b, Value.blk (.slice oa O.length ocap) = some b → ¬ outBk (w.heap.size + 1 + 1 + 1) V b ∧ b < wq.heap.size)
      case atStart => exact ⟨0, V, by omega, rfl, by omega, Z.out.1, Z.out.2.1, by rw [List.take_zero, List.append_nil]; exact Z.out.2.2.1, Z.out.2.2.2.1, Z.out.2.2.2.2.1, Z.out.2.2.2.2.2.1⟩
      case round =>
       obtain ⟨wq, rfl⟩ : ∃ wq : World, wq = wr := ⟨_, rfl⟩
       obtain ⟨n, V, hnl, rfl, hgn, hob, htx, hout, hkp, hrd, hbl⟩ := hrel
       by_cases hnt : n < O.length
       ·obtain ⟨s, hs⟩ : ∃ s, O[n]? = some s := ⟨_, List.getElem?_eq_getElem hnt⟩
        obtain ⟨oa', ocap', eo, -, -, o3⟩ := hrd.recAt
        injection eo with eo1 _ eo2
        subst eo1 eo2
        obtain ⟨ob, ooff, rfl, hoc⟩ := o3.resolve_left (fun h => by rw [h] at hnt; simp at hnt)
        obtain ⟨d0, d1, d2⟩ := hoc n s hs
        have ka : Kept none' wq (wq.alloc (.cells #[.int .i64 s.pos, .int .i64 s.key, .int .i64 s.val] 44)) := (Kept.refl _ _).alloc _
        have sB : (wq.alloc (.cells #[.int .i64 s.pos, .int .i64 s.key, .int .i64 s.val] 44)).heap[wq.heap.size]? = some (.cells #[.int .i64 s.pos, .int .i64 s.key, .int .i64 s.val] 44 (0, 0)) := heap_alloc_new _ _
        obtain ⟨W6, hW6⟩ : ∃ W6, wq.alloc (.cells #[.int .i64 s.pos, .int .i64 s.key, .int .i64 s.val] 44) = W6 := ⟨_, rfl⟩
        rw [hW6] at ka sB
        have hp2 := partOf_lt s.key
        have hAl2 : (A1 ++ O.take n).length ≤ 100000 := by
         rw [List.length_append, List.length_take]
         have := Z.out.2.2.2.2.2.2.2.2; have := Z.out.2.2.2.2.2.2.2.1.2.2.2; omega
        have hgt := o4_get1 A (A1 ++ O.take n) hp2
        have hpu := o4_push1 A (A1 ++ O.take n) s
        have hin := inPart_le (partOf s.key) (A1 ++ O.take n)
        have ca := add_any W6.drew W1.heap.size (w.heap.size + 1 + 1 + 1) 113 V _ 2 (partOf s.key) s _ ((hout.pure ka).pure (Kept.refl none' W6).drew) (by have := hkp.size; have := ka.size; have : W6.drew.heap.size = W6.heap.size := rfl; omega) (hgt) hp2 (by omega)
        unfold AddQ at ca
        rw [hpu] at ca
        have hwno : ¬ outBk (w.heap.size + 1 + 1 + 1) V wq.heap.size := fun h => by have := hout.lt h; omega
        have Y := Lib.hid (And.intro hgn (And.intro (ka.heap hob (fun h => h)) (And.intro (htx.pure ka) (And.intro (hout.pure ka) (And.intro (hkp.trans ka.pure) (And.intro (hrd.pure ka) (And.intro (fun b hb => (⟨(hbl b hb).1, Nat.lt_of_lt_of_le (hbl b hb).2 ka.size⟩ : ¬ outBk (w.heap.size + 1 + 1 + 1) V b ∧ b < W6.heap.size)) (And.intro sB (And.intro hwno hs)))))))))
        clear hgn hob htx hout hkp hrd hbl hoc hs o3 ka sB hp2 hAl2 hgt hpu hin hwno
        go_wp2_with fail
        try rw [hW6]
        clear hW6 d0 d1 d2
        have z0 := cells_at Y.out.2.2.2.2.2.2.2.1 (j := 0) rfl
        have z1 := cells_at Y.out.2.2.2.2.2.2.2.1 (j := 1) rfl
        have z2 := cells_at Y.out.2.2.2.2.2.2.2.1 (j := 2) rfl
        refine wp_region_eager [0, 1, 2, 3, 5, 4, 6] (fun W => Kept (outBk (w.heap.size + 1 + 1 + 1) V) W6 W) (by kernel_rfl) (by kernel_rfl) rfl (Kept.refl _ _).drew ?_
        simp only [List.map_cons, List.map_nil, List.getElem?_toArray, List.getElem?_cons_zero, List.getElem?_cons_succ, Option.getD_some]
        iterate 5 (apply wpL_float rfl rfl; (intro W hW; have q0 := hW.cell (p := ⟨wq.heap.size, 0, none⟩) Y.out.2.2.2.2.2.2.2.2.1 z0; have q1 := hW.cell (p := ⟨wq.heap.size, 1, none⟩) Y.out.2.2.2.2.2.2.2.2.1 z1; have q2 := hW.cell (p := ⟨wq.heap.size, 2, none⟩) Y.out.2.2.2.2.2.2.2.2.1 z2; go_simp; rfl); go_frame)
        clear z0 z1 z2
        apply wpL_loud rfl rfl
        intro K hK
        go_wp2_with fail
        (with_reducible refine (part_any s.key _).mono ?_)
        rintro e w7 ⟨rfl, rfl⟩
        go_wp2_with fail
        refine hK _ _ (fun _ => (Kept.refl _ _).drew) ?_
        clear hK
        apply wpL_loud rfl rfl
        intro K hK
        go_wp2_with fail
        (with_reducible refine ca.mono ?_)
        clear ca
        rintro e w8 ⟨rfl, V8, ho8, k8, hn8⟩
        have k8' := k8.drew_left
        go_wp2_with fail
        refine hK _ _ (fun _ => k8') ?_
        clear hK
        have hds : W6.drew.heap.size = W6.heap.size := rfl
        have F := Lib.hid (show w8.heap[bi]? = some (.cells #[.int .i64 sb.1.par, (.slice vb1 sb.1.nodes.length vb2), .map (some mi)] 101 (0, 0)) ∧ TabsX w8 (fun q => ¬ outBk (w.heap.size + 1 + 1 + 1) V8 q) mi T2 pm ∧ OutsAt w8 W1.heap.size (w.heap.size + 1 + 1 + 1) 113 V8 (O4 A (A1 ++ O.take (n + 1))) ∧ Kept (one (w.heap.size + 1 + 1 + 1)) W1 w8 ∧
         Reads w8 3 (.slice (some ⟨ob, ooff, none⟩) O.length ocap) (recs O) ∧ ∀ b, Value.blk (.slice (some ⟨ob, ooff, none⟩) O.length ocap) = some b → ¬ outBk (w.heap.size + 1 + 1 + 1) V8 b ∧ b < w8.heap.size from by
          refine ⟨k8'.heap Y.out.2.1 (fun hs => ?_), ((Y.out.2.2.1.mono (M' := fun q => ¬ outBk (w.heap.size + 1 + 1 + 1) V q ∧ ¬ outBk (w.heap.size + 1 + 1 + 1) V8 q) (fun q hq hlt => ⟨hq, fun hs => (hn8 q hs).elim hq (fun h => by omega)⟩)).keptC (fun q hq hn => hn.1 hq) (fun hs => ?_) k8').mono (fun q hq _ => hq.2), ?_, Y.out.2.2.2.2.1.new k8' (fun q hq hs => ?_), Y.out.2.2.2.2.2.1.kept k8' (fun b hb => (Y.out.2.2.2.2.2.2.1 b hb).1), fun b hb => ⟨fun hs => ?_, Nat.lt_of_lt_of_le (Y.out.2.2.2.2.2.2.1 b hb).2 k8'.size⟩⟩
          ·obtain ⟨c', T', f', h1, h2⟩ := Y.out.2.2.2.1.ty hs
           rw [Y.out.2.1] at h1
           injection h1 with h1
           injection h1 with _ h1 _
           rcases h2 with h2 | h2 <;> rw [h2] at h1 <;> exact absurd h1 (by decide)
          ·obtain ⟨c', T', f', h1, _⟩ := Y.out.2.2.2.1.ty hs
           exact Y.out.2.2.1.at_.map_no _ _ _ h1
          ·rw [List.take_add_one, Y.out.2.2.2.2.2.2.2.2.2, Option.toList_some, ← List.append_assoc]; exact ho8
          ·rcases Y.out.2.2.2.1.at_ hs with h | h
           ·exact h
           ·exact absurd hq (by omega)
          ·rcases hn8 b hs with h | h
           ·exact (Y.out.2.2.2.2.2.2.1 b hb).1 h
           ·have := (Y.out.2.2.2.2.2.2.1 b hb).2; omega)
        clear ho8 k8 hn8 hds
        refine wpL_nil (fun _ => k8') ?_
        clear k8'
        go_wp2_with fail
        go_roundg (O.length - (n + 1))
        case rel => exact ⟨n + 1, V8, by omega, by go_num, Nat.le_refl _, F.out.1, F.out.2.1, F.out.2.2.1, F.out.2.2.2.1, F.out.2.2.2.2.1, F.out.2.2.2.2.2⟩
        case measure => have := Y.out.1; omega
       ·have hn2 : O.take n = O := List.take_of_length_le (by omega)
        rw [hn2] at hout
        have F := Lib.hid (And.intro hob (And.intro htx (And.intro hout hkp)))
        clear hob htx hout hkp hrd hbl hgn
        go_wp2_with fail
        go_roundg (L.length - (k + 1))
        case rel => exact ⟨k + 1, V, by omega, by go_num, Nat.le_refl _, F.out.1, by rw [Z.out.2.2.2.2.2.2.1]; exact F.out.2.1, by rw [Z.out.2.2.2.2.2.2.1]; exact F.out.2.2.1, F.out.2.2.2⟩
        case measure => have := GK.out.1; omega
     ·have hk2 : L.take k = L := List.take_of_length_le (by omega)
      rw [hk2] at hTs hA1
      subst hA1
      have F := Lib.hid (And.intro hout hkp)
      clear hgk hob htx hout hkp ko hTs
      go_wp2_with fail
      go_roundg (2 - (1 + 1))
      case rel => exact ⟨2, A, (goL sb.1.nodes Ts0 (L.map pairR)).1, V, by omega, by go_num, Nat.le_refl _, ⟨fun h => absurd h (by omega), fun _ => ST.out.2.1 (by simp), fun h => absurd h (by omega), fun _ => ⟨Ts0, HL.out, rfl⟩⟩, F.out.1, F.out.2⟩
      case measure => have := G.out.1; omega
  ·have h4 : V.length = 4 := hout.len
   match V, h4, hout with
   | [V0, V1, V2, V3], _, hout =>
    have t2 := hkp.heap T2.out.2 (fun e => by unfold one at e; omega)
    have t3 : wr.heap[w.heap.size + 1 + 1 + 1]? = some (.cells #[V0, V1, V2, V3] 113 (0, 0)) := hout.blk
    have kw := KW.out.new hkp (fun q hq hs => by unfold one at hs; omega)
    have c0 := cells_at t3 (j := 0) rfl
    have c1 := cells_at t3 (j := 1) rfl
    have c2 := cells_at t3 (j := 2) rfl
    have c3 := cells_at t3 (j := 3) rfl
    have cc : Calls Tryz.prog 51 #[.agg #[V0, V1], .agg #[V2, V3]] wr (VerdQ wr (compareV (fun p => inPart p A) (fun p => inPart p B))) :=
     compare_any wr (fun p => inPart p A) (fun p => inPart p B) (fun p => if p = 0 then V0 else V1) (fun p => if p = 0 then V2 else V3)
      (fun q hq => by have h2 : q = 0 ∨ q = 1 := by omega
                      rcases h2 with rfl | rfl
                      ·exact Reads.of_owns (hout.own 0 V0 _ rfl rfl)
                      ·exact Reads.of_owns (hout.own 1 V1 _ rfl rfl))
      (fun q hq => by have h2 : q = 0 ∨ q = 1 := by omega
                      rcases h2 with rfl | rfl
                      ·exact Reads.of_owns (hout.own 2 V2 _ rfl rfl)
                      ·exact Reads.of_owns (hout.own 3 V3 _ rfl rfl))
    have hid := ideals_both (hst.2.1 (by omega)) (hst.2.2.2 (by omega))
    obtain ⟨vd, hvd⟩ : ∃ vd, compareV (fun p => inPart p A) (fun p => inPart p B) = vd := ⟨_, rfl⟩
    rw [hvd] at hid cc
    obtain ⟨vb, v1, v2⟩ := vd
    have HID := Lib.hid hid
    have T := Lib.hid (And.intro t2 kw)
    clear hg hst hout hkp t2 t3 kw hid hvd
    go_wp2_with fail
    (with_reducible refine cc.mono ?_)
    clear cc c0 c1 c2 c3
    rintro e w5 ⟨rfl, k5⟩
    have t2 := k5.heap T.out.1 (fun h => h)
    have f0 := cells_at t2 (j := 0) rfl
    have f1 := cells_at t2 (j := 1) rfl
    have f2 := cells_at t2 (j := 2) rfl
    have g0 := free_at t2 0
    have g1 := free_at t2 1
    have g2 := free_at t2 2
    have F := Lib.hid (And.intro t2 (T.out.2.trans k5))
    clear k5 t2
    unfold verdC
    go_wp2_with fail
    obtain ⟨q0, q1, q2, kE⟩ := verd_store (w := w) F.out.1 F.out.2 (by omega) vb v1 v2
    refine bodyPost_ret (v := .tuple #[.agg #[.bool vb, .int .i64 v1, .int .i64 v2], .int .i64 0]) (by simp [results, Tryz.results26, go_sem, q0, q1, q2]) rfl ⟨by rw [HID.out]; rfl, kE⟩
end Go.Proofs.YtopeleenlcnkkaaGreatDoor
