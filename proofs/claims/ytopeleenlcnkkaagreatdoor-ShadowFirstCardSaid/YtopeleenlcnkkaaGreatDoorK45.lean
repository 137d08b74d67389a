/-
  What each law of the ideals ends in: the document's job, fed twice.
-/
import Derived.Test.YtopeleenlcnkkaaGreatDoorK43
import Derived.Test.YtopeleenlcnkkaaGreatDoorK44
import Derived.Test.YtopeleenlcnkkaaGreatDoorK18
import Derived.Test.YtopeleenlcnkkaaGreatDoorK22
import Derived.Test.YtopeleenlcnkkaaGreatDoorK41
import Derived.Test.YtopeleenlcnkkaaGreatDoorK38
import Derived.Test.YtopeleenlcnkkaaGreatDoorK33
import Derived.Test.YtopeleenlcnkkaaGreatDoorK20
import Derived.Test.YtopeleenlcnkkaaGreatDoorK36
set_option linter.unusedVariables false
set_option linter.unusedSimpArgs false
namespace Go.Proofs.YtopeleenlcnkkaaGreatDoor
open Go Go.RowKit
attribute [local irreducible] wpL wpTr H2.wpH
theorem TabsOk.some_of {nodes : List JN} {Ts Us : Tabs} (h : TabsOk nodes Ts) (hu : TabsOk nodes Us) {i : Nat} {T : Tab} (hT : Ts[i]? = some (some T)) : ∃ U, Us[i]? = some (some U) := by
 have hi : i < nodes.length := by rw [← h.len]; exact (List.getElem?_eq_some_iff.1 hT).1
 obtain ⟨d, hd⟩ : ∃ d, nodes[i]? = some d := ⟨_, List.getElem?_eq_getElem hi⟩
 cases hs : stateful d.kind with
 | false => rw [h.not i d hd hs] at hT; cases hT
 | true => obtain ⟨U, hU, _⟩ := hu.has i d hd hs; exact ⟨U, hU⟩
theorem TabsOk.newT {nodes : List JN} {Ts Us : Tabs} (h : TabsOk nodes Ts) (hu : TabsOk nodes Us) {n : Nat} {pm : Nat → Nat × Nat} (hn : NewT n Ts pm) : NewT n Us pm := fun q U hU => by
 obtain ⟨T, hT⟩ := hu.some_of h hU
 exact hn q T hT
theorem Kept.maps {w0 w w' : World} {Ts : Tabs} {pm : Nat → Nat × Nat} (h : Kept none' w0 w) (hn : NewT w0.heap.size Ts pm) (hk : Kept (mapsOf Ts pm) w w') : Kept none' w0 w' :=
 h.new hk (fun i hi hs => by
  obtain ⟨q, T, hT, rfl⟩ := hs
  have := hn q T hT
  omega)
theorem NodesAt.jr {w : World} {v : Value} {L : List JN} (h : NodesAt w v L) : JR L := by
 obtain ⟨cs, h1, h2, h3⟩ := h
 intro d hd env he
 obtain ⟨i, hi⟩ := List.getElem?_of_mem hd
 obtain ⟨pi, ci, p, c, _, h6, _⟩ := h3 i d hi
 exact exInt_r64 h6 he
end Go.Proofs.YtopeleenlcnkkaaGreatDoor
/-
 Heavy: whether what comes in is more than is gone through (laws 12 and 18).
-/
namespace Go.Proofs.YtopeleenlcnkkaaGreatDoor
open Go Go.RowKit
attribute [local irreducible] wpL wpTr H2.wpH
def SaysQ (w : World) (e : Ending) (w' : World) : Prop := ∃ b : Bool, e = .returned (.bool b) ∧ Kept none' w w'
set_option maxRecDepth 100000 in
set_option maxHeartbeats 1000000 in
theorem heavy12_any (j : Jb) (a : Array Value) (w : World) (h : JbAt w a j) : Calls Tryz.prog 39 #[.agg a] w (SaysQ w) := by
 obtain ⟨v, rfl, hn, hp⟩ := h
 obtain ⟨na, cap, rfl, h1, h2, h3⟩ := hn.at
 unfold maxLen at h2
 have kA : Kept none' w (w.alloc (.cells #[.int .i64 j.par, .slice na j.nodes.length cap] 24)) := (Kept.refl _ _).alloc _
 have b1 : (w.alloc (.cells #[.int .i64 j.par, .slice na j.nodes.length cap] 24)).cell? ⟨w.heap.size, 1, none⟩ = some (.slice na j.nodes.length cap) := by simp
 have H3 := Lib.hid h3
 have KA := Lib.hid kA
 clear h3 hn hp kA
 by_cases hl : 40 < j.nodes.length
 ·go_enter Tryz.func39, Tryz.ntmps39
  go_wp2_with fail
  go_ret
  exact ⟨true, rfl, KA.out⟩
 ·go_enter Tryz.func39, Tryz.ntmps39
  go_wp2_with fail
  obtain ⟨W0, hW0⟩ : ∃ W0, w.alloc (.cells #[.int .i64 j.par, .slice na j.nodes.length cap] 24) = W0 := ⟨_, rfl⟩
  rw [hW0] at KA b1 ⊢
  have B1 := Lib.hid b1
  clear hW0 b1
  go_loopg [3, 13] j.nodes.length (fun g vn vi wr => ∃ (k : Nat) (n : Int), k ≤ j.nodes.length ∧ vi = .int .i64 (k : Int) ∧ vn = .int .i64 n ∧ j.nodes.length - k ≤ g ∧ 0 ≤ n ∧ n ≤ 3000 ∧ Kept none' w wr)
  case atStart => exact ⟨0, 0, by omega, rfl, rfl, by omega, by omega, by omega, KA.out⟩
  case round =>
   obtain ⟨k, n, hkl, rfl, rfl, hg, hn1, hn2, hkp⟩ := hrel
   by_cases hlt : k < j.nodes.length
   ·obtain ⟨d, hd⟩ : ∃ d, j.nodes[k]? = some d := ⟨_, List.getElem?_eq_getElem hlt⟩
    obtain ⟨b, off, pi, ci, p, cap', rfl, hc, hj⟩ := H3.out k d hd
    obtain ⟨c0, c1, c2, c3, c4, c5, c6⟩ := hc.kept hkp (fun h => h)
    have kA : Kept none' wr (wr.alloc (.cells (jnC d pi ci p cap') 97)) := (Kept.refl _ _).alloc _
    have hx : ExAt (wr.alloc (.cells (jnC d pi ci p cap') 97)) #[.int .u8 d.x.op, .int .i64 d.x.n, .slice p d.x.args.length cap'] d.x := by
     have hx0 : ExAt w #[.int .u8 d.x.op, .int .i64 d.x.n, .slice p d.x.args.length cap'] d.x := by
      obtain ⟨_, _, _, _, e, hx, _⟩ := hj
      simp only [Array.mk.injEq, List.cons.injEq, Value.slice.injEq, and_true, true_and] at e
      obtain ⟨-, e1, e2⟩ := e
      rw [e1, e2]
      exact hx
     exact ExAt.pure (hkp.trans kA) hx0
    have cz := size_any (SizeOf.sizeOf d.x) d.x _ _ (Nat.le_refl _) hx
    have nB : (wr.alloc (.cells (jnC d pi ci p cap') 97)).heap[wr.heap.size]? = some (.cells (jnC d pi ci p cap') 97 (0, 0)) := heap_alloc_new _ _
    have HC := Lib.hid (And.intro hg (And.intro hkp (And.intro kA (And.intro nB hj))))
    clear hg hkp kA nB hj hc hx hd
    go_wp2_with fail
    (with_reducible refine cz.mono ?_)
    clear cz
    rintro e w2 ⟨z, rfl, hz1, hz2, k2⟩
    have nB2 := k2.heap HC.out.2.2.2.1 (fun h => h)
    have z0 : w2.cell? ⟨wr.heap.size, 0, none⟩ = some (.string d.uid) := cells_at nB2 rfl
    have z2 : w2.cell? ⟨wr.heap.size, 2, none⟩ = some (.slice pi d.ins.length ci) := cells_at nB2 rfl
    have K2 := Lib.hid (HC.out.2.1.trans (HC.out.2.2.1.trans k2))
    have hu : d.uid.size ≤ 2 ^ 63 - 1 := by have := HC.out.2.2.2.2; obtain ⟨_, _, _, _, _, _, _, _, _, _, _, h⟩ := this; unfold maxLen at h; exact h
    clear k2 nB2
    by_cases q1 : 40 < d.ins.length
    ·go_wp2_with fail
     go_ret
     exact ⟨true, rfl, K2.out⟩
    ·by_cases q2 : 1000 < d.uid.size
     ·go_wp2_with fail
      go_ret
      exact ⟨true, rfl, K2.out⟩
     ·by_cases q3 : 3000 < n + z
      ·go_wp2_with fail
       go_ret
       exact ⟨true, rfl, K2.out⟩
      ·go_wp2_with fail
       go_roundg (j.nodes.length - (k + 1))
       case rel => exact ⟨k + 1, n + z, by omega, by go_num, rfl, Nat.le_refl _, by omega, by omega, K2.out⟩
       case measure => have := HC.out.1; omega
   ·have HK := Lib.hid hkp
    clear hkp
    go_wp2_with fail
    go_ret
    exact ⟨false, rfl, HK.out⟩
set_option maxRecDepth 100000 in
set_option maxHeartbeats 1000000 in
theorem heavy_any (j : Jb) (a : Array Value) (sv : Value) (l : List St) (rv : Value) (R : List Rec) (w : World) (h : JbAt w a j) (hs : Reads w 2 sv (stsC l)) (hsz : ∀ s ∈ l, s.1.size ≤ maxLen ∧ s.2.size ≤ maxLen) (hr : Reads w 3 rv (recs R)) :
  Calls Tryz.prog 15 #[.agg a, sv, rv] w (SaysQ w) := by
 have hJ := h
 obtain ⟨v, rfl, hn, hp⟩ := h
 obtain ⟨na, cap, rfl, h1, h2, h3⟩ := hn.at
 obtain ⟨sa, scap, rfl, s1, s2, s3⟩ := hs.stAt
 obtain ⟨ra, rcap, rfl, r1, r2, r3⟩ := hr.recAt
 unfold maxLen at h2 s2 r2
 have kA : Kept none' w (w.alloc (.cells #[.int .i64 j.par, .slice na j.nodes.length cap] 24)) := (Kept.refl _ _).alloc _
 have tA : (w.alloc (.cells #[.int .i64 j.par, .slice na j.nodes.length cap] 24)).heap[w.heap.size]? = some (.cells #[.int .i64 j.par, .slice na j.nodes.length cap] 24 (0, 0)) := heap_alloc_new _ _
 have H3 := Lib.hid (And.intro hJ (And.intro s3 hsz))
 have KA := Lib.hid (And.intro kA tA)
 clear h3 hn hp kA hJ s3 hsz hs hr r3 tA
 go_enter Tryz.func15, Tryz.ntmps15
 go_wp2_with fail
 obtain ⟨W0, hW0⟩ : ∃ W0, w.alloc (.cells #[.int .i64 j.par, .slice na j.nodes.length cap] 24) = W0 := ⟨_, rfl⟩
 rw [hW0] at KA ⊢
 clear hW0
 go_loopg [11] l.length (fun g vi wr => ∃ k : Nat, k ≤ l.length ∧ vi = .int .i64 (k : Int) ∧ l.length - k ≤ g ∧ Kept none' W0 wr)
 case atStart => exact ⟨0, by omega, rfl, by omega, Kept.refl _ _⟩
 case round =>
  obtain ⟨k, hkl, rfl, hg, hkp⟩ := hrel
  by_cases hlt : k < l.length
  ·obtain ⟨s, hs⟩ : ∃ s, l[k]? = some s := ⟨_, List.getElem?_eq_getElem hlt⟩
   obtain ⟨bs, offs, rfl, hcs⟩ := H3.out.2.1.resolve_left (fun h => by rw [h] at hlt; simp at hlt)
   have kw := KA.out.1.trans hkp
   have y0 := kw.cell (fun h => h) (hcs k s hs).1
   have y1 := kw.cell (fun h => h) (hcs k s hs).2
   obtain ⟨hz0, hz1⟩ := H3.out.2.2 s (List.mem_of_getElem? hs)
   unfold maxLen at hz0 hz1
   have G := Lib.hid (And.intro hg (And.intro hkp (And.intro kw (hkp.alloc (.cells #[.string s.1, .string s.2] 33)))))
   clear hg hkp kw hcs hs
   by_cases q1 : 20000 < s.2.size
   ·go_wp2_with fail
    go_ret
    exact ⟨true, rfl, KA.out.1.trans G.out.2.2.2⟩
   ·by_cases q2 : 1000 < s.1.size
    ·go_wp2_with fail
     go_ret
     exact ⟨true, rfl, KA.out.1.trans G.out.2.2.2⟩
    ·go_wp2_with fail
     go_roundg (l.length - (k + 1))
     case rel => exact ⟨k + 1, by omega, by go_num, Nat.le_refl _, G.out.2.2.2⟩
     case measure => have := G.out.1; omega
  ·have tw := hkp.heap KA.out.2 (fun h => h)
   have x0 := cells_at tw (j := 0) rfl
   have x1 := cells_at tw (j := 1) rfl
   have hB : w.heap.size < wr.heap.size := (Array.getElem?_eq_some_iff.1 tw).1
   have ch := heavy12_any j _ wr (H3.out.1.pure (KA.out.1.trans hkp))
   have G := Lib.hid (KA.out.1.trans hkp)
   clear hkp tw hg
   go_wp2_with fail
   (with_reducible refine ch.mono ?_)
   clear ch
   rintro e w2 ⟨b, rfl, k2⟩
   have F := Lib.hid (G.out.trans k2)
   clear k2
   by_cases q0 : b = true
   ·subst q0
    go_wp2_with fail
    go_ret
    exact ⟨_, rfl, F.out⟩
   ·have q0' : b = false := by simpa using q0
    subst q0'
    clear q0
    by_cases q1 : 40 < l.length
    ·go_wp2_with fail
     go_ret
     exact ⟨_, rfl, F.out⟩
    ·go_wp2_with fail
     go_ret
     exact ⟨_, rfl, F.out⟩
end Go.Proofs.YtopeleenlcnkkaaGreatDoor
/-
 ideal.States: what the nodes keep.
-/
namespace Go.Proofs.YtopeleenlcnkkaaGreatDoor
open Go Go.RowKit
attribute [local irreducible] wpL
end Go.Proofs.YtopeleenlcnkkaaGreatDoor
/-
 slices.Equal at states.
-/
namespace Go.Proofs.YtopeleenlcnkkaaGreatDoor
open Go Go.RowKit
attribute [local irreducible] wpL
end Go.Proofs.YtopeleenlcnkkaaGreatDoor
/-
 WHAT COMES OUT OF MANY RECORDS, IN PLAIN WORDS: by parts; held side by side.
-/
namespace Go.Proofs.YtopeleenlcnkkaaGreatDoor
open Go Go.RowKit
def goL (nodes : List JN) : Tabs → List (Int × Int) → List Rec × Tabs
 | Ts, [] => ([], Ts)
 | Ts, y :: l => ((feedP nodes Ts y.1 y.2).1 ++ (goL nodes (feedP nodes Ts y.1 y.2).2 l).1, (goL nodes (feedP nodes Ts y.1 y.2).2 l).2)
def partOf (key : Int) : Nat := if grp key < 4 then 0 else 1
abbrev Outp := Int × Int
def inPart (p : Nat) (L : List Rec) : List Outp := (L.filter fun r => partOf r.key == p).map fun r => (r.key, r.val)
def firstU : List Outp → List Outp → Nat → Option Nat
 | [], [], _ => none
 | [], _ :: _, n => some n
 | _ :: _, [], n => some n
 | a :: x, b :: y, n => if a = b then firstU x y (n + 1) else some n
abbrev Verd := Bool × Int × Int
def compareV (x y : Nat → List Outp) : Verd :=
 match firstU (x 0) (y 0) 0 with
 | some n => (false, 0, (n : Int))
 | none => match firstU (x 1) (y 1) 0 with
  | some n => (false, 1, (n : Int))
  | none => (true, 0, 0)
theorem firstU_symm : ∀ (x y : List Outp) (n : Nat), firstU x y n = firstU y x n
 | [], [], _ => rfl
 | [], _ :: _, _ => rfl
 | _ :: _, [], _ => rfl
 | a :: x, b :: y, n => by
  rw [firstU, firstU]
  by_cases h : a = b
  ·rw [if_pos h, if_pos h.symm]; exact firstU_symm x y (n + 1)
  ·rw [if_neg h, if_neg (fun e => h e.symm)]
theorem compareV_symm (x y : Nat → List Outp) : compareV x y = compareV y x := by unfold compareV; rw [firstU_symm (x 0), firstU_symm (x 1)]
theorem compareV_may (x y : Nat → List Outp) : (compareV x y).1 = true ∨ (0 ≤ (compareV x y).2.1 ∧ (compareV x y).2.1 < 2 ∧ 0 ≤ (compareV x y).2.2) := by
 unfold compareV
 cases firstU (x 0) (y 0) 0 with
 | some n => right; exact ⟨Int.le_refl _, show (0 : Int) < 2 by omega, show (0 : Int) ≤ (n : Int) by omega⟩
 | none =>
  cases firstU (x 1) (y 1) 0 with
  | some n => right; exact ⟨show (0 : Int) ≤ 1 by omega, show (1 : Int) < 2 by omega, show (0 : Int) ≤ (n : Int) by omega⟩
  | none => left; rfl
abbrev Side := Jb × List St
def outsP (s : Side) (Ts : Tabs) (l : List (Int × Int)) (p : Nat) : List Outp := inPart p (goL s.1.nodes Ts l).1
def idealsP (a b : Side) (l : List (Int × Int)) : Verd × Int :=
 match loadP a.1 a.2 with
 | .error e => ((false, 0, 0), e)
 | .ok Ts => match loadP b.1 b.2 with
  | .error e => ((false, 0, 0), e)
  | .ok Us => (compareV (outsP a Ts l) (outsP b Us l), 0)
def RdNZ {α : Type} (x : Rd α) : Prop := ∀ f, x = .err f → f ≠ 0
theorem RdNZ.bind {α β : Type} {x : Rd α} {g : α → List UInt8 → Rd β} (h : RdNZ x) (k : ∀ a r, RdNZ (g a r)) : RdNZ (x.bind g) := by
 intro f e
 cases x with
 | err d => exact h f (by simp only [Rd.bind] at e; injection e with e; rw [e])
 | ok a r => exact k a r f e
theorem RdNZ.ok {α : Type} (a : α) (r : List UInt8) : RdNZ (Rd.ok a r) := fun _ e => by cases e
theorem num_nz (lo hi : Int) (l : List UInt8) : RdNZ (num lo hi l) := fun _ e => num_err e
theorem nums_nz : ∀ (k : Nat) (l : List UInt8), RdNZ (nums k l)
 | 0, _ => .ok _ _
 | k + 1, l => (num_nz _ _ l).bind fun _ r => (nums_nz k r).bind fun _ _ => .ok _ _
theorem row_nz (l : List UInt8) : RdNZ (row l) := (num_nz _ _ l).bind fun _ r => (num_nz _ _ r).bind fun _ r => (num_nz _ _ r).bind fun _ r => (nums_nz _ r).bind fun _ _ => .ok _ _
theorem rowsR_nz : ∀ (k : Nat) (T : Tab) (l : List UInt8), RdNZ (rowsR k T l)
 | 0, _, _ => .ok _ _
 | k + 1, _, l => (row_nz l).bind fun p r => by
  split
  ·exact rowsR_nz k _ r
  ·intro f e; injection e with e; omega
theorem takeR_nz (l : List UInt8) : RdNZ (takeR l) := (num_nz _ _ l).bind fun _ r => (rowsR_nz _ _ r).bind fun _ _ => by
 split
 ·exact .ok _ _
 ·intro f e; injection e with e; omega
theorem loadL_err {nodes : List JN} {f : Int} : ∀ {l : List St} {Ts : Tabs}, loadL nodes l Ts = .error f → f ≠ 0
 | [], Ts, h => by cases h
 | s :: l, Ts, h => by
  unfold loadL at h
  split at h
  ·injection h with h; omega
  ·split at h
   ·rename_i g hg
    injection h with h
    subst h
    exact takeR_nz _ _ hg
   ·split at h
    ·exact loadL_err h
    ·injection h with h; omega
theorem loadP_ne {j : Jb} {l : List St} {e : Int} (h : loadP j l = .error e) : e ≠ 0 := by
 unfold loadP at h
 split at h
 ·cases e' : loadL j.nodes l (noTabs j.nodes) with
  | ok Ts => rw [e'] at h; cases h
  | error f => rw [e'] at h; injection h with h; subst h; exact loadL_err e'
 ·injection h with h; omega
theorem ideals_symm {a b : Side} {l : List (Int × Int)} (h1 : (idealsP a b l).2 = 0) : idealsP a b l = idealsP b a l := by
 unfold idealsP at h1 ⊢
 cases ea : loadP a.1 a.2 with
 | error e => rw [ea] at h1; exact absurd h1 (loadP_ne ea)
 | ok Ts =>
  cases eb : loadP b.1 b.2 with
  | error e => rfl
  | ok Us => exact congrArg (fun v : Verd => (v, (0 : Int))) (compareV_symm _ _)
theorem ideals_err {a b : Side} {l m : List (Int × Int)} : (idealsP a b l).2 = (idealsP a b m).2 := by
 unfold idealsP
 cases loadP a.1 a.2 with
 | error e => rfl
 | ok Ts => cases loadP b.1 b.2 <;> rfl
theorem ideals_ok {a b : Side} {l : List (Int × Int)} (h : (idealsP a b l).2 = 0) : ∃ x y, (idealsP a b l).1 = compareV x y := by
 unfold idealsP at h ⊢
 cases ea : loadP a.1 a.2 with
 | error e => rw [ea] at h; exact absurd h (loadP_ne ea)
 | ok Ts =>
  cases eb : loadP b.1 b.2 with
  | error e => rw [ea, eb] at h; exact absurd h (loadP_ne eb)
  | ok Us => exact ⟨_, _, rfl⟩
end Go.Proofs.YtopeleenlcnkkaaGreatDoor
/-
 IDEALS SIDE BY SIDE: what one does, another one does not feel. Their blocks lie in ranges.
-/
namespace Go.Proofs.YtopeleenlcnkkaaGreatDoor
open Go Go.RowKit
theorem TabsAt.keptS {S : Nat → Prop} {w w' : World} {m : Nat} {Ts : Tabs} {pm : Nat → Nat × Nat} (h : TabsAt w m Ts pm) (hk : Kept S w w') (hS : ∀ k, S k → ∀ c E f, w.heap[k]? ≠ some (.cells c E f)) (hm : ¬ S m)
  (hd : ∀ (i : Nat) (T : Tab), Ts[i]? = some (some T) → ¬ S (pm i).2) : TabsAt w' m Ts pm := by
 obtain ⟨⟨l, h1, h2, h3⟩, h4, h5⟩ := h
 exact ⟨⟨l, h1.kept hk hm, h2, h3⟩, fun i T hT => ⟨(h4 i T hT).1.kept hk (fun q hq _ _ => hS q hq) (hd i T hT), (h4 i T hT).2⟩, h5⟩
theorem IdlAt.keptS {S : Nat → Prop} {w w' : World} {b m : Nat} {j : Jb} {Ts : Tabs} {pm : Nat → Nat × Nat} (h : IdlAt w b m j Ts pm) (hk : Kept S w w') (hS : ∀ k, S k → ∀ c E f, w.heap[k]? ≠ some (.cells c E f)) (hm : ¬ S m)
  (hd : ∀ (i : Nat) (T : Tab), Ts[i]? = some (some T) → ¬ S (pm i).2) : IdlAt w' b m j Ts pm := by
 obtain ⟨⟨v, h1, h2⟩, h3, h4⟩ := h
 exact ⟨⟨v, hk.heap h1 (fun hs => hS b hs _ _ _ h1), h2.kept hk hS⟩, h3, h4.keptS hk hS hm hd⟩
structure InRange (n k m : Nat) (Ts : Tabs) (pm : Nat → Nat × Nat) : Prop where
 m1 : n ≤ m
 m2 : m < k
 t1 : NewT n Ts pm
 t2 : ∀ (q : Nat) (T : Tab), Ts[q]? = some (some T) → (pm q).2 < k
theorem InRange.of {w : World} {n b m : Nat} {j : Jb} {Ts : Tabs} {pm : Nat → Nat × Nat} (h : IdlAt w b m j Ts pm) (h1 : n ≤ m) (h2 : NewT n Ts pm) : InRange n w.heap.size m Ts pm :=
 ⟨h1, h.tabs.lt, h2, fun q T hT => (h.tabs.tab q T hT).1.lt.1⟩
theorem InRange.wide {n k n' k' m : Nat} {Ts : Tabs} {pm : Nat → Nat × Nat} (h : InRange n k m Ts pm) (h1 : n' ≤ n) (h2 : k ≤ k') : InRange n' k' m Ts pm :=
 ⟨Nat.le_trans h1 h.m1, Nat.lt_of_lt_of_le h.m2 h2, fun q T hT => Nat.le_trans h1 (h.t1 q T hT), fun q T hT => Nat.lt_of_lt_of_le (h.t2 q T hT) h2⟩
theorem InRange.maps {n k m : Nat} {Ts : Tabs} {pm : Nat → Nat × Nat} (h : InRange n k m Ts pm) {q : Nat} (hq : mapsOf Ts pm q) : n ≤ q ∧ q < k := by
 obtain ⟨i, T, hT, rfl⟩ := hq
 exact ⟨h.t1 i T hT, h.t2 i T hT⟩
theorem InRange.kept {w0 w w' : World} {n k m : Nat} {Ts : Tabs} {pm : Nat → Nat × Nat} (h : InRange n k m Ts pm) (hn : w0.heap.size ≤ n) (h0 : Kept none' w0 w) (hk : Kept (mapsOf Ts pm) w w') : Kept none' w0 w' :=
 h0.maps (fun q T hT => Nat.le_trans hn (h.t1 q T hT)) hk
end Go.Proofs.YtopeleenlcnkkaaGreatDoor
/-
 ROWS OF OUTPUTS in memory, beside one another: their slices stand in one block.
-/
namespace Go.Proofs.YtopeleenlcnkkaaGreatDoor
open Go Go.RowKit
theorem Tryz.info80 : ∃ i z, Tryz.prog.info? 80 = some i ∧ i.zero = some z ∧ i.size = 2 ∧ i.bytes = 16 ∧ z.cells.size = 2 := by
 have h : (Tryz.prog.info? 80).map (fun i => (i.zero, i.size, i.bytes)) = some (some (.agg #[.int .i64 0, .int .i64 0]), 2, 16) := by kernel_rfl
 obtain ⟨i, hi, h⟩ := Option.map_eq_some_iff.1 h
 simp only [Prod.mk.injEq] at h
 exact ⟨i, _, hi, h.1, h.2.1, h.2.2, by rfl⟩
def outC (l : List Outp) : List Value := l.flatMap fun o => [.int .i64 o.1, .int .i64 o.2]
theorem outC_length : ∀ l : List Outp, (outC l).length = l.length * 2
 | [] => rfl
 | o :: l => by
  have := outC_length l
  unfold outC at this ⊢
  rw [List.flatMap_cons, List.length_append, this, List.length_cons]
  simp; omega
theorem outC_snoc (l : List Outp) (o : Outp) : outC (l ++ [o]) = outC l ++ [.int .i64 o.1, .int .i64 o.2] := by
 unfold outC; rw [List.flatMap_append]; rfl
theorem outC_get : ∀ {l : List Outp} {i : Nat} {o : Outp}, l[i]? = some o → (outC l)[i * 2]? = some (.int .i64 o.1) ∧ (outC l)[i * 2 + 1]? = some (.int .i64 o.2)
 | [], i, o, h => by cases h
 | p :: l, 0, o, h => by cases h; exact ⟨rfl, rfl⟩
 | p :: l, i + 1, o, h => by
  have := outC_get (l := l) (i := i) (o := o) h
  unfold outC at this ⊢
  rw [List.flatMap_cons, show (i + 1) * 2 = i * 2 + 1 + 1 by omega]
  exact this
theorem push_out {w : World} {base n : Nat} {va : Value} {l : List Outp} (h : w.ownsRow base 80 2 va n (outC l)) (o : Outp) (hb : base ≤ w.heap.size) (hn : n ≤ 100000) :
  ∃ va' w', (Builtin.append_ #[78, 78] 78 #[va, .slice (some ⟨w.heap.size, 0, none⟩) 1 1]).run Tryz.prog (w.alloc (.cells #[.int .i64 o.1, .int .i64 o.2] 80)) = .ok va' w' ∧ w'.ownsRow base 80 2 va' (n + 1) (outC (l ++ [o])) ∧
   Kept (fun q => va.ownBlock = some q) w w' ∧ ∀ q, va'.ownBlock = some q → va.ownBlock = some q ∨ w.heap.size ≤ q := by
 obtain ⟨i, z, hi, hz, hs, hby, hzs⟩ := Tryz.info80
 obtain ⟨news, hnews0⟩ : ∃ news : List Value, [Value.int .i64 o.1, .int .i64 o.2] = news := ⟨_, rfl⟩
 have hl : news.length = 2 := by rw [← hnews0]; rfl
 have h1 : ∀ x ∈ news, x.oneCell' = true := by rw [← hnews0]; intro y hy; simp at hy; rcases hy with rfl | rfl <;> rfl
 rw [outC_snoc, show (#[Value.int .i64 o.1, .int .i64 o.2] : Array Value) = [Value.int .i64 o.1, .int .i64 o.2].toArray from rfl, hnews0]
 clear hnews0
 obtain ⟨cs, hcs⟩ : ∃ cs, outC l = cs := ⟨_, rfl⟩
 rw [hcs] at h ⊢
 clear hcs
 have kA : Kept none' w (w.alloc (.cells news.toArray 80)) := (Kept.refl _ _).alloc _
 have hr := Reads.lit w news 80 2 1 (by omega) (by unfold maxLen; omega)
 have hA := kA.owns h (fun _ _ h => h)
 have hcl : cs.length = n * 2 := h.1
 obtain ⟨v', n', w', b1, b2, b3, b4, _⟩ := run_append_reads (P := Tryz.prog) base 78 78 80 i z 2 16 Tryz.underlying78 hi hz hs hby hzs (by omega) hA hr h1
  (by rw [hl]; omega) (by rw [hl]; unfold maxLen; omega) (by have := kA.size; omega)
 have hn' : n' = n + 1 := by rw [hl] at b3; omega
 subst hn'
 refine ⟨v', w', b1, b2, kA.pure.trans (Kept.grown b4 (fun k hk _ => hk)), fun q hq => ?_⟩
 have hsz : (w.alloc (.cells news.toArray 80)).heap.size = w.heap.size + 1 := by simp
 have hnews : ∀ j v, news[j]? = some v → (w.alloc (.cells news.toArray 80)).cell? ((⟨w.heap.size, 0, none⟩ : Addr).add j) = some v := fun j v hj => by
  rw [Addr.add_lit, World.cell?_alloc_new]; simpa using hj
 rcases h.2 with ⟨rfl, rfl⟩ | ⟨g, cap, cur, rfl, hbg, hg, hnc, hcm, hcs, htake⟩
 ·have hr := run_append_nil (P := Tryz.prog) (w.alloc (.cells news.toArray 80)) 78 78 80 i z Tryz.underlying78 hi hz ⟨w.heap.size, 0, none⟩ 1 1 news (by rw [hs]; omega) hnews (by omega) (by omega) (by omega)
  rw [b1] at hr
  injection hr with e1 e2
  rw [e1] at hq
  right
  have : (w.alloc (.cells news.toArray 80)).heap.size = q := by simpa [Value.ownBlock] using hq
  omega
 ·by_cases hroom : n + 1 ≤ cap
  ·obtain ⟨w2, hr, _⟩ := run_append_fits (P := Tryz.prog) (w.alloc (.cells news.toArray 80)) base 78 78 80 i 2 Tryz.underlying78 hi hs g n cap cs hA ⟨w.heap.size, 0, none⟩ 1 1 news (by omega) hnews h1 hroom
   rw [b1] at hr
   injection hr with e1 e2
   rw [e1] at hq
   left
   exact hq
  ·have holds : ∀ j u, cs[j]? = some u → (w.alloc (.cells news.toArray 80)).cell? ((⟨g, 0, none⟩ : Addr).add j) = some u := hA.cells (g := g) rfl
   have hr := run_append_grow (P := Tryz.prog) (w.alloc (.cells news.toArray 80)) 78 78 80 i z Tryz.underlying78 hi hz ⟨g, 0, none⟩ n cap cs (by rw [hs]; exact hcl) holds ⟨w.heap.size, 0, none⟩ 1 1 news (by rw [hs]; omega) hnews (by omega) (by omega) (growslice_fits (by omega) (by rw [hby]; omega))
   rw [b1] at hr
   injection hr with e1 e2
   rw [e1] at hq
   right
   have : (w.alloc (.cells news.toArray 80)).heap.size = q := by simpa [Value.ownBlock] using hq
   omega
structure OutsAt (w : World) (base B E : Nat) (V : List Value) (O : List (List Outp)) : Prop where
 blk : w.heap[B]? = some (.cells V.toArray E (0, 0))
 len : V.length = O.length
 own : ∀ (i : Nat) (v : Value) (o : List Outp), V[i]? = some v → O[i]? = some o → w.ownsRow base 80 2 v o.length (outC o)
 dist : ∀ (i k : Nat) (v u : Value) (q : Nat), i ≠ k → V[i]? = some v → V[k]? = some u → v.ownBlock = some q → u.ownBlock ≠ some q
 ne : ∀ (i : Nat) (v : Value) (q : Nat), V[i]? = some v → v.ownBlock = some q → q ≠ B
def outBk (B : Nat) (V : List Value) : Nat → Prop := fun q => q = B ∨ ∃ (i : Nat) (v : Value), V[i]? = some v ∧ v.ownBlock = some q
theorem OutsAt.keptS {S : Nat → Prop} {w w' : World} {base B E : Nat} {V : List Value} {O : List (List Outp)} (h : OutsAt w base B E V O) (hk : Kept S w w') (hS : ∀ q, outBk B V q → ¬ S q) : OutsAt w' base B E V O :=
 ⟨hk.heap h.blk (hS B (.inl rfl)), h.len, fun i v o hv ho => hk.owns (h.own i v o hv ho) (fun k hk hs => hS k (.inr ⟨i, v, hv, hk⟩) hs), h.dist, h.ne⟩
theorem OutsAt.pure {w w' : World} {base B E : Nat} {V : List Value} {O : List (List Outp)} (h : OutsAt w base B E V O) (hk : Kept none' w w') : OutsAt w' base B E V O := h.keptS hk (fun _ _ h => h)
theorem OutsAt.lt {w : World} {base B E : Nat} {V : List Value} {O : List (List Outp)} (h : OutsAt w base B E V O) {q : Nat} (hq : outBk B V q) : q < w.heap.size := by
 rcases hq with rfl | ⟨i, v, hv, hq⟩
 ·exact (Array.getElem?_eq_some_iff.1 h.blk).1
 ·obtain ⟨o, ho⟩ : ∃ o, O[i]? = some o := ⟨_, List.getElem?_eq_getElem (by rw [← h.len]; exact (List.getElem?_eq_some_iff.1 hv).1)⟩
  exact ((h.own i v o hv ho).lt q hq).2
theorem OutsAt.isCells {w : World} {base B E : Nat} {V : List Value} {O : List (List Outp)} (h : OutsAt w base B E V O) {q : Nat} (hq : outBk B V q) : ∃ c T f, w.heap[q]? = some (.cells c T f) := by
 rcases hq with rfl | ⟨i, v, hv, hq⟩
 ·exact ⟨_, _, _, h.blk⟩
 ·obtain ⟨o, ho⟩ : ∃ o, O[i]? = some o := ⟨_, List.getElem?_eq_getElem (by rw [← h.len]; exact (List.getElem?_eq_some_iff.1 hv).1)⟩
  rcases (h.own i v o hv ho).2 with ⟨rfl, _⟩ | ⟨g, cap, cur, rfl, _, hg, _⟩
  ·cases hq
  ·cases hq; exact ⟨_, _, _, hg⟩
theorem outs_new {w : World} {base B E : Nat} (h : w.heap[B]? = some (.cells #[.slice none 0 0, .slice none 0 0, .slice none 0 0, .slice none 0 0] E (0, 0))) : OutsAt w base B E [.slice none 0 0, .slice none 0 0, .slice none 0 0, .slice none 0 0] [[], [], [], []] := by
 have hall : ∀ (i : Nat) (v : Value), ([.slice none 0 0, .slice none 0 0, .slice none 0 0, .slice none 0 0] : List Value)[i]? = some v → v = .slice none 0 0 := fun i v hv => by
  have := List.mem_of_getElem? hv
  simpa using this
 have hal2 : ∀ (i : Nat) (o : List Outp), ([[], [], [], []] : List (List Outp))[i]? = some o → o = [] := fun i o ho => by
  have := List.mem_of_getElem? ho
  simpa using this
 refine ⟨h, rfl, fun i v o hv ho => ?_, fun i k v u q _ hv _ hq => ?_, fun i v q hv hq => ?_⟩
 ·rw [hall i v hv, hal2 i o ho]; exact World.ownsRow_nil _ _ _ _
 ·rw [hall i v hv] at hq; cases hq
 ·rw [hall i v hv] at hq; cases hq
theorem OutsAt.ty {w : World} {base B E : Nat} {V : List Value} {O : List (List Outp)} (h : OutsAt w base B E V O) {q : Nat} (hq : outBk B V q) : ∃ c T f, w.heap[q]? = some (.cells c T f) ∧ (T = E ∨ T = 80) := by
 rcases hq with rfl | ⟨i, v, hv, hq⟩
 ·exact ⟨_, _, _, h.blk, .inl rfl⟩
 ·obtain ⟨o, ho⟩ : ∃ o, O[i]? = some o := ⟨_, List.getElem?_eq_getElem (by rw [← h.len]; exact (List.getElem?_eq_some_iff.1 hv).1)⟩
  rcases (h.own i v o hv ho).2 with ⟨rfl, _⟩ | ⟨g, cap, cur, rfl, _, hg, _⟩
  ·cases hq
  ·cases hq; exact ⟨_, _, _, hg, .inr rfl⟩
theorem OutsAt.at_ {w : World} {base B E : Nat} {V : List Value} {O : List (List Outp)} (h : OutsAt w base B E V O) {q : Nat} (hq : outBk B V q) : q = B ∨ base ≤ q := by
 rcases hq with rfl | ⟨i, v, hv, hq⟩
 ·exact .inl rfl
 ·obtain ⟨o, ho⟩ : ∃ o, O[i]? = some o := ⟨_, List.getElem?_eq_getElem (by rw [← h.len]; exact (List.getElem?_eq_some_iff.1 hv).1)⟩
  exact .inr ((h.own i v o hv ho).lt q hq).1
theorem TabsAt.map_no {w : World} {m : Nat} {Ts : Tabs} {pm : Nat → Nat × Nat} (h : TabsAt w m Ts pm) : ∀ c E f, w.heap[m]? ≠ some (.cells c E f) := by
 obtain ⟨l, h1, _⟩ := h.map
 intro c E f e
 exact NoCells.map h1 AnyB m rfl trivial h1.lt c E f e
theorem OutsAt.push {w : World} {base B E : Nat} {V : List Value} {O : List (List Outp)} (h : OutsAt w base B E V O) (hb : base ≤ w.heap.size) {i : Nat} {v : Value} {l : List Outp} (hv : V[i]? = some v) (hl : O[i]? = some l) (hn : l.length ≤ 100000) (o : Outp) :
  ∃ a cap w1, (Builtin.append_ #[78, 78] 78 #[v, .slice (some ⟨w.heap.size, 0, none⟩) 1 1]).run Tryz.prog (w.alloc (.cells #[.int .i64 o.1, .int .i64 o.2] 80)) = .ok (.slice a (l.length + 1) cap) w1 ∧
   Kept (fun q => v.ownBlock = some q) w w1 ∧ w1.heap[B]? = some (.cells V.toArray E (0, 0)) ∧
   OutsAt (w1.setCell ⟨B, i, none⟩ (.slice a (l.length + 1) cap)) base B E (V.set i (.slice a (l.length + 1) cap)) (O.set i (l ++ [o])) ∧
   Kept (outBk B V) w (w1.setCell ⟨B, i, none⟩ (.slice a (l.length + 1) cap)) ∧ ∀ q, outBk B (V.set i (.slice a (l.length + 1) cap)) q → outBk B V q ∨ w.heap.size ≤ q := by
 have hown := h.own i v l hv hl
 obtain ⟨va', w1, g1, g2, g3, g4⟩ := push_out hown o hb hn
 obtain ⟨a, cap, rfl⟩ := owns_slice g2
 have hB1 : ¬ v.ownBlock = some B := fun e => h.ne i v B hv e rfl
 have hB2 : w1.heap[B]? = some (.cells V.toArray E (0, 0)) := g3.heap h.blk hB1
 have hset := set_at hB2 i (.slice a (l.length + 1) cap)
 have hBlt := h.lt (q := B) (.inl rfl)
 have ks : Kept (one B) w1 (w1.setCell ⟨B, i, none⟩ (.slice a (l.length + 1) cap)) := Kept.setCell (p := ⟨B, i, none⟩) (Kept.refl (one B) _) (.inl rfl) _
 have hnewB : ∀ q, (Value.slice a (l.length + 1) cap).ownBlock = some q → q ≠ B := fun q hq => by
  rcases g4 q hq with e | e
  ·exact h.ne i v q hv e
  ·omega
 have hil : i < V.length := (List.getElem?_eq_some_iff.1 hv).1
 have hio : i < O.length := (List.getElem?_eq_some_iff.1 hl).1
 refine ⟨a, cap, w1, g1, g3, hB2, ⟨by simpa using hset, by simp [h.len], fun k u p hu hp => ?_, fun k m u x q hkm hu hx hq => ?_, fun k u q hu hq => ?_⟩, ?_, fun q hq => ?_⟩
 ·by_cases hk : i = k
  ·subst hk
   rw [List.getElem?_set_self hil] at hu
   rw [List.getElem?_set_self hio] at hp
   cases hu; cases hp
   rw [List.length_append, List.length_singleton]
   exact ks.owns g2 (fun k hk hs => hnewB k hk hs)
  ·rw [List.getElem?_set_ne hk] at hu hp
   have ho := h.own k u p hu hp
   exact ks.owns (g3.owns ho (fun q hq hs => h.dist i k v u q hk hv hu hs hq)) (fun q hq hs => h.ne k u q hu hq hs)
 ·by_cases hk : i = k
  ·subst hk
   rw [List.getElem?_set_self hil] at hu
   cases hu
   rw [List.getElem?_set_ne hkm] at hx
   intro e
   rcases g4 q hq with e1 | e1
   ·exact h.dist i m v x q hkm hv hx e1 e
   ·have := h.lt (q := q) (.inr ⟨m, x, hx, e⟩); omega
  ·rw [List.getElem?_set_ne hk] at hu
   by_cases hm : i = m
   ·subst hm
    rw [List.getElem?_set_self hil] at hx
    cases hx
    intro e
    rcases g4 q e with e1 | e1
    ·exact h.dist k i u v q hkm hu hv hq e1
    ·have := h.lt (q := q) (.inr ⟨k, u, hu, hq⟩); omega
   ·rw [List.getElem?_set_ne hm] at hx
    exact h.dist k m u x q hkm hu hx hq
 ·by_cases hk : i = k
  ·subst hk
   rw [List.getElem?_set_self hil] at hu
   cases hu
   exact hnewB q hq
  ·rw [List.getElem?_set_ne hk] at hu
   exact h.ne k u q hu hq
 ·exact (g3.mono (S' := outBk B V) (fun k _ hs => .inr ⟨i, v, hv, hs⟩)).new ks (fun k _ hs => .inl hs)
 ·rcases hq with rfl | ⟨k, u, hu, hq⟩
  ·exact .inl (.inl rfl)
  ·by_cases hk : i = k
   ·subst hk
    rw [List.getElem?_set_self hil] at hu
    cases hu
    rcases g4 q hq with e | e
    ·exact .inl (.inr ⟨i, v, hv, e⟩)
    ·exact .inr e
   ·rw [List.getElem?_set_ne hk] at hu
    exact .inl (.inr ⟨k, u, hu, hq⟩)
end Go.Proofs.YtopeleenlcnkkaaGreatDoor
/-
 shadow: Part, add.
-/
namespace Go.Proofs.YtopeleenlcnkkaaGreatDoor
open Go Go.RowKit
attribute [local irreducible] wpL wpTr H2.wpH
set_option maxRecDepth 100000 in
set_option maxHeartbeats 1000000 in
theorem part_any (key : Int) (w : World) : Calls Tryz.prog 38 #[.int .i64 key] w fun e w' => e = .returned (.int .i64 ((partOf key : Nat) : Int)) ∧ w = w' := by
 have hg := And.intro (grp_lo key) (grp_hi key)
 unfold partOf
 obtain ⟨g, hgg⟩ : ∃ g, grp key = g := ⟨_, rfl⟩
 have co := of_any key w
 rw [hgg] at hg co ⊢
 clear hgg
 go_enter Tryz.func38, Tryz.ntmps38
 go_wp2_with fail
 (with_reducible refine co.mono ?_)
 clear co
 rintro e w' ⟨rfl, rfl⟩
 have h8 : g = 0 ∨ g = 1 ∨ g = 2 ∨ g = 3 ∨ g = 4 ∨ g = 5 ∨ g = 6 ∨ g = 7 := by omega
 clear hg
 rcases h8 with rfl | rfl | rfl | rfl | rfl | rfl | rfl | rfl <;>
 ·go_wp2_with fail
  go_ret
  exact ⟨ret_int (by decide), rfl⟩
def AddQ (w : World) (base B E : Nat) (V : List Value) (O : List (List Outp)) (i : Nat) (l : List Outp) (o : Outp) (e : Ending) (w' : World) : Prop :=
 e = .returned (.tuple #[]) ∧ ∃ V', OutsAt w' base B E V' (O.set i (l ++ [o])) ∧ Kept (outBk B V) w w' ∧ ∀ q, outBk B V' q → outBk B V q ∨ w.heap.size ≤ q
set_option maxRecDepth 100000 in
set_option maxHeartbeats 1000000 in
theorem add_any (w : World) (base B E : Nat) (V : List Value) (O : List (List Outp)) (off p : Nat) (r : Rec) (l : List Outp) (h : OutsAt w base B E V O) (hb : base ≤ w.heap.size) (hl : O[off + p]? = some l) (hp : p < 2) (hn : l.length ≤ 100000) :
  Calls Tryz.prog 50 #[.pointer (some ⟨B, off, none⟩), .int .i64 (p : Int), .agg #[.int .i64 r.pos, .int .i64 r.key, .int .i64 r.val]] w (AddQ w base B E V O (off + p) l (r.key, r.val)) := by
 obtain ⟨v, hv⟩ : ∃ v, V[off + p]? = some v := ⟨_, List.getElem?_eq_getElem (by rw [h.len]; exact (List.getElem?_eq_some_iff.1 hl).1)⟩
 have kA : Kept none' w (w.alloc (.cells #[.int .i64 r.pos, .int .i64 r.key, .int .i64 r.val] 44)) := (Kept.refl _ _).alloc _
 have rB : (w.alloc (.cells #[.int .i64 r.pos, .int .i64 r.key, .int .i64 r.val] 44)).heap[w.heap.size]? = some (.cells #[.int .i64 r.pos, .int .i64 r.key, .int .i64 r.val] 44 (0, 0)) := heap_alloc_new _ _
 have hB0 := h.lt (q := B) (.inl rfl)
 go_enter Tryz.func50, Tryz.ntmps50
 go_wp2_with fail
 obtain ⟨W1, hW1⟩ : ∃ W1, w.alloc (.cells #[.int .i64 r.pos, .int .i64 r.key, .int .i64 r.val] 44) = W1 := ⟨_, rfl⟩
 rw [hW1] at kA rB ⊢
 have hsz : W1.heap.size = w.heap.size + 1 := by rw [← hW1]; simp
 clear hW1
 have h1 := h.pure kA
 have hd1 := h1.pure (Kept.refl none' W1).drew
 have hbd : base ≤ W1.drew.heap.size := Nat.le_trans hb (by have : W1.drew.heap.size = W1.heap.size := rfl; omega)
 obtain ⟨a, cap, w2, g1, g2, g3, g4, g5, g6⟩ := hd1.push hbd hv hl hn (r.key, r.val)
 obtain ⟨va, vc, hve⟩ := owns_slice (h1.own _ _ _ hv hl)
 subst hve
 have hdal : ∀ o, W1.drew.alloc o = (W1.alloc o).drew := fun o => rfl
 have hdsz : W1.drew.heap.size = W1.heap.size := rfl
 rw [hdal, hdsz] at g1
 dsimp only at g1
 have y : W1.cell? ⟨B, off + p, none⟩ = some (.slice va l.length vc) := cells_at h1.blk (by simpa using hv)
 have hno : ¬ (Value.slice va l.length vc).ownBlock = some B := fun e => h.ne _ _ _ hv e rfl
 have hno2 : ¬ (Value.slice va l.length vc).ownBlock = some w.heap.size := fun e => by have := h.lt (q := w.heap.size) (.inr ⟨_, _, hv, e⟩); omega
 have ws := cells_at (g3) (j := off + p) (v := .slice va l.length vc) (by simpa using hv)
 have wf := free_at g3 (off + p)
 have F : AddQ w base B E V O (off + p) l (r.key, r.val) (.returned (.tuple #[])) (w2.setCell ⟨B, off + p, none⟩ (.slice a (l.length + 1) cap)) :=
  ⟨rfl, _, g4, kA.pure.trans (g5.drew_left), fun q hq => (g6 q hq).imp id (fun h => by omega)⟩
 have kg : Kept (fun q => (Value.slice va l.length vc).ownBlock = some q) W1 w2 := g2.drew_left
 have Z := Lib.hid (And.intro F (And.intro rB (And.intro y (And.intro hno (And.intro hno2 kg)))))
 have G1 := Lib.hid g1
 clear F rB y hno hno2 kg g1 g2 g3 g4 g5 g6 h1 hd1 h hv hl kA hdal hbd
 have hpI : (p : Int) < 2 := by omega
 refine H2.wp_region_hot [0, 1, 2, 3, 4, 5, 6, 7, 8, 9, 10, 11, 14, 12, 13, 15, 16] (fun W => Kept (fun q => (Value.slice va l.length vc).ownBlock = some q) W1 W) (by kernel_rfl) (by kernel_rfl) rfl (Kept.refl _ _).drew ?_
 simp only [List.map_cons, List.map_nil, List.getElem?_toArray, List.getElem?_cons_zero, List.getElem?_cons_succ, Option.getD_some]
 iterate 13 (first | (apply H2.wpH_pure rfl rfl; (intro W; go_simp; rfl); go_frame) | (apply H2.wpH_read rfl rfl rfl; (intro W hW; have oW := hW.cell (p := ⟨B, off + p, none⟩) Z.out.2.2.2.1 Z.out.2.2.1; have xW := hW.heap Z.out.2.1 Z.out.2.2.2.2.1; have m0 := cells_at xW (j := 0) rfl; have m1 := cells_at xW (j := 1) rfl; have m2 := cells_at xW (j := 2) rfl; clear xW; go_simp; rfl); go_frame))
 apply H2.wpH_loud rfl rfl rfl
 intro K hK
 go_wp2_with fail
 refine hK _ _ (fun _ => (Kept.refl _ _).drew.alloc _) ?_
 clear hK
 apply H2.wpH_loud rfl rfl rfl
 intro K hK
 have ZG := G1.out
 have he1 : ∀ (b : Act), b.tmps[12]? = some (Value.slice va l.length vc) → b.eval (.tmp 12) = Value.slice va l.length vc := fun b hb => by simp [Act.eval, Array.getD_eq_getD_getElem?, hb]
 have he2 : ∀ (b : Act), b.tmps[18]? = some (Value.slice (some ⟨W1.heap.size, 0, none⟩) 1 1) → b.eval (.tmp 18) = Value.slice (some ⟨W1.heap.size, 0, none⟩) 1 1 := fun b hb => by simp [Act.eval, Array.getD_eq_getD_getElem?, hb]
 refine wp_app1 (.tmp 12) (.tmp 18) 78 rfl (.slice va l.length vc) (.slice (some ⟨W1.heap.size, 0, none⟩) 1 1) (.slice a (l.length + 1) cap) (he1 _ (by simp)) (he2 _ (by simp)) ZG ?_
 refine hK _ _ (fun _ => Z.out.2.2.2.2.2) ?_
 clear hK
 go_frame
 apply H2.wpH_pure rfl rfl
 ·intro W; go_simp; rfl
 go_frame
 apply H2.wpH_hot rfl rfl rfl
 intro K2 hK2
 go_wp2_with fail
 apply H2.wpH_end
 go_wp2_with fail
 go_end0
 exact Z.out.1
end Go.Proofs.YtopeleenlcnkkaaGreatDoor
