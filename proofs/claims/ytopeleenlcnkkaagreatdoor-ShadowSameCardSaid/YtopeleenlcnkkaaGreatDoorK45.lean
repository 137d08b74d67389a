/-
  What each law of the ideals ends in: the document's job, fed twice.
-/
import Derived.Test.YtopeleenlcnkkaaGreatDoorK43
import Derived.Test.YtopeleenlcnkkaaGreatDoorK44
import Derived.Test.YtopeleenlcnkkaaGreatDoorK18
import Derived.Test.YtopeleenlcnkkaaGreatDoorK22
import Derived.Test.YtopeleenlcnkkaaGreatDoorK41
import Derived.Test.YtopeleenlcnkkaaGreatDoorK38
import Derived.Test.YtopeleenlcnkkaaGreatDoorK33
import Derived.Test.YtopeleenlcnkkaaGreatDoorK20
import Derived.Test.YtopeleenlcnkkaaGreatDoorK36
set_option linter.unusedVariables false
set_option linter.unusedSimpArgs false
namespace Go.Proofs.YtopeleenlcnkkaaGreatDoor
open Go Go.RowKit
attribute [local irreducible] wpL wpTr H2.wpH
theorem TabsOk.some_of {nodes : List JN} {Ts Us : Tabs} (h : TabsOk nodes Ts) (hu : TabsOk nodes Us) {i : Nat} {T : Tab} (hT : Ts[i]? = some (some T)) : ∃ U, Us[i]? = some (some U) := by
 have hi : i < nodes.length := by rw [← h.len]; exact (List.getElem?_eq_some_iff.1 hT).1
 obtain ⟨d, hd⟩ : ∃ d, nodes[i]? = some d := ⟨_, List.getElem?_eq_getElem hi⟩
 cases hs : stateful d.kind with
 | false => rw [h.not i d hd hs] at hT; cases hT
 | true => obtain ⟨U, hU, _⟩ := hu.has i d hd hs; exact ⟨U, hU⟩
theorem TabsOk.newT {nodes : List JN} {Ts Us : Tabs} (h : TabsOk nodes Ts) (hu : TabsOk nodes Us) {n : Nat} {pm : Nat → Nat × Nat} (hn : NewT n Ts pm) : NewT n Us pm := fun q U hU => by
 obtain ⟨T, hT⟩ := hu.some_of h hU
 exact hn q T hT
theorem Kept.maps {w0 w w' : World} {Ts : Tabs} {pm : Nat → Nat × Nat} (h : Kept none' w0 w) (hn : NewT w0.heap.size Ts pm) (hk : Kept (mapsOf Ts pm) w w') : Kept none' w0 w' :=
 h.new hk (fun i hi hs => by
  obtain ⟨q, T, hT, rfl⟩ := hs
  have := hn q T hT
  omega)
theorem NodesAt.jr {w : World} {v : Value} {L : List JN} (h : NodesAt w v L) : JR L := by
 obtain ⟨cs, h1, h2, h3⟩ := h
 intro d hd env he
 obtain ⟨i, hi⟩ := List.getElem?_of_mem hd
 obtain ⟨pi, ci, p, c, _, h6, _⟩ := h3 i d hi
 exact exInt_r64 h6 he
end Go.Proofs.YtopeleenlcnkkaaGreatDoor
/-
 Heavy: whether what comes in is more than is gone through (laws 12 and 18).
-/
namespace Go.Proofs.YtopeleenlcnkkaaGreatDoor
open Go Go.RowKit
attribute [local irreducible] wpL wpTr H2.wpH
def SaysQ (w : World) (e : Ending) (w' : World) : Prop := ∃ b : Bool, e = .returned (.bool b) ∧ Kept none' w w'
set_option maxRecDepth 100000 in
set_option maxHeartbeats 1000000 in
theorem heavy12_any (j : Jb) (a : Array Value) (w : World) (h : JbAt w a j) : Calls Tryz.prog 39 #[.agg a] w (SaysQ w) := by
 obtain ⟨v, rfl, hn, hp⟩ := h
 obtain ⟨na, cap, rfl, h1, h2, h3⟩ := hn.at
 unfold maxLen at h2
 have kA : Kept none' w (w.alloc (.cells #[.int .i64 j.par, .slice na j.nodes.length cap] 24)) := (Kept.refl _ _).alloc _
 have b1 : (w.alloc (.cells #[.int .i64 j.par, .slice na j.nodes.length cap] 24)).cell? ⟨w.heap.size, 1, none⟩ = some (.slice na j.nodes.length cap) := by simp
 have H3 := Lib.hid h3
 have KA := Lib.hid kA
 clear h3 hn hp kA
 by_cases hl : 40 < j.nodes.length
 ·go_enter Tryz.func39, Tryz.ntmps39
  go_wp2_with fail
  go_ret
  exact ⟨true, rfl, KA.out⟩
 ·go_enter Tryz.func39, Tryz.ntmps39
  go_wp2_with fail
  obtain ⟨W0, hW0⟩ : ∃ W0, w.alloc (.cells #[.int .i64 j.par, .slice na j.nodes.length cap] 24) = W0 := ⟨_, rfl⟩
  rw [hW0] at KA b1 ⊢
  have B1 := Lib.hid b1
  clear hW0 b1
  go_loopg [3, 13] j.nodes.length (fun g vn vi wr => ∃ (k : Nat) (n : Int), k ≤ j.nodes.length ∧ vi = .int .i64 (k : Int) ∧ vn = .int .i64 n ∧ j.nodes.length - k ≤ g ∧ 0 ≤ n ∧ n ≤ 3000 ∧ Kept none' w wr)
  case atStart => exact ⟨0, 0, by omega, rfl, rfl, by omega, by omega, by omega, KA.out⟩
  case round =>
   obtain ⟨k, n, hkl, rfl, rfl, hg, hn1, hn2, hkp⟩ := hrel
   by_cases hlt : k < j.nodes.length
   ·obtain ⟨d, hd⟩ : ∃ d, j.nodes[k]? = some d := ⟨_, List.getElem?_eq_getElem hlt⟩
    obtain ⟨b, off, pi, ci, p, cap', rfl, hc, hj⟩ := H3.out k d hd
    obtain ⟨c0, c1, c2, c3, c4, c5, c6⟩ := hc.kept hkp (fun h => h)
    have kA : Kept none' wr (wr.alloc (.cells (jnC d pi ci p cap') 97)) := (Kept.refl _ _).alloc _
    have hx : ExAt (wr.alloc (.cells (jnC d pi ci p cap') 97)) #[.int .u8 d.x.op, .int .i64 d.x.n, .slice p d.x.args.length cap'] d.x := by
     have hx0 : ExAt w #[.int .u8 d.x.op, .int .i64 d.x.n, .slice p d.x.args.length cap'] d.x := by
      obtain ⟨_, _, _, _, e, hx, _⟩ := hj
      simp only [Array.mk.injEq, List.cons.injEq, Value.slice.injEq, and_true, true_and] at e
      obtain ⟨-, e1, e2⟩ := e
      rw [e1, e2]
      exact hx
     exact ExAt.pure (hkp.trans kA) hx0
    have cz := size_any (SizeOf.sizeOf d.x) d.x _ _ (Nat.le_refl _) hx
    have nB : (wr.alloc (.cells (jnC d pi ci p cap') 97)).heap[wr.heap.size]? = some (.cells (jnC d pi ci p cap') 97 (0, 0)) := heap_alloc_new _ _
    have HC := Lib.hid (And.intro hg (And.intro hkp (And.intro kA (And.intro nB hj))))
    clear hg hkp kA nB hj hc hx hd
    go_wp2_with fail
    (with_reducible refine cz.mono ?_)
    clear cz
    rintro e w2 ⟨z, rfl, hz1, hz2, k2⟩
    have nB2 := k2.heap HC.out.2.2.2.1 (fun h => h)
    have z0 : w2.cell? ⟨wr.heap.size, 0, none⟩ = some (.string d.uid) := cells_at nB2 rfl
    have z2 : w2.cell? ⟨wr.heap.size, 2, none⟩ = some (.slice pi d.ins.length ci) := cells_at nB2 rfl
    have K2 := Lib.hid (HC.out.2.1.trans (HC.out.2.2.1.trans k2))
    have hu : d.uid.size ≤ 2 ^ 63 - 1 := by have := HC.out.2.2.2.2; obtain ⟨_, _, _, _, _, _, _, _, _, _, _, h⟩ := this; unfold maxLen at h; exact h
    clear k2 nB2
    by_cases q1 : 40 < d.ins.length
    ·go_wp2_with fail
     go_ret
     exact ⟨true, rfl, K2.out⟩
    ·by_cases q2 : 1000 < d.uid.size
     ·go_wp2_with fail
      go_ret
      exact ⟨true, rfl, K2.out⟩
     ·by_cases q3 : 3000 < n + z
      ·go_wp2_with fail
       go_ret
       exact ⟨true, rfl, K2.out⟩
      ·go_wp2_with fail
       go_roundg (j.nodes.length - (k + 1))
       case rel => exact ⟨k + 1, n + z, by omega, by go_num, rfl, Nat.le_refl _, by omega, by omega, K2.out⟩
       case measure => have := HC.out.1; omega
   ·have HK := Lib.hid hkp
    clear hkp
    go_wp2_with fail
    go_ret
    exact ⟨false, rfl, HK.out⟩
set_option maxRecDepth 100000 in
set_option maxHeartbeats 1000000 in
theorem heavy_any (j : Jb) (a : Array Value) (sv : Value) (l : List St) (rv : Value) (R : List Rec) (w : World) (h : JbAt w a j) (hs : Reads w 2 sv (stsC l)) (hsz : ∀ s ∈ l, s.1.size ≤ maxLen ∧ s.2.size ≤ maxLen) (hr : Reads w 3 rv (recs R)) :
  Calls Tryz.prog 15 #[.agg a, sv, rv] w (SaysQ w) := by
 have hJ := h
 obtain ⟨v, rfl, hn, hp⟩ := h
 obtain ⟨na, cap, rfl, h1, h2, h3⟩ := hn.at
 obtain ⟨sa, scap, rfl, s1, s2, s3⟩ := hs.stAt
 obtain ⟨ra, rcap, rfl, r1, r2, r3⟩ := hr.recAt
 unfold maxLen at h2 s2 r2
 have kA : Kept none' w (w.alloc (.cells #[.int .i64 j.par, .slice na j.nodes.length cap] 24)) := (Kept.refl _ _).alloc _
 have tA : (w.alloc (.cells #[.int .i64 j.par, .slice na j.nodes.length cap] 24)).heap[w.heap.size]? = some (.cells #[.int .i64 j.par, .slice na j.nodes.length cap] 24 (0, 0)) := heap_alloc_new _ _
 have H3 := Lib.hid (And.intro hJ (And.intro s3 hsz))
 have KA := Lib.hid (And.intro kA tA)
 clear h3 hn hp kA hJ s3 hsz hs hr r3 tA
 go_enter Tryz.func15, Tryz.ntmps15
 go_wp2_with fail
 obtain ⟨W0, hW0⟩ : ∃ W0, w.alloc (.cells #[.int .i64 j.par, .slice na j.nodes.length cap] 24) = W0 := ⟨_, rfl⟩
 rw [hW0] at KA ⊢
 clear hW0
 go_loopg [11] l.length (fun g vi wr => ∃ k : Nat, k ≤ l.length ∧ vi = .int .i64 (k : Int) ∧ l.length - k ≤ g ∧ Kept none' W0 wr)
 case atStart => exact ⟨0, by omega, rfl, by omega, Kept.refl _ _⟩
 case round =>
  obtain ⟨k, hkl, rfl, hg, hkp⟩ := hrel
  by_cases hlt : k < l.length
  ·obtain ⟨s, hs⟩ : ∃ s, l[k]? = some s := ⟨_, List.getElem?_eq_getElem hlt⟩
   obtain ⟨bs, offs, rfl, hcs⟩ := H3.out.2.1.resolve_left (fun h => by rw [h] at hlt; simp at hlt)
   have kw := KA.out.1.trans hkp
   have y0 := kw.cell (fun h => h) (hcs k s hs).1
   have y1 := kw.cell (fun h => h) (hcs k s hs).2
   obtain ⟨hz0, hz1⟩ := H3.out.2.2 s (List.mem_of_getElem? hs)
   unfold maxLen at hz0 hz1
   have G := Lib.hid (And.intro hg (And.intro hkp (And.intro kw (hkp.alloc (.cells #[.string s.1, .string s.2] 33)))))
   clear hg hkp kw hcs hs
   by_cases q1 : 20000 < s.2.size
   ·go_wp2_with fail
    go_ret
    exact ⟨true, rfl, KA.out.1.trans G.out.2.2.2⟩
   ·by_cases q2 : 1000 < s.1.size
    ·go_wp2_with fail
     go_ret
     exact ⟨true, rfl, KA.out.1.trans G.out.2.2.2⟩
    ·go_wp2_with fail
     go_roundg (l.length - (k + 1))
     case rel => exact ⟨k + 1, by omega, by go_num, Nat.le_refl _, G.out.2.2.2⟩
     case measure => have := G.out.1; omega
  ·have tw := hkp.heap KA.out.2 (fun h => h)
   have x0 := cells_at tw (j := 0) rfl
   have x1 := cells_at tw (j := 1) rfl
   have hB : w.heap.size < wr.heap.size := (Array.getElem?_eq_some_iff.1 tw).1
   have ch := heavy12_any j _ wr (H3.out.1.pure (KA.out.1.trans hkp))
   have G := Lib.hid (KA.out.1.trans hkp)
   clear hkp tw hg
   go_wp2_with fail
   (with_reducible refine ch.mono ?_)
   clear ch
   rintro e w2 ⟨b, rfl, k2⟩
   have F := Lib.hid (G.out.trans k2)
   clear k2
   by_cases q0 : b = true
   ·subst q0
    go_wp2_with fail
    go_ret
    exact ⟨_, rfl, F.out⟩
   ·have q0' : b = false := by simpa using q0
    subst q0'
    clear q0
    by_cases q1 : 40 < l.length
    ·go_wp2_with fail
     go_ret
     exact ⟨_, rfl, F.out⟩
    ·go_wp2_with fail
     go_ret
     exact ⟨_, rfl, F.out⟩
end Go.Proofs.YtopeleenlcnkkaaGreatDoor
/-
 ideal.States: what the nodes keep.
-/
namespace Go.Proofs.YtopeleenlcnkkaaGreatDoor
open Go Go.RowKit
attribute [local irreducible] wpL
end Go.Proofs.YtopeleenlcnkkaaGreatDoor
/-
 slices.Equal at states.
-/
namespace Go.Proofs.YtopeleenlcnkkaaGreatDoor
open Go Go.RowKit
attribute [local irreducible] wpL
end Go.Proofs.YtopeleenlcnkkaaGreatDoor
/-
 WHAT COMES OUT OF MANY RECORDS, IN PLAIN WORDS: by parts; held side by side.
-/
namespace Go.Proofs.YtopeleenlcnkkaaGreatDoor
open Go Go.RowKit
def goL (nodes : List JN) : Tabs → List (Int × Int) → List Rec × Tabs
 | Ts, [] => ([], Ts)
 | Ts, y :: l => ((feedP nodes Ts y.1 y.2).1 ++ (goL nodes (feedP nodes Ts y.1 y.2).2 l).1, (goL nodes (feedP nodes Ts y.1 y.2).2 l).2)
def partOf (key : Int) : Nat := if grp key < 4 then 0 else 1
abbrev Outp := Int × Int
def inPart (p : Nat) (L : List Rec) : List Outp := (L.filter fun r => partOf r.key == p).map fun r => (r.key, r.val)
def firstU : List Outp → List Outp → Nat → Option Nat
 | [], [], _ => none
 | [], _ :: _, n => some n
 | _ :: _, [], n => some n
 | a :: x, b :: y, n => if a = b then firstU x y (n + 1) else some n
abbrev Verd := Bool × Int × Int
def compareV (x y : Nat → List Outp) : Verd :=
 match firstU (x 0) (y 0) 0 with
 | some n => (false, 0, (n : Int))
 | none => match firstU (x 1) (y 1) 0 with
  | some n => (false, 1, (n : Int))
  | none => (true, 0, 0)
theorem firstU_self : ∀ (x : List Outp) (n : Nat), firstU x x n = none
 | [], _ => rfl
 | a :: x, n => by rw [firstU, if_pos rfl]; exact firstU_self x (n + 1)
theorem firstU_symm : ∀ (x y : List Outp) (n : Nat), firstU x y n = firstU y x n
 | [], [], _ => rfl
 | [], _ :: _, _ => rfl
 | _ :: _, [], _ => rfl
 | a :: x, b :: y, n => by
  rw [firstU, firstU]
  by_cases h : a = b
  ·rw [if_pos h, if_pos h.symm]; exact firstU_symm x y (n + 1)
  ·rw [if_neg h, if_neg (fun e => h e.symm)]
theorem compareV_self (x : Nat → List Outp) : compareV x x = (true, 0, 0) := by unfold compareV; rw [firstU_self, firstU_self]
theorem compareV_symm (x y : Nat → List Outp) : compareV x y = compareV y x := by unfold compareV; rw [firstU_symm (x 0), firstU_symm (x 1)]
abbrev Side := Jb × List St
def outsP (s : Side) (Ts : Tabs) (l : List (Int × Int)) (p : Nat) : List Outp := inPart p (goL s.1.nodes Ts l).1
def idealsP (a b : Side) (l : List (Int × Int)) : Verd × Int :=
 match loadP a.1 a.2 with
 | .error e => ((false, 0, 0), e)
 | .ok Ts => match loadP b.1 b.2 with
  | .error e => ((false, 0, 0), e)
  | .ok Us => (compareV (outsP a Ts l) (outsP b Us l), 0)
def RdNZ {α : Type} (x : Rd α) : Prop := ∀ f, x = .err f → f ≠ 0
theorem RdNZ.bind {α β : Type} {x : Rd α} {g : α → List UInt8 → Rd β} (h : RdNZ x) (k : ∀ a r, RdNZ (g a r)) : RdNZ (x.bind g) := by
 intro f e
 cases x with
 | err d => exact h f (by simp only [Rd.bind] at e; injection e with e; rw [e])
 | ok a r => exact k a r f e
theorem RdNZ.ok {α : Type} (a : α) (r : List UInt8) : RdNZ (Rd.ok a r) := fun _ e => by cases e
theorem num_nz (lo hi : Int) (l : List UInt8) : RdNZ (num lo hi l) := fun _ e => num_err e
theorem nums_nz : ∀ (k : Nat) (l : List UInt8), RdNZ (nums k l)
 | 0, _ => .ok _ _
 | k + 1, l => (num_nz _ _ l).bind fun _ r => (nums_nz k r).bind fun _ _ => .ok _ _
theorem row_nz (l : List UInt8) : RdNZ (row l) := (num_nz _ _ l).bind fun _ r => (num_nz _ _ r).bind fun _ r => (num_nz _ _ r).bind fun _ r => (nums_nz _ r).bind fun _ _ => .ok _ _
theorem rowsR_nz : ∀ (k : Nat) (T : Tab) (l : List UInt8), RdNZ (rowsR k T l)
 | 0, _, _ => .ok _ _
 | k + 1, _, l => (row_nz l).bind fun p r => by
  split
  ·exact rowsR_nz k _ r
  ·intro f e; injection e with e; omega
theorem takeR_nz (l : List UInt8) : RdNZ (takeR l) := (num_nz _ _ l).bind fun _ r => (rowsR_nz _ _ r).bind fun _ _ => by
 split
 ·exact .ok _ _
 ·intro f e; injection e with e; omega
theorem loadL_err {nodes : List JN} {f : Int} : ∀ {l : List St} {Ts : Tabs}, loadL nodes l Ts = .error f → f ≠ 0
 | [], Ts, h => by cases h
 | s :: l, Ts, h => by
  unfold loadL at h
  split at h
  ·injection h with h; omega
  ·split at h
   ·rename_i g hg
    injection h with h
    subst h
    exact takeR_nz _ _ hg
   ·split at h
    ·exact loadL_err h
    ·injection h with h; omega
theorem loadP_ne {j : Jb} {l : List St} {e : Int} (h : loadP j l = .error e) : e ≠ 0 := by
 unfold loadP at h
 split at h
 ·cases e' : loadL j.nodes l (noTabs j.nodes) with
  | ok Ts => rw [e'] at h; cases h
  | error f => rw [e'] at h; injection h with h; subst h; exact loadL_err e'
 ·injection h with h; omega
theorem ideals_symm {a b : Side} {l : List (Int × Int)} (h1 : (idealsP a b l).2 = 0) : idealsP a b l = idealsP b a l := by
 unfold idealsP at h1 ⊢
 cases ea : loadP a.1 a.2 with
 | error e => rw [ea] at h1; exact absurd h1 (loadP_ne ea)
 | ok Ts =>
  cases eb : loadP b.1 b.2 with
  | error e => rfl
  | ok Us => exact congrArg (fun v : Verd => (v, (0 : Int))) (compareV_symm _ _)
theorem load_par {j k : Jb} {l : List St} {Ts Us : Tabs} (hn : k.nodes = j.nodes) (h : loadP j l = .ok Ts) (h' : loadP k l = .ok Us) : Ts = Us := by
 have h1 := (load_ok h).1
 have h2 := (load_ok h').1
 unfold loadP at h h'
 rw [if_pos h1] at h
 rw [if_pos h2, hn, h] at h'
 injection h'
theorem ideals_par {a c : Side} {l : List (Int × Int)} (hn : c.1.nodes = a.1.nodes) (hs : c.2 = a.2) (h : (idealsP a c l).2 = 0) : (idealsP a c l).1.1 = true := by
 unfold idealsP at h ⊢
 cases ea : loadP a.1 a.2 with
 | error e => rw [ea] at h; exact absurd h (loadP_ne ea)
 | ok Ts =>
  cases eb : loadP c.1 c.2 with
  | error e => rw [ea, eb] at h; exact absurd h (loadP_ne eb)
  | ok Us =>
   rw [hs] at eb
   have := load_par hn ea eb
   subst this
   simp only
   unfold outsP
   rw [hn, compareV_self]
end Go.Proofs.YtopeleenlcnkkaaGreatDoor
/-
 IDEALS SIDE BY SIDE: what one does, another one does not feel. Their blocks lie in ranges.
-/
namespace Go.Proofs.YtopeleenlcnkkaaGreatDoor
open Go Go.RowKit
theorem TabsAt.keptS {S : Nat → Prop} {w w' : World} {m : Nat} {Ts : Tabs} {pm : Nat → Nat × Nat} (h : TabsAt w m Ts pm) (hk : Kept S w w') (hS : ∀ k, S k → ∀ c E f, w.heap[k]? ≠ some (.cells c E f)) (hm : ¬ S m)
  (hd : ∀ (i : Nat) (T : Tab), Ts[i]? = some (some T) → ¬ S (pm i).2) : TabsAt w' m Ts pm := by
 obtain ⟨⟨l, h1, h2, h3⟩, h4, h5⟩ := h
 exact ⟨⟨l, h1.kept hk hm, h2, h3⟩, fun i T hT => ⟨(h4 i T hT).1.kept hk (fun q hq _ _ => hS q hq) (hd i T hT), (h4 i T hT).2⟩, h5⟩
theorem IdlAt.keptS {S : Nat → Prop} {w w' : World} {b m : Nat} {j : Jb} {Ts : Tabs} {pm : Nat → Nat × Nat} (h : IdlAt w b m j Ts pm) (hk : Kept S w w') (hS : ∀ k, S k → ∀ c E f, w.heap[k]? ≠ some (.cells c E f)) (hm : ¬ S m)
  (hd : ∀ (i : Nat) (T : Tab), Ts[i]? = some (some T) → ¬ S (pm i).2) : IdlAt w' b m j Ts pm := by
 obtain ⟨⟨v, h1, h2⟩, h3, h4⟩ := h
 exact ⟨⟨v, hk.heap h1 (fun hs => hS b hs _ _ _ h1), h2.kept hk hS⟩, h3, h4.keptS hk hS hm hd⟩
structure InRange (n k m : Nat) (Ts : Tabs) (pm : Nat → Nat × Nat) : Prop where
 m1 : n ≤ m
 m2 : m < k
 t1 : NewT n Ts pm
 t2 : ∀ (q : Nat) (T : Tab), Ts[q]? = some (some T) → (pm q).2 < k
theorem InRange.of {w : World} {n b m : Nat} {j : Jb} {Ts : Tabs} {pm : Nat → Nat × Nat} (h : IdlAt w b m j Ts pm) (h1 : n ≤ m) (h2 : NewT n Ts pm) : InRange n w.heap.size m Ts pm :=
 ⟨h1, h.tabs.lt, h2, fun q T hT => (h.tabs.tab q T hT).1.lt.1⟩
theorem InRange.wide {n k n' k' m : Nat} {Ts : Tabs} {pm : Nat → Nat × Nat} (h : InRange n k m Ts pm) (h1 : n' ≤ n) (h2 : k ≤ k') : InRange n' k' m Ts pm :=
 ⟨Nat.le_trans h1 h.m1, Nat.lt_of_lt_of_le h.m2 h2, fun q T hT => Nat.le_trans h1 (h.t1 q T hT), fun q T hT => Nat.lt_of_lt_of_le (h.t2 q T hT) h2⟩
theorem InRange.maps {n k m : Nat} {Ts : Tabs} {pm : Nat → Nat × Nat} (h : InRange n k m Ts pm) {q : Nat} (hq : mapsOf Ts pm q) : n ≤ q ∧ q < k := by
 obtain ⟨i, T, hT, rfl⟩ := hq
 exact ⟨h.t1 i T hT, h.t2 i T hT⟩
theorem InRange.kept {w0 w w' : World} {n k m : Nat} {Ts : Tabs} {pm : Nat → Nat × Nat} (h : InRange n k m Ts pm) (hn : w0.heap.size ≤ n) (h0 : Kept none' w0 w) (hk : Kept (mapsOf Ts pm) w w') : Kept none' w0 w' :=
 h0.maps (fun q T hT => Nat.le_trans hn (h.t1 q T hT)) hk
theorem JbAt.withPar {w : World} {v : Value} {par par' : Int} {j : Jb} (h : JbAt w #[.int .i64 par, v] j) (hp : R64 par') : JbAt w #[.int .i64 par', v] { j with par := par' } := by
 obtain ⟨v', e, hn, _⟩ := h
 injection e with e
 injection e with _ e
 injection e with e
 subst e
 exact ⟨_, rfl, hn, hp⟩
end Go.Proofs.YtopeleenlcnkkaaGreatDoor
