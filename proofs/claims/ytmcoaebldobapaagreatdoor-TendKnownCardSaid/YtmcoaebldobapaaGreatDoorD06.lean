/-
  Tables in memory; how many keys of a group they have.
-/
import Derived.Test.YtmcoaebldobapaaGreatDoorD05
import Derived.Deep.LoopGhost
import Derived.Test.YtmcoaebldobapaaGreatDoorD01
import Derived.Test.YtmcoaebldobapaaGreatDoorChecked
import Derived.ProofKit
import Derived.OpenShut
import Derived.ChangeOld
import Derived.Below
import Derived.ChangeCalls
import Derived.Deep.DeepHandedRow
import Derived.LaidMore
import Derived.Shelf.Vars
set_option linter.unusedVariables false
set_option linter.unusedSimpArgs false
namespace Go.Proofs.YtmcoaebldobapaaGreatDoor
open Go Go.RowKit
def ints (l : List Int) : List Value := l.map (Value.int .i64)
theorem ints_one (l : List Int) : ∀ x ∈ ints l, x.oneCell' = true := by
  intro x hx
  obtain ⟨n, _, rfl⟩ := List.mem_map.1 hx
  rfl
@[simp] theorem ints_length (l : List Int) : (ints l).length = l.length := by simp [ints]
/-- From block B on. -/
abbrev up (B : Nat) : Nat → Prop := fun k => B ≤ k
theorem Kept.up {S : Nat → Prop} {w w' : World} (h : Kept S w w') : ∀ k, w'.heap.size ≤ k → up w.heap.size k := fun _ hk => Nat.le_trans h.size hk
def CellIs (w : World) (B : Nat → Prop) (v : Value) (c : Cell) : Prop :=
  ∃ lv, v = .agg #[.int .i64 c.1, lv] ∧ Reads w 1 lv (ints c.2) ∧ ∀ b, Value.blk lv = some b → B b
/-- A table whose cells stand in map m, its struct in block b, all its memory from block B on. -/
structure TabAt (w : World) (B : Nat → Prop) (b m : Nat) (T : Tab) : Prop where
  hb : B b
  hm : B m
  obj : w.heap[b]? = some (.cells #[.map (some m)] 367 (0, 0))
  map : ∃ l, MapL w m l ∧ (l.map (·.1)).Perm (tkeys T) ∧ ∀ p ∈ l, ∃ c, (p.1, c) ∈ T ∧ CellIs w B p.2 c
  ok : TOk T
theorem Reads.isCells {w : World} {v : Value} {cs : List Value} {k b : Nat} (h : Reads w k v cs) (hk : 0 < k) (hb : Value.blk v = some b) : ∃ c E f, w.heap[b]? = some (.cells c E f) := by
  obtain ⟨a, n, cap, rfl, h1, h2, h3, h4⟩ := h
  have hn : n ≠ 0 := by
    intro h; subst h
    cases a <;> simp [Value.blk] at hb
  have hlen : 0 < cs.length := by rw [h3]; exact Nat.mul_pos (by omega) hk
  rcases h4 with rfl | ⟨b', off, rfl, h4⟩
  · simp at hlen
  · simp [Value.blk, hn] at hb
    subst hb
    have := h4 0 (cs[0]) (by simp)
    unfold World.cell? at this
    split at this
    · rename_i c E f he; exact ⟨c, E, f, he⟩
    · cases this
/-- S holds no cells of B. -/
def NoCells (w : World) (S : Nat → Prop) (B : Nat → Prop) : Prop := ∀ k, S k → B k → k < w.heap.size → ∀ c E f, w.heap[k]? ≠ some (.cells c E f)
theorem NoCells.none (w : World) (B : Nat → Prop) : NoCells w none' B := fun _ h => h.elim
theorem NoCells.map {w : World} {m : Nat} {l : List (Int × Value)} (h : MapL w m l) (B : Nat → Prop) : NoCells w (one m) B := by
  intro k hk _ _ c E f e
  cases hk
  obtain ⟨L, clock, h, _⟩ := h
  rw [h.heap] at e; cases e
theorem NoCells.iter {w : World} {r m : Nat} {l left : List (Int × Value)} (h : IterL w r m l left) (B : Nat → Prop) : NoCells w (one r) B := by
  intro k hk _ _ c E f e
  cases hk
  obtain ⟨L, clock, seen, _, _, h, _⟩ := h
  rw [h] at e; cases e
theorem CellIs.kept {w w' : World} {B : Nat → Prop} {v : Value} {c : Cell} {S : Nat → Prop} (h : CellIs w B v c) (hk : Kept S w w') (hS : NoCells w S B) : CellIs w' B v c := by
  obtain ⟨lv, h1, h2, h3⟩ := h
  refine ⟨lv, h1, h2.kept hk (fun b hb hs => ?_), h3⟩
  obtain ⟨c, E, f, he⟩ := h2.isCells (by decide) hb
  exact hS b hs (h3 b hb) (Array.getElem?_eq_some_iff.1 he).1 c E f he
theorem CellIs.mono {w : World} {B B' : Nat → Prop} {v : Value} {c : Cell} (h : CellIs w B v c) (hB : ∀ k, B k → k < w.heap.size → B' k) : CellIs w B' v c := by
  obtain ⟨lv, h1, h2, h3⟩ := h
  refine ⟨lv, h1, h2, fun b hb => hB b (h3 b hb) ?_⟩
  obtain ⟨c, E, f, he⟩ := h2.isCells (by decide) hb
  exact (Array.getElem?_eq_some_iff.1 he).1
theorem TabAt.kept {w w' : World} {B : Nat → Prop} {b m : Nat} {T : Tab} {S : Nat → Prop} (h : TabAt w B b m T) (hk : Kept S w w') (hS : NoCells w S B) (hm : ¬ S m) : TabAt w' B b m T := by
  obtain ⟨h1, h2, h3, ⟨l, h4, h5, h6⟩, h7⟩ := h
  refine ⟨h1, h2, hk.heap h3 (fun hs => hS b hs h1 (Array.getElem?_eq_some_iff.1 h3).1 _ _ _ h3), ⟨l, h4.kept hk hm, h5, fun p hp => ?_⟩, h7⟩
  obtain ⟨c, hc, hcc⟩ := h6 p hp
  exact ⟨c, hc, hcc.kept hk hS⟩
theorem TabAt.pure {w w' : World} {B : Nat → Prop} {b m : Nat} {T : Tab} (h : TabAt w B b m T) (hk : Kept none' w w') : TabAt w' B b m T := h.kept hk (.none _ _) (fun h => h)
theorem TabAt.mono {w : World} {B B' : Nat → Prop} {b m : Nat} {T : Tab} (h : TabAt w B b m T) (hB : ∀ k, B k → k < w.heap.size → B' k) : TabAt w B' b m T := by
  obtain ⟨h1, h2, h3, ⟨l, h4, h5, h6⟩, h7⟩ := h
  have hm : m < w.heap.size := h4.lt
  refine ⟨hB b h1 (Array.getElem?_eq_some_iff.1 h3).1, hB m h2 hm, h3, ⟨l, h4, h5, fun p hp => ?_⟩, h7⟩
  obtain ⟨c, hc, hcc⟩ := h6 p hp
  exact ⟨c, hc, hcc.mono hB⟩
theorem TabAt.cell {w : World} {B : Nat → Prop} {b m : Nat} {T : Tab} (h : TabAt w B b m T) : w.cell? ⟨b, 0, none⟩ = some (.map (some m)) := by
  rw [cell_of_row w b 0 _ _ _ h.obj]; rfl
theorem tmany_perm {T : Tab} {l : List Int} (h : l.Perm (tkeys T)) (g : Int) : l.countP (fun k => grp k == g) = tmany T g := by
  rw [h.countP_eq]
  unfold tkeys tmany
  rw [List.countP_map]
  rfl
/-- The end of a call that turns nothing. -/
def Gives (w : World) (v : Value) (e : Ending) (w' : World) : Prop := e = .returned v ∧ Kept none' w w'
set_option maxRecDepth 100000 in
set_option maxHeartbeats 400000 in
theorem many_any (B : Nat → Prop) (b m : Nat) (T : Tab) (g : Int) (w : World) (h : TabAt w B b m T) :
    Calls Tryz.prog 306 #[.pointer (some ⟨b, 0, none⟩), .int .i64 g] w (Gives w (.int .i64 (tmany T g))) := by
  have hcell := h.cell
  obtain ⟨l, hl, hperm, hcs⟩ := h.map
  obtain ⟨w0, hrun, hit, hk0, hs0⟩ := hl.range (P := Tryz.prog) Tryz.underlying365
  have hmany := h.ok.many g
  have IT := Lib.hid hit
  have HS := Lib.hid hs0
  have HP := Lib.hid (tmany_perm hperm g)
  clear hit hs0 hperm hcs hl h
  go_enter Tryz.func306, Tryz.ntmps306
  go_wp2
  go_loopg [5] l.length (fun k i wr => ∃ left c, IterL wr w.heap.size m l left ∧ left.length = k ∧ i = .int .i64 ((c : Nat) : Int) ∧ c + (left.map (·.1)).countP (fun k => grp k == g) = tmany T g ∧ Kept none' w wr)
  case atStart => exact ⟨l, 0, IT.out, rfl, rfl, by rw [← HP.out]; simp, hk0⟩
  case round =>
    obtain ⟨left, c, hit, hlen, rfl, hsum, hk⟩ := hrel
    have hc : c ≤ 40 := by omega
    have A := Lib.hid (And.intro hlen hsum)
    clear hlen hsum hmany
    rcases hit.next (P := Tryz.prog) 0 with ⟨rfl, hrun⟩ | ⟨p, left', w2, hp, hrun, hit2, hk2, hs2, hen⟩
    · clear hit
      go_wp2
      go_ret
      exact ⟨ret_int (by have := A.out.2; simp at this; omega), hk⟩
    · clear hit
      have I2 := Lib.hid hit2
      have HP := Lib.hid hp
      clear hit2 hs2 hp
      have hk3 : Kept none' w w2 := hk.new hk2 (fun k hk e => by unfold one at e; omega)
      clear hk2
      go_wp2_with (go_at_call 307; refine (of_any _ _).mono ?_; rintro e w' ⟨rfl, rfl⟩)
      · rename_i hg
        go_roundg left'.length
        case rel =>
          refine ⟨left', c + 1, I2.out, rfl, by go_num, ?_, hk3⟩
          have h1 := (HP.out.map (·.1)).countP_eq (fun k => grp k == g)
          rw [List.map_cons, List.countP_cons, if_pos hg] at h1
          have h2 := A.out.2
          omega
        case measure =>
          have h1 := HP.out.length_eq
          have h2 := A.out.1
          simp at h1
          omega
      · rename_i hg
        go_roundg left'.length
        case rel =>
          refine ⟨left', c, I2.out, rfl, rfl, ?_, hk3⟩
          have h1 := (HP.out.map (·.1)).countP_eq (fun k => grp k == g)
          rw [List.map_cons, List.countP_cons, if_neg (by rw [hg]; simp)] at h1
          have h2 := A.out.2
          omega
        case measure =>
          have h1 := HP.out.length_eq
          have h2 := A.out.1
          simp at h1
          omega
theorem new_any (w : World) : Calls Tryz.prog 303 #[] w fun e w' => ∃ b m, e = .returned (.pointer (some ⟨b, 0, none⟩)) ∧ TabAt w' (up w.heap.size) b m [] ∧ Kept none' w w' := by
  have hmm := @run_makeMap Tryz.prog
  go_enter Tryz.func303, Tryz.ntmps303
  go_wp2
  go_ret
  refine ⟨w.heap.size + 1, w.heap.size, rfl, ⟨Nat.le_succ _, Nat.le_refl _, ?_, ⟨[], ?_, by simp [tkeys], by simp⟩, ⟨by simp [Rises], by simp, by simp, fun g => by simp [tmany]⟩⟩, ?_⟩
  · have := heap_alloc_new (w.alloc (.map #[] 0)) (.cells #[.map (some w.heap.size)] 367)
    rwa [World.size_alloc] at this
  · exact (MapL.made w).kept ((Kept.refl none' _).alloc _) (fun h => h)
  · exact ((Kept.refl none' _).alloc _).alloc _
end Go.Proofs.YtmcoaebldobapaaGreatDoor
/-
  THE ROW's STEP for a law that takes nothing and writes nothing that was there, but reads variables that are listed.
-/
namespace Go.Proofs.YtmcoaebldobapaaGreatDoor
open Go Go.RowKit Go.ChangeShapes Go.WideShapes Go.ChangeAt
theorem own : ownKnob Tryz.prog.godebug = none := by kernel_rfl
/-- The variables stand ahead of all else. -/
theorem vars_at (w : World) (h : w.ShapedOpen Tryz.prog) : 8 ≤ w.heap.size := by
  have h7 : ((((begin Tryz.prog (fun _ _ => 0) default).world.heap[7]?).bind Obj.row?).isSome) = true := by kernel_rfl
  obtain ⟨x, hx⟩ := Option.isSome_iff_exists.1 h7
  obtain ⟨zero, t⟩ := x
  obtain ⟨cs, hh, _⟩ := h.1 7 zero t (of_decide_eq_true (by kernel_rfl)) hx
  have := (Array.getElem?_eq_some_iff.1 hh).1
  omega
theorem lifted_noneV {F : Nat} {fn : Func} {s : ChangeSpec} {laid : List (String × DataW Unit)} (hf : Tryz.prog.funcs[F]? = some fn) (hv : s.vars = []) (hvt : s.plain.varTypes Tryz.prog = []) (hr : fn.resultTypes = #[4]) (hp : fn.params = #[]) (hi : Tryz.prog.inits.idxOf? F = none)
    (hs : ∀ (H : Type), s.fn H [] = { results := [.lit (.bool true)], args := [] })
    (walk : ∀ (W : World), 8 ≤ W.heap.size → laidMetH Tryz.prog laid W → Calls Tryz.prog F #[] W (Gives W (.bool true)))
    (os : Os) (started : os.Started) (H : Type) (enc : TypeId × Value → H)
    (witness : ∃ (w : World) (tape : Tape) (i : Input), w.os = os ∧ (w.forCall tape i).Shaped Tryz.prog ∧ i.vars = [] ∧ Input.okWide Tryz.prog (w.forCall tape i) .any w.heap.size F i ∧
      (OpenSpec.ofChange s).preRow enc Tryz.prog fn [] false laid (w.forCall tape i).memory i.args ∧ ({} : Assume).holds Tryz.prog (lone (Frame.enter Tryz.prog F i.args .normal) [] (w.forCall tape i))) :
    ReturnsInHanded {} Tryz.checked os F .any ((OpenSpec.ofChange s).preRow enc Tryz.prog fn [] false laid) (s.post enc Tryz.prog fn false true false false) := by
  refine returnsInHanded_of_row (C := Tryz.checked) (s := OpenSpec.ofChange s) (F := fun _ _ _ => 0) own started hi hf witness ?_
  intro W base args ds gs before hval hW hcnd _ hsz hld hsh _
  have hW' := hW
  obtain ⟨p, q, hA, hV, rfl, hfz, hnd⟩ := hW
  have hv' : (OpenSpec.ofChange s).vars = [] := hv
  rw [hv'] at hV
  obtain ⟨rfl, rfl⟩ := trodVars_none hV
  have hA' : DataW.TrodAll enc Tryz.prog W 0 (fun _ => true) true fn.params.toList args.toList ds p := hA
  have hlen := trodAll_length hA'
  rw [hp] at hlen
  have hargs : args = #[] := by apply Array.eq_empty_of_size_eq_zero; simpa using hlen.1
  have hds : ds = [] := List.eq_nil_of_length_eq_zero (by simpa using hlen.2)
  subst hargs hds
  refine (walk W (vars_at W hsh) hld).mono fun e W' ⟨he, k⟩ => ?_
  subst he
  have bel := k.below
  have hfn : s.fn H ([] ++ []) = { results := [.lit (.bool true)], args := [] } := hs H
  have hnil : ∀ sp, DataW.TrodAll enc Tryz.prog W' 0 sp true fn.params.toList (#[] : Array Value).toList [] p := fun sp => by
    rw [hp] at hA' ⊢
    cases hA'
    constructor
  refine ⟨_, rfl, [], [], _, [], p, [], hW', ?_, ?_, ?_, bel.frame _, fun h => by cases h⟩
  · rw [hr]; show DataW.TrodAll _ _ _ _ _ _ _ _ (s.fn H ([] ++ [])).results _; rw [hfn]; exact trodAll_mk1 (shut_bool Tryz.underlying4 _)
  · show DataW.TrodAll _ _ _ _ _ _ _ _ (s.fn H ([] ++ [])).args _; rw [hfn]; exact hnil _
  · have e1 : ((OpenSpec.ofChange s).at fun _ _ _ => 0).vars = [] := hv
    have e2 : (((OpenSpec.ofChange s).at fun _ _ _ => 0).fn H ([] ++ [])) = { results := [.lit (.bool true)], args := [] } := hfn
    rw [e2, e1]; rfl
end Go.Proofs.YtmcoaebldobapaaGreatDoor
