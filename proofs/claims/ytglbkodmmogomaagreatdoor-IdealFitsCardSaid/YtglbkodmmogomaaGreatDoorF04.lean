/-
  Tables in memory; how many keys of a group they have.
-/
import Derived.Test.YtglbkodmmogomaaGreatDoorF03
import Derived.Deep.LoopGhost
import Derived.WalkKit
set_option linter.unusedVariables false
set_option linter.unusedSimpArgs false
namespace Go.Proofs.YtglbkodmmogomaaGreatDoor
open Go Go.RowKit
def ints (l : List Int) : List Value := l.map (Value.int .i64)
theorem ints_one (l : List Int) : ∀ x ∈ ints l, x.oneCell' = true := by
  intro x hx
  obtain ⟨n, _, rfl⟩ := List.mem_map.1 hx
  rfl
@[simp] theorem ints_length (l : List Int) : (ints l).length = l.length := by simp [ints]
/-- From block B on. -/
abbrev up (B : Nat) : Nat → Prop := fun k => B ≤ k
theorem Kept.up {S : Nat → Prop} {w w' : World} (h : Kept S w w') : ∀ k, w'.heap.size ≤ k → up w.heap.size k := fun _ hk => Nat.le_trans h.size hk
def CellIs (w : World) (B : Nat → Prop) (v : Value) (c : Cell) : Prop :=
  ∃ lv, v = .agg #[.int .i64 c.1, lv] ∧ Reads w 1 lv (ints c.2) ∧ ∀ b, Value.blk lv = some b → B b
/-- A table whose cells stand in map m, its struct in block b, all its memory from block B on. -/
structure TabAt (w : World) (B : Nat → Prop) (b m : Nat) (T : Tab) : Prop where
  hb : B b
  hm : B m
  obj : w.heap[b]? = some (.cells #[.map (some m)] 115 (0, 0))
  map : ∃ l, MapL w m l ∧ (l.map (·.1)).Perm (tkeys T) ∧ ∀ p ∈ l, ∃ c, (p.1, c) ∈ T ∧ CellIs w B p.2 c
  ok : TOk T
theorem Reads.isCells {w : World} {v : Value} {cs : List Value} {k b : Nat} (h : Reads w k v cs) (hk : 0 < k) (hb : Value.blk v = some b) : ∃ c E f, w.heap[b]? = some (.cells c E f) := by
  obtain ⟨a, n, cap, rfl, h1, h2, h3, h4⟩ := h
  have hn : n ≠ 0 := by
    intro h; subst h
    cases a <;> simp [Value.blk] at hb
  have hlen : 0 < cs.length := by rw [h3]; exact Nat.mul_pos (by omega) hk
  rcases h4 with rfl | ⟨b', off, rfl, h4⟩
  · simp at hlen
  · simp [Value.blk, hn] at hb
    subst hb
    have := h4 0 (cs[0]) (by simp)
    unfold World.cell? at this
    split at this
    · rename_i c E f he; exact ⟨c, E, f, he⟩
    · cases this
/-- S holds no cells of B. -/
def NoCells (w : World) (S : Nat → Prop) (B : Nat → Prop) : Prop := ∀ k, S k → B k → k < w.heap.size → ∀ c E f, w.heap[k]? ≠ some (.cells c E f)
theorem NoCells.none (w : World) (B : Nat → Prop) : NoCells w none' B := fun _ h => h.elim
theorem NoCells.map {w : World} {m : Nat} {l : List (Int × Value)} (h : MapL w m l) (B : Nat → Prop) : NoCells w (one m) B := by
  intro k hk _ _ c E f e
  cases hk
  obtain ⟨L, clock, h, _⟩ := h
  rw [h.heap] at e; cases e
theorem NoCells.iter {w : World} {r m : Nat} {l left : List (Int × Value)} (h : IterL w r m l left) (B : Nat → Prop) : NoCells w (one r) B := by
  intro k hk _ _ c E f e
  cases hk
  obtain ⟨L, clock, seen, _, _, h, _⟩ := h
  rw [h] at e; cases e
theorem CellIs.kept {w w' : World} {B : Nat → Prop} {v : Value} {c : Cell} {S : Nat → Prop} (h : CellIs w B v c) (hk : Kept S w w') (hS : NoCells w S B) : CellIs w' B v c := by
  obtain ⟨lv, h1, h2, h3⟩ := h
  refine ⟨lv, h1, h2.kept hk (fun b hb hs => ?_), h3⟩
  obtain ⟨c, E, f, he⟩ := h2.isCells (by decide) hb
  exact hS b hs (h3 b hb) (Array.getElem?_eq_some_iff.1 he).1 c E f he
theorem CellIs.mono {w : World} {B B' : Nat → Prop} {v : Value} {c : Cell} (h : CellIs w B v c) (hB : ∀ k, B k → k < w.heap.size → B' k) : CellIs w B' v c := by
  obtain ⟨lv, h1, h2, h3⟩ := h
  refine ⟨lv, h1, h2, fun b hb => hB b (h3 b hb) ?_⟩
  obtain ⟨c, E, f, he⟩ := h2.isCells (by decide) hb
  exact (Array.getElem?_eq_some_iff.1 he).1
theorem TabAt.kept {w w' : World} {B : Nat → Prop} {b m : Nat} {T : Tab} {S : Nat → Prop} (h : TabAt w B b m T) (hk : Kept S w w') (hS : NoCells w S B) (hm : ¬ S m) : TabAt w' B b m T := by
  obtain ⟨h1, h2, h3, ⟨l, h4, h5, h6⟩, h7⟩ := h
  refine ⟨h1, h2, hk.heap h3 (fun hs => hS b hs h1 (Array.getElem?_eq_some_iff.1 h3).1 _ _ _ h3), ⟨l, h4.kept hk hm, h5, fun p hp => ?_⟩, h7⟩
  obtain ⟨c, hc, hcc⟩ := h6 p hp
  exact ⟨c, hc, hcc.kept hk hS⟩
theorem TabAt.pure {w w' : World} {B : Nat → Prop} {b m : Nat} {T : Tab} (h : TabAt w B b m T) (hk : Kept none' w w') : TabAt w' B b m T := h.kept hk (.none _ _) (fun h => h)
theorem TabAt.mono {w : World} {B B' : Nat → Prop} {b m : Nat} {T : Tab} (h : TabAt w B b m T) (hB : ∀ k, B k → k < w.heap.size → B' k) : TabAt w B' b m T := by
  obtain ⟨h1, h2, h3, ⟨l, h4, h5, h6⟩, h7⟩ := h
  have hm : m < w.heap.size := h4.lt
  refine ⟨hB b h1 (Array.getElem?_eq_some_iff.1 h3).1, hB m h2 hm, h3, ⟨l, h4, h5, fun p hp => ?_⟩, h7⟩
  obtain ⟨c, hc, hcc⟩ := h6 p hp
  exact ⟨c, hc, hcc.mono hB⟩
theorem TabAt.cell {w : World} {B : Nat → Prop} {b m : Nat} {T : Tab} (h : TabAt w B b m T) : w.cell? ⟨b, 0, none⟩ = some (.map (some m)) := by
  rw [cell_of_row w b 0 _ _ _ h.obj]; rfl
theorem tmany_perm {T : Tab} {l : List Int} (h : l.Perm (tkeys T)) (g : Int) : l.countP (fun k => grp k == g) = tmany T g := by
  rw [h.countP_eq]
  unfold tkeys tmany
  rw [List.countP_map]
  rfl
/-- The end of a call that turns nothing. -/
def Gives (w : World) (v : Value) (e : Ending) (w' : World) : Prop := e = .returned v ∧ Kept none' w w'
set_option maxRecDepth 100000 in
set_option maxHeartbeats 400000 in
theorem many_any (B : Nat → Prop) (b m : Nat) (T : Tab) (g : Int) (w : World) (h : TabAt w B b m T) :
    Calls Tryz.prog 51 #[.pointer (some ⟨b, 0, none⟩), .int .i64 g] w (Gives w (.int .i64 (tmany T g))) := by
  have hcell := h.cell
  obtain ⟨l, hl, hperm, hcs⟩ := h.map
  obtain ⟨w0, hrun, hit, hk0, hs0⟩ := hl.range (P := Tryz.prog) Tryz.underlying113
  have hmany := h.ok.many g
  have IT := Lib.hid hit
  have HS := Lib.hid hs0
  have HP := Lib.hid (tmany_perm hperm g)
  clear hit hs0 hperm hcs hl h
  go_enter Tryz.func51, Tryz.ntmps51
  go_wp2
  go_loopg [5] l.length (fun k i wr => ∃ left c, IterL wr w.heap.size m l left ∧ left.length = k ∧ i = .int .i64 ((c : Nat) : Int) ∧ c + (left.map (·.1)).countP (fun k => grp k == g) = tmany T g ∧ Kept none' w wr)
  case atStart => exact ⟨l, 0, IT.out, rfl, rfl, by rw [← HP.out]; simp, hk0⟩
  case round =>
    obtain ⟨left, c, hit, hlen, rfl, hsum, hk⟩ := hrel
    have hc : c ≤ 40 := by omega
    have A := Lib.hid (And.intro hlen hsum)
    clear hlen hsum hmany
    rcases hit.next (P := Tryz.prog) 0 with ⟨rfl, hrun⟩ | ⟨p, left', w2, hp, hrun, hit2, hk2, hs2, hen⟩
    · clear hit
      go_wp2
      go_ret
      exact ⟨ret_int (by have := A.out.2; simp at this; omega), hk⟩
    · clear hit
      have I2 := Lib.hid hit2
      have HP := Lib.hid hp
      clear hit2 hs2 hp
      have hk3 : Kept none' w w2 := hk.new hk2 (fun k hk e => by unfold one at e; omega)
      clear hk2
      go_wp2_with (go_at_call 52; refine (of_any _ _).mono ?_; rintro e w' ⟨rfl, rfl⟩)
      · rename_i hg
        go_roundg left'.length
        case rel =>
          refine ⟨left', c + 1, I2.out, rfl, by go_num, ?_, hk3⟩
          have h1 := (HP.out.map (·.1)).countP_eq (fun k => grp k == g)
          rw [List.map_cons, List.countP_cons, if_pos hg] at h1
          have h2 := A.out.2
          omega
        case measure =>
          have h1 := HP.out.length_eq
          have h2 := A.out.1
          simp at h1
          omega
      · rename_i hg
        go_roundg left'.length
        case rel =>
          refine ⟨left', c, I2.out, rfl, rfl, ?_, hk3⟩
          have h1 := (HP.out.map (·.1)).countP_eq (fun k => grp k == g)
          rw [List.map_cons, List.countP_cons, if_neg (by rw [hg]; simp)] at h1
          have h2 := A.out.2
          omega
        case measure =>
          have h1 := HP.out.length_eq
          have h2 := A.out.1
          simp at h1
          omega
theorem new_any (w : World) : Calls Tryz.prog 49 #[] w fun e w' => ∃ b m, e = .returned (.pointer (some ⟨b, 0, none⟩)) ∧ TabAt w' (up w.heap.size) b m [] ∧ Kept none' w w' := by
  have hmm := @run_makeMap Tryz.prog
  go_enter Tryz.func49, Tryz.ntmps49
  go_wp2
  go_ret
  refine ⟨w.heap.size + 1, w.heap.size, rfl, ⟨Nat.le_succ _, Nat.le_refl _, ?_, ⟨[], ?_, by simp [tkeys], by simp⟩, ⟨by simp [Rises], by simp, by simp, fun g => by simp [tmany]⟩⟩, ?_⟩
  · have := heap_alloc_new (w.alloc (.map #[] 0)) (.cells #[.map (some w.heap.size)] 115)
    rwa [World.size_alloc] at this
  · exact (MapL.made w).kept ((Kept.refl none' _).alloc _) (fun h => h)
  · exact ((Kept.refl none' _).alloc _).alloc _
end Go.Proofs.YtglbkodmmogomaaGreatDoor
/-
  RECORDS IN PLAIN WORDS: what it is to be merged: in order of places, those of one place as they came.
-/
namespace Go.Proofs.YtglbkodmmogomaaGreatDoor
/-- A record: its place, its key, its number. -/
structure Rec where
  pos : Int
  key : Int
  val : Int
deriving DecidableEq
instance : Inhabited Rec := ⟨⟨0, 0, 0⟩⟩
/-- Of each place the records are the same, in the same order. -/
def Same (L M : List Rec) : Prop := ∀ p : Int, L.filter (fun r => r.pos == p) = M.filter (fun r => r.pos == p)
def Sorted (L : List Rec) : Prop := L.Pairwise fun a b => a.pos ≤ b.pos
theorem Same.refl (L : List Rec) : Same L L := fun _ => rfl
theorem Same.symm {L M : List Rec} (h : Same L M) : Same M L := fun p => (h p).symm
theorem Same.trans {L M N : List Rec} (h : Same L M) (k : Same M N) : Same L N := fun p => (h p).trans (k p)
theorem Same.append {L L' M M' : List Rec} (h : Same L L') (k : Same M M') : Same (L ++ M) (L' ++ M') := fun p => by rw [List.filter_append, List.filter_append, h p, k p]
theorem Same.mem {L M : List Rec} (h : Same L M) {r : Rec} : r ∈ L ↔ r ∈ M := by
  have e : ∀ K : List Rec, r ∈ K ↔ r ∈ K.filter (fun x => x.pos == r.pos) := fun K => by simp
  rw [e L, e M, h r.pos]
theorem Same.nil {L : List Rec} (h : Same [] L) : L = [] := by
  cases L with
  | nil => rfl
  | cons x L => exact absurd (h.mem.2 (List.mem_cons_self (a := x) (l := L))) (by simp)
/-- What stands ahead of records of other places may stand behind them. -/
theorem Same.comm {A B : List Rec} (h : ∀ a ∈ A, ∀ b ∈ B, a.pos ≠ b.pos) : Same (A ++ B) (B ++ A) := by
  intro p
  rw [List.filter_append, List.filter_append]
  cases hA : A.filter (fun r => r.pos == p) with
  | nil => simp
  | cons x l =>
    have hx : x ∈ A.filter (fun r => r.pos == p) := by rw [hA]; simp
    have hx1 := (List.mem_filter.1 hx).1
    have hx2 : x.pos = p := by simpa using (List.mem_filter.1 hx).2
    have hB : B.filter (fun r => r.pos == p) = [] := by
      rw [List.filter_eq_nil_iff]
      intro b hb e
      exact h x hx1 b hb (by rw [hx2]; exact (by simpa using e : b.pos = p).symm)
    rw [hB]; simp
theorem Same.cons_inv {x : Rec} {L M : List Rec} (h : Same (x :: L) (x :: M)) : Same L M := by
  intro p
  have := h p
  rw [List.filter_cons, List.filter_cons] at this
  split at this
  · exact List.cons.inj this |>.2
  · exact this
/-- TWO SORTED ROWS of the same records are the same row. -/
theorem Sorted.unique : ∀ {L M : List Rec}, Sorted L → Sorted M → Same L M → L = M
  | [], M, _, _, h => h.nil.symm
  | x :: L, [], _, _, h => by cases h.symm.nil
  | x :: L, y :: M, hL, hM, h => by
    obtain ⟨hx, hL'⟩ := List.pairwise_cons.1 hL
    obtain ⟨hy, hM'⟩ := List.pairwise_cons.1 hM
    have h1 : y.pos ≤ x.pos := by
      rcases List.mem_cons.1 (h.mem.1 (List.mem_cons_self (a := x) (l := L))) with e | e
      · rw [e]; exact Int.le_refl _
      · exact hy x e
    have h2 : x.pos ≤ y.pos := by
      rcases List.mem_cons.1 (h.mem.2 (List.mem_cons_self (a := y) (l := M))) with e | e
      · rw [e]; exact Int.le_refl _
      · exact hx y e
    have he : x.pos = y.pos := by omega
    have := h x.pos
    rw [List.filter_cons, List.filter_cons, if_pos (by simp), if_pos (by simp [he])] at this
    obtain ⟨rfl, _⟩ := List.cons.inj this
    rw [Sorted.unique hL' hM' h.cons_inv]
theorem Same.length {L M : List Rec} (h : Same L M) : L.length = M.length := by
  have hp : ∀ (L M : List Rec), Same L M → L.Perm M := by
    intro L M h
    rw [List.perm_iff_count]
    intro r
    have e : ∀ K : List Rec, K.count r = (K.filter (fun x => x.pos == r.pos)).count r := fun K => (List.count_filter (by simp)).symm
    rw [e L, e M, h r.pos]
  exact (hp L M h).length_eq
theorem Sorted.append {A B : List Rec} (hA : Sorted A) (hB : Sorted B) (h : ∀ a ∈ A, ∀ b ∈ B, a.pos ≤ b.pos) : Sorted (A ++ B) := List.pairwise_append.2 ⟨hA, hB, h⟩
theorem Sorted.left {A B : List Rec} (h : Sorted (A ++ B)) : Sorted A := (List.pairwise_append.1 h).1
theorem Sorted.right {A B : List Rec} (h : Sorted (A ++ B)) : Sorted B := (List.pairwise_append.1 h).2.1
theorem Sorted.le {A B : List Rec} (h : Sorted (A ++ B)) : ∀ a ∈ A, ∀ b ∈ B, a.pos ≤ b.pos := (List.pairwise_append.1 h).2.2
/-- What merging makes. -/
def smerge (L : List Rec) : List Rec := L.mergeSort fun x y => decide (x.pos ≤ y.pos)
theorem smerge_sorted (L : List Rec) : Sorted (smerge L) := by
  have := List.pairwise_mergeSort (le := fun x y : Rec => decide (x.pos ≤ y.pos)) (fun a b c h k => by simp at *; omega) (fun a b => by simp; omega) L
  exact this.imp (fun h => by simpa using h)
theorem smerge_same (L : List Rec) : Same L (smerge L) := by
  intro p
  have hs : (L.filter (fun r => r.pos == p)).Sublist (smerge L) := by
    refine List.sublist_mergeSort (fun a b c h k => by simp at *; omega) (fun a b => by simp; omega) ?_ List.filter_sublist
    refine List.pairwise_of_forall_mem_list (fun a ha b hb => ?_)
    have h1 : a.pos = p := by simpa using (List.mem_filter.1 ha).2
    have h2 : b.pos = p := by simpa using (List.mem_filter.1 hb).2
    simp; omega
  have h2 := hs.filter (fun r => r.pos == p)
  rw [List.filter_filter] at h2
  simp only [Bool.and_self] at h2
  refine h2.eq_of_length ?_
  exact ((List.mergeSort_perm L _).filter _).length_eq.symm
theorem smerge_unique {L M : List Rec} (h : Sorted M) (k : Same L M) : M = smerge L := (Sorted.unique (smerge_sorted L) h ((smerge_same L).symm.trans k)).symm
theorem smerge_length (L : List Rec) : (smerge L).length = L.length := (smerge_same L).length.symm
theorem mem_smerge {L : List Rec} {r : Rec} : r ∈ smerge L ↔ r ∈ L := (smerge_same L).mem.symm
end Go.Proofs.YtglbkodmmogomaaGreatDoor
/-
  PLAIN WORDS, no program in sight: expressions, tables' laws, what a node makes of records.
-/
namespace Go.Proofs.YtglbkodmmogomaaGreatDoor
open Go Go.RowKit
theorem R64.small {n : Int} (h1 : -1000 ≤ n) (h2 : n ≤ 1000) : R64 n := ⟨by omega, by omega⟩
/-- An expression: its kind, its number, of what it is. -/
inductive Ex where
  | mk (op n : Int) (args : List Ex)
instance : Inhabited Ex := ⟨.mk 0 0 []⟩
def Ex.op : Ex → Int | .mk o _ _ => o
def Ex.n : Ex → Int | .mk _ n _ => n
def Ex.args : Ex → List Ex | .mk _ _ l => l
def arity (op : Int) : Int := if op = 0 ∨ 18 < op then -1 else if op ≤ 4 then 0 else if op ≤ 6 then 1 else if op = 18 then 3 else 2
def exMay : Nat → Ex → Bool
  | 0, _ => false
  | f + 1, .mk op n args => decide (arity op = args.length) && decide (0 ≤ n) && decide (n = 0 ∨ op = 1) && args.all (exMay f)
/-- A rule: a kind, the types of what it is of, its type. -/
abbrev Rul := (Int × Int × Int × Int) × Int
def rulesL : List Rul :=
  [((1, 0, 0, 0), 1), ((2, 0, 0, 0), 1), ((3, 0, 0, 0), 1), ((4, 0, 0, 0), 1), ((5, 1, 0, 0), 1),
   ((7, 1, 1, 0), 1), ((8, 1, 1, 0), 1), ((9, 1, 1, 0), 1), ((10, 1, 1, 0), 1), ((11, 1, 1, 0), 1), ((6, 2, 0, 0), 2),
   ((16, 2, 2, 0), 2), ((17, 2, 2, 0), 2), ((14, 2, 2, 0), 2), ((15, 2, 2, 0), 2),
   ((12, 1, 1, 0), 2), ((13, 1, 1, 0), 2), ((14, 1, 1, 0), 2), ((15, 1, 1, 0), 2), ((18, 2, 1, 1), 1), ((18, 2, 2, 2), 2)]
def ruleTy (k : Int × Int × Int × Int) : Int := ((rulesL.find? fun r => r.1 == k).map (·.2)).getD 0
def exTy : Nat → Ex → Int
  | 0, _ => 0
  | f + 1, .mk op _ args => if (args.map (exTy f)).contains 0 then 0 else ruleTy (op, (args.map (exTy f)).getD 0 0, (args.map (exTy f)).getD 1 0, (args.map (exTy f)).getD 2 0)
/-- What an expression comes to: a number, or a truth. -/
inductive EV where
  | num (n : Int)
  | tru (b : Bool)
def EV.ty : EV → Int | .num _ => 1 | .tru _ => 2
def EV.n : EV → Int | .num n => n | .tru _ => 0
def EV.b : EV → Bool | .num _ => false | .tru b => b
def exTwo (op : Int) : EV → EV → EV
  | .num a, y => if op = 7 then .num (wrap64 (a + y.n)) else if op = 8 then .num (wrap64 (a - y.n)) else if op = 9 then .num (wrap64 (a * y.n))
    else if op = 12 then .tru (decide (a < y.n)) else if op = 13 then .tru (decide (a ≤ y.n)) else if op = 14 then .tru (a == y.n) else if op = 15 then .tru (a != y.n)
    else if y.n = 0 then .num 0 else if op = 10 then .num (wrap64 (a.tdiv y.n)) else .num (a.tmod y.n)
  | .tru a, y => if op = 16 then .tru (a && y.b) else if op = 17 then .tru (a || y.b) else if op = 14 then .tru (a == y.b) else .tru (a != y.b)
structure Env where
  key : Int
  val : Int
  acc : Int
def exDo : Nat → Env → Ex → EV
  | 0, _, _ => .num 0
  | f + 1, env, .mk op n args =>
    if op = 1 then .num n else if op = 2 then .num env.key else if op = 3 then .num env.val else if op = 4 then .num env.acc
    else if op = 5 then .num (wrap64 (-(exDo f env (args.getD 0 default)).n))
    else if op = 6 then .tru (!(exDo f env (args.getD 0 default)).b)
    else if op = 18 then (if (exDo f env (args.getD 0 default)).b then exDo f env (args.getD 1 default) else exDo f env (args.getD 2 default))
    else exTwo op (exDo f env (args.getD 0 default)) (exDo f env (args.getD 1 default))
/-- It may be, and has a type. -/
def exOk (x : Ex) : Bool := exMay 16 x && exTy 16 x != 0
def exInt (x : Ex) (env : Env) : Int := if exOk x then (exDo 16 env x).n else 0
def exBool (x : Ex) (env : Env) : Bool := exOk x && (exDo 16 env x).b
theorem ruleTy_mem {k : Int × Int × Int × Int} (h : ruleTy k ≠ 0) : (k, ruleTy k) ∈ rulesL := by
  unfold ruleTy at *
  cases hf : rulesL.find? (fun r => r.1 == k) with
  | none => rw [hf] at h; exact absurd rfl h
  | some r =>
    have h1 := List.find?_some hf
    have h2 := List.mem_of_find?_eq_some hf
    simp only [beq_iff_eq] at h1
    simp only [Option.map_some, Option.getD_some]
    rw [← h1]; exact h2
/-- What a rule's kind may be, by its type and those of what it is of. -/
theorem ruleTy_cases {op a b c : Int} (h : ruleTy (op, a, b, c) ≠ 0) :
    (ruleTy (op, a, b, c) = 1 ∧ ((op = 1 ∨ op = 2 ∨ op = 3 ∨ op = 4) ∨ (op = 5 ∧ a = 1) ∨ ((op = 7 ∨ op = 8 ∨ op = 9 ∨ op = 10 ∨ op = 11) ∧ a = 1 ∧ b = 1) ∨ (op = 18 ∧ a = 2 ∧ b = 1 ∧ c = 1))) ∨
    (ruleTy (op, a, b, c) = 2 ∧ ((op = 6 ∧ a = 2) ∨ ((op = 16 ∨ op = 17 ∨ op = 14 ∨ op = 15) ∧ a = 2 ∧ b = 2) ∨ ((op = 12 ∨ op = 13 ∨ op = 14 ∨ op = 15) ∧ a = 1 ∧ b = 1) ∨ (op = 18 ∧ a = 2 ∧ b = 2 ∧ c = 2))) := by
  have h1 := ruleTy_mem h
  clear h
  generalize ruleTy (op, a, b, c) = t at *
  simp only [rulesL, List.mem_cons, List.not_mem_nil, or_false, Prod.mk.injEq] at h1
  rcases h1 with h1 | h1 | h1 | h1 | h1 | h1 | h1 | h1 | h1 | h1 | h1 | h1 | h1 | h1 | h1 | h1 | h1 | h1 | h1 | h1 | h1 <;>
    (obtain ⟨⟨rfl, rfl, rfl, rfl⟩, rfl⟩ := h1; decide)
theorem wrap_r64 (n : Int) : R64 (wrap64 n) := by unfold R64 wrap64; omega
theorem exMay_args {f : Nat} {op n : Int} {args : List Ex} (h : exMay (f + 1) (.mk op n args) = true) : arity op = args.length ∧ 0 ≤ n ∧ (n = 0 ∨ op = 1) ∧ ∀ a ∈ args, exMay f a = true := by
  simp only [exMay, Bool.and_eq_true, decide_eq_true_eq, List.all_eq_true] at h
  exact ⟨h.1.1.1, h.1.1.2, h.1.2, h.2⟩
theorem exTy_args {f : Nat} {op n : Int} {args : List Ex} (h : exTy (f + 1) (.mk op n args) ≠ 0) :
    (∀ a ∈ args, exTy f a ≠ 0) ∧ exTy (f + 1) (.mk op n args) = ruleTy (op, (args.map (exTy f)).getD 0 0, (args.map (exTy f)).getD 1 0, (args.map (exTy f)).getD 2 0) := by
  rw [exTy] at h ⊢
  by_cases hc : (args.map (exTy f)).contains 0 = true
  · rw [if_pos hc] at h; exact absurd rfl h
  · rw [if_neg hc]
    refine ⟨fun a ha e => hc ?_, rfl⟩
    simp only [List.contains_eq_mem, List.mem_map, decide_eq_true_eq]
    exact ⟨a, ha, e⟩
theorem tmany_tput {k : Int} {c : Cell} {g : Int} : ∀ {T : Tab}, Rises T → tmany (tput k c T) g = tmany T g + (if tget T k = none ∧ grp k = g then 1 else 0)
  | [], _ => by simp [tmany, tput, tget, List.countP_cons]
  | q :: r, h => by
    obtain ⟨h1, h2⟩ := List.pairwise_cons.1 h
    unfold tput
    split
    · rename_i hl
      have hne : k ≠ q.1 := fun e => by rw [e, lessB_irrefl] at hl; cases hl
      have ih := tmany_tput (k := k) (c := c) (g := g) h2
      have hg : tget (q :: r) k = tget r k := by
        have hf : (k == q.1) = false := by simp [hne]
        unfold tget; rw [List.find?_cons, hf]
      rw [hg]
      unfold tmany at *
      rw [List.countP_cons, List.countP_cons, ih]
      omega
    · rename_i hl
      split
      · rename_i he
        have hg : tget (q :: r) k ≠ none := by unfold tget; rw [List.find?_cons]; simp [he]
        rw [if_neg (fun h => hg h.1)]
        unfold tmany
        rw [List.countP_cons, List.countP_cons]
        simp only [he]
        omega
      · rename_i he
        have hkq : lessB k q.1 = true := (lessB_total he).resolve_left hl
        have hg : tget (q :: r) k = none := by
          rw [tget_none]
          unfold tkeys
          intro hm
          obtain ⟨p, hp, e⟩ := List.mem_map.1 hm
          rcases List.mem_cons.1 hp with rfl | hp
          · exact he e
          · have := lessB_trans hkq (h1 p hp); rw [e, lessB_irrefl] at this; cases this
        rw [hg]
        unfold tmany
        rw [List.countP_cons]
        simp
theorem TOk.tput {T : Tab} (h : TOk T) {k : Int} {c : Cell} (hk : R64 k) (hc : COk c) (hm : tget T k ≠ none ∨ tmany T (grp k) < 40) : TOk (tput k c T) := by
  refine ⟨h.rises.tput, fun p hp => ?_, fun p hp => ?_, fun g => ?_⟩
  · rcases (mem_tput h.rises).1 hp with rfl | hp
    · exact hk
    · exact h.key p hp.1
  · rcases (mem_tput h.rises).1 hp with rfl | hp
    · exact hc
    · exact h.cell p hp.1
  · rw [tmany_tput h.rises]
    split
    · rename_i hh
      obtain ⟨h1, rfl⟩ := hh
      have := hm.resolve_left (fun h => h h1)
      omega
    · have := h.many g; omega
/-- What Put answers. -/
def putE (T : Tab) (k : Int) (n : Nat) : Int := if 16 < n then 2 else if tget T k = none ∧ 40 ≤ tmany T (grp k) then 7 else 0
/-- What Put leaves. -/
def putT (T : Tab) (k : Int) (c : Cell) : Tab := if putE T k c.2.length = 0 then tput k c T else T
theorem TOk.tdrop {T : Tab} (h : TOk T) (k : Int) : TOk (tdrop k T) :=
  ⟨h.rises.tdrop, fun p hp => h.key p (mem_tdrop.1 hp).1, fun p hp => h.cell p (mem_tdrop.1 hp).1, fun g => Nat.le_trans (List.Sublist.countP_le List.filter_sublist) (h.many g)⟩
theorem tmany_sum (T : Tab) : T.length = tmany T 0 + tmany T 1 + tmany T 2 + tmany T 3 + tmany T 4 + tmany T 5 + tmany T 6 + tmany T 7 := by
  unfold tmany
  induction T with
  | nil => rfl
  | cons p r ih =>
    have h1 := grp_lo p.1
    have h2 := grp_hi p.1
    simp only [List.length_cons, List.countP_cons, ih]
    have h3 : grp p.1 = 0 ∨ grp p.1 = 1 ∨ grp p.1 = 2 ∨ grp p.1 = 3 ∨ grp p.1 = 4 ∨ grp p.1 = 5 ∨ grp p.1 = 6 ∨ grp p.1 = 7 := by omega
    rcases h3 with h | h | h | h | h | h | h | h <;> simp [h] <;> omega
theorem TOk.len {T : Tab} (h : TOk T) : T.length ≤ 320 := by
  have := tmany_sum T
  have := h.many 0; have := h.many 1; have := h.many 2; have := h.many 3; have := h.many 4; have := h.many 5; have := h.many 6; have := h.many 7
  omega
/-- A node: its kind, its expression, its number. -/
structure Nod where
  kind : Int
  x : Ex
  n : Int
def envOf (r : Rec) : Env := ⟨r.key, r.val, 0⟩
def flatL (r : Rec) (k : Nat) : List Rec := (List.range k).map fun (i : Nat) => (⟨wrap64 (wrap64 (8 * r.pos) + (i : Int)), r.key, wrap64 (r.val + (i : Int))⟩ : Rec)
def flatN (x : Int) : Nat := (min x 4).toNat
def sumW (l : List Int) : Int := l.foldl (fun a x => wrap64 (a + x)) 0
def cellOf (T : Tab) (k : Int) : Cell := (tget T k).getD (0, [])
/-- What a node makes of a record, and of its table. -/
def stepNode (nd : Nod) (T : Tab) (r : Rec) : List Rec × Tab :=
  if nd.kind = 2 then ([{ r with val := exInt nd.x (envOf r) }], T)
  else if nd.kind = 5 then ([{ r with key := exInt nd.x (envOf r) }], T)
  else if nd.kind = 3 then (if exBool nd.x (envOf r) then [r] else [], T)
  else if nd.kind = 4 then (flatL r (flatN (exInt nd.x (envOf r))), T)
  else if nd.kind = 6 then
    (if putE T r.key 0 = 0 then [{ r with val := exInt nd.x { envOf r with acc := (cellOf T r.key).1 } }] else [],
     putT T r.key (exInt nd.x { envOf r with acc := (cellOf T r.key).1 }, []))
  else if nd.kind = 7 then
    (if putE T r.key ((cellOf T r.key).2.length + 1) ≠ 0 ∨ (((cellOf T r.key).2.length + 1 : Nat) : Int) < nd.n then ([], putT T r.key ((cellOf T r.key).1, (cellOf T r.key).2 ++ [r.val]))
     else ([{ r with val := sumW ((cellOf T r.key).2 ++ [r.val]) }], tdrop r.key (putT T r.key ((cellOf T r.key).1, (cellOf T r.key).2 ++ [r.val]))))
  else ([r], T)
def doNode (nd : Nod) : Tab → List Rec → List Rec × Tab
  | T, [] => ([], T)
  | T, r :: l => ((stepNode nd T r).1 ++ (doNode nd (stepNode nd T r).2 l).1, (doNode nd (stepNode nd T r).2 l).2)
theorem doNode_snoc (nd : Nod) (r : Rec) : ∀ (l : List Rec) (T : Tab), doNode nd T (l ++ [r]) = ((doNode nd T l).1 ++ (stepNode nd (doNode nd T l).2 r).1, (stepNode nd (doNode nd T l).2 r).2)
  | [], T => by simp [doNode]
  | x :: l, T => by simp only [List.cons_append, doNode, doNode_snoc nd r l]; simp
structure EnvOk (env : Env) : Prop where
  key : R64 env.key
  val : R64 env.val
  acc : R64 env.acc
theorem zero_r64 : R64 0 := ⟨by omega, by omega⟩
structure RecOk (r : Rec) : Prop where
  pos : R64 r.pos
  key : R64 r.key
  val : R64 r.val
theorem envOf_ok {r : Rec} (h : RecOk r) : EnvOk (envOf r) := ⟨h.key, h.val, zero_r64⟩
def wideR (b : Nat) (r : Rec) : Rec := { r with pos := wrap64 (wrap64 (8 * r.pos) + (b : Int)) }
def wideL : Nat → List (List Rec) → List (List Rec)
  | _, [] => []
  | b, L :: LL => L.map (wideR b) :: wideL (b + 1) LL
def getsL (kind : Int) (LL : List (List Rec)) : List Rec := smerge (if kind = 8 then wideL 0 LL else LL).flatten
theorem wideL_length : ∀ (b : Nat) (LL : List (List Rec)), (wideL b LL).length = LL.length
  | _, [] => rfl
  | b, L :: LL => by simp [wideL, wideL_length (b + 1) LL]
theorem wideL_get : ∀ (b : Nat) (LL : List (List Rec)) (i : Nat), (wideL b LL)[i]? = LL[i]?.map (fun L => L.map (wideR (b + i)))
  | _, [], i => by simp [wideL]
  | b, L :: LL, 0 => by simp [wideL]
  | b, L :: LL, i + 1 => by
    simp only [wideL, List.getElem?_cons_succ, wideL_get (b + 1) LL i]
    congr 2; funext L; congr 2; omega
theorem wideL_flat : ∀ (b : Nat) (LL : List (List Rec)), (wideL b LL).flatten.length = LL.flatten.length
  | _, [] => rfl
  | b, L :: LL => by simp [wideL, wideL_flat (b + 1) LL]
end Go.Proofs.YtglbkodmmogomaaGreatDoor
