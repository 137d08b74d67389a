/-
  Small functions: the group of a key, cmp, slices.Clone of numbers, table.own.
-/
import Derived.Test.YtopeleenlcnkkaaGreatDoorProg
import Derived.Test.YtopeleenlcnkkaaGreatDoorM01
import Derived.Test.YtopeleenlcnkkaaGreatDoorM03
import Derived.Deep.LoopGhost
set_option linter.unusedVariables false
set_option linter.unusedSimpArgs false
namespace Go.Proofs.YtopeleenlcnkkaaGreatDoor
open Go Go.RowKit
theorem ret_int {k : IntKind} {a b : Int} (h : a = b) : Ending.returned (.int k a) = .returned (.int k b) := by rw [h]

theorem tmod8 (k : Int) : k.tmod 8 = if 0 ≤ k then k % 8 else -((-k) % 8) := tmod_eq_if k 8
set_option maxHeartbeats 400000 in
theorem of_any (k : Int) (w : World) :
    Calls Tryz.prog 60 #[.int .i64 k] w fun e w' => e = .returned (.int .i64 (grp k)) ∧ w = w' := by
  have h1 := tmod8 k
  have H := Lib.hid h1
  clear h1
  go_enter Tryz.func60, Tryz.ntmps60
  go_wp2
  · rename_i hlt
    go_ret
    refine ⟨ret_int ?_, rfl⟩
    have e := H.out
    unfold grp
    show wrap64 (k.tmod 8 + 8) = k % 8
    rw [IntWalk.wrap64_in _ ⟨by split at e <;> omega, by split at e <;> omega⟩]
    split at e <;> omega
  · rename_i hge
    go_ret
    refine ⟨ret_int ?_, rfl⟩
    have e := H.out
    unfold grp
    show k.tmod 8 = k % 8
    split at e <;> omega

/-- In memory of its own, the cells cs. -/
def OwnsNew (w : World) (E k : Nat) (cs : List Value) (e : Ending) (w' : World) : Prop :=
  ∃ v' n', e = .returned v' ∧ w'.ownsRow w.heap.size E k v' n' cs ∧ n' * k = cs.length ∧ Kept none' w w'

theorem Tryz.info2 : (Tryz.prog.info? 2).map (fun i => (i.zero, i.size, i.bytes)) = some (some (.int .i64 0), 1, 8) := by kernel_rfl
set_option maxRecDepth 100000 in
set_option maxHeartbeats 400000 in
theorem clone_int (v : Value) (cs : List Value) (w : World) (hr : Reads w 1 v cs) (h1 : ∀ x ∈ cs, x.oneCell' = true) (hlen : cs.length ≤ 17592186044416) :
    Calls Tryz.prog 119 #[v] w (OwnsNew w 2 1 cs) := by
  obtain ⟨i0, hi, hz0, hz1, hz2⟩ := info_parts Tryz.info2
  obtain ⟨a, n, cap, rfl, hn, hc, hl, hp, hcell⟩ := hr.slice
  have hnil := fun (w : World) a n c => Lib.run_eql_slice_nil (P := Tryz.prog) w 65 2 a n c 0 0 Tryz.underlying65
  cases a with
  | none =>
    have hcs : cs = [] := by
      rcases hp with rfl | h | ⟨b, off, h⟩
      · exact List.eq_nil_of_length_eq_zero (by simpa using hl)
      · cases h
      · cases h
    subst hcs
    clear hcell hp h1 hr
    go_enter Tryz.func119, Tryz.ntmps119
    go_wp2
    go_ret
    exact ⟨_, 0, rfl, World.ownsRow_nil _ _ _ _, rfl, Kept.refl _ _⟩
  | some ad =>
    have H := Lib.hid hr
    have HH := Lib.hid hl
    have HC := Lib.hid hlen
    clear hcell hp hr hl hlen
    go_enter Tryz.func119, Tryz.ntmps119
    have hnew : (w.alloc (.cells #[] 2)).ownsRow w.heap.size 2 1 (.slice (some ⟨w.heap.size, 0, none⟩) 0 0) 0 [] := World.ownsRow_made w #[] 0 (Nat.le_refl _) (Nat.zero_le _) rfl
    have hrd := H.out.pure ((Kept.refl none' w).alloc (.cells #[] 2))
    have N1 := Lib.hid hnew
    have N2 := Lib.hid hrd
    clear hnew hrd
    have B1 : Hid ((0 * 1 + cs.length) * 8 ≤ 140737488355328) := by have := HC.out; show (0 * 1 + cs.length) * 8 ≤ 140737488355328; omega
    have B2 : Hid (0 * 1 + cs.length ≤ maxLen) := by have := HC.out; show 0 * 1 + cs.length ≤ maxLen; unfold maxLen; omega
    go_wp2_with (at_builtin; (refine wpList_append_reads rfl (.tmp 5) (.tmp 6) 65 rfl w.heap.size 2 i0 (.int .i64 0) 1 8 Tryz.underlying65 hi hz0 hz1 hz2 rfl (by decide) _ 0 [] rfl N1.out _ cs rfl N2.out h1 B1.out B2.out (by simp) ?_); intro v' n' w' g1 g2 g3 g4)
    go_ret
    refine ⟨v', n', rfl, g1, by simpa using g2, ?_⟩
    exact ((Kept.refl none' w).alloc _).new (Kept.grown (S := one w.heap.size) g3 (fun k hk _ => by cases hk; rfl)) (fun k hk e => by unfold one at e; omega)

theorem owns_base {w : World} {base base' e size n : Nat} {v : Value} {xs : List Value} (h : w.ownsRow base e size v n xs) (hb : base' ≤ base) : w.ownsRow base' e size v n xs := by
  refine ⟨h.1, ?_⟩
  rcases h.2 with h2 | ⟨g, cap, cur, h1, h2, h3⟩
  · exact .inl h2
  · exact .inr ⟨g, cap, cur, h1, Nat.le_trans hb h2, h3⟩
theorem owns_slice {w : World} {base e size n : Nat} {v : Value} {xs : List Value} (h : w.ownsRow base e size v n xs) : ∃ a cap, v = .slice a n cap := by
  rcases h.2 with ⟨rfl, rfl⟩ | ⟨g, cap, cur, rfl, _⟩
  · exact ⟨_, _, rfl⟩
  · exact ⟨_, _, rfl⟩
/-- A cell whose row is in memory of its own. -/
def CellNew (w : World) (acc : Int) (cs : List Value) (e : Ending) (w' : World) : Prop :=
  ∃ v' n', e = .returned (.agg #[.int .i64 acc, v']) ∧ w'.ownsRow w.heap.size 2 1 v' n' cs ∧ n' * 1 = cs.length ∧ Kept none' w w'
set_option maxRecDepth 100000 in
set_option maxHeartbeats 400000 in
theorem own_any (acc : Int) (v : Value) (cs : List Value) (w : World) (hr : Reads w 1 v cs) (h1 : ∀ x ∈ cs, x.oneCell' = true) (hlen : cs.length ≤ 17592186044416) :
    Calls Tryz.prog 93 #[.agg #[.int .i64 acc, v]] w (CellNew w acc cs) := by
  obtain ⟨a, n, cap, rfl, hn, hc, hl, hp, hcell⟩ := hr.slice
  clear hcell hp hl
  have H := Lib.hid hr
  clear hr
  go_enter Tryz.func93, Tryz.ntmps93
  go_wp2_with fail
  obtain ⟨W0, hW0⟩ : ∃ W0, ((w.alloc (Obj.cells #[Value.int IntKind.i64 acc, Value.slice a n cap] 124)).alloc (Obj.cells #[Value.int IntKind.i64 0, Value.slice none 0 0] 124)) = W0 := ⟨_, rfl⟩
  have c0 : W0.cell? ⟨w.heap.size, 0, none⟩ = some (.int .i64 acc) := by rw [← hW0]; simp
  have c1 : W0.cell? ⟨w.heap.size, 1, none⟩ = some (.slice a n cap) := by rw [← hW0]; simp
  have c2 : W0.cell? ⟨w.heap.size + 1, 0, none⟩ = some (.int .i64 0) := by rw [← hW0]; simp
  have c3 : W0.cell? ⟨w.heap.size + 1, 1, none⟩ = some (.slice none 0 0) := by rw [← hW0]; simp
  have f2 : W0.frozen? ⟨w.heap.size + 1, 0, none⟩ = false := by rw [← hW0]; simp
  have f3 : W0.frozen? ⟨w.heap.size + 1, 1, none⟩ = false := by rw [← hW0]; simp
  have hs : W0.heap.size = w.heap.size + 2 := by rw [← hW0]; simp
  have hk0 : Kept none' w W0 := by rw [← hW0]; exact ((Kept.refl _ _).alloc _).alloc _
  rw [hW0]; clear hW0
  refine wp_region_eager [0, 1, 2, 3, 4, 5, 6] (fun W => Kept none' W0 W) (by kernel_rfl) (by kernel_rfl) rfl (Kept.refl _ _).drew ?_
  simp only [List.map_cons, List.map_nil, List.getElem?_toArray, List.getElem?_cons_zero, List.getElem?_cons_succ, Option.getD_some]
  iterate 4 (apply wpL_float rfl rfl; (intro W hW; have hc := hW.cq; go_simp; rfl); go_frame)
  apply wpL_loud rfl rfl
  intro K hK
  go_wp2_with fail
  refine (clone_int _ cs _ (H.out.pure (hk0.drew)) h1 hlen).mono ?_
  rintro e w1 ⟨v', n', rfl, g1, g2, g3⟩
  obtain ⟨a', cap', rfl⟩ := owns_slice g1
  have k1 : Kept none' W0 w1 := g3.drew_left
  go_wp2_with fail
  refine hK _ _ (fun _ => k1) ?_
  apply wpL_float rfl rfl
  · intro W hW; have hc := hW.cq; go_simp; rfl
  go_frame
  apply wpL_loud rfl rfl
  intro K2 hK2
  have hc := k1.cq
  have hf := k1.fq
  go_wp2_with fail
  refine hK2 _ _ (fun h => absurd rfl h) (wpL_bar (by kernel_rfl) ?_)
  go_wp2_with fail
  have hs1 : W0.heap.size ≤ w1.heap.size := k1.size
  have q0 := k1.cell (p := ⟨w.heap.size + 1, 0, none⟩) (fun h => h) c2
  have q1 := k1.cell (p := ⟨w.heap.size + 1, 1, none⟩) (fun h => h) c3
  refine bodyPost_ret (v := .agg #[.int .i64 acc, .slice a' n' cap']) (by simp [results, Tryz.results93, go_sem, q0, q1]) rfl ⟨_, n', rfl, ?_, g2, ?_⟩
  · refine owns_base (base := W0.heap.size) ?_ (by omega)
    exact (((Kept.refl (fun k => k < W0.heap.size) w1).setCell (p := ⟨w.heap.size + 1, 0, none⟩) (.inl (by simp; omega)) _).setCell (p := ⟨w.heap.size + 1, 1, none⟩) (.inl (by simp; omega)) _).owns g1
      (fun k hk h => by have := (g1.lt k hk).1; simp at this; omega)
  · exact ((hk0.trans k1).setCell (p := ⟨w.heap.size + 1, 0, none⟩) (.inr (by simp)) _).setCell (p := ⟨w.heap.size + 1, 1, none⟩) (.inr (by simp)) _
end Go.Proofs.YtopeleenlcnkkaaGreatDoor
/-
  Tables in memory; how many keys of a group they have.
-/
namespace Go.Proofs.YtopeleenlcnkkaaGreatDoor
open Go Go.RowKit
def ints (l : List Int) : List Value := l.map (Value.int .i64)
theorem ints_one (l : List Int) : ∀ x ∈ ints l, x.oneCell' = true := by
  intro x hx
  obtain ⟨n, _, rfl⟩ := List.mem_map.1 hx
  rfl
@[simp] theorem ints_length (l : List Int) : (ints l).length = l.length := by simp [ints]
/-- From block B on. -/
abbrev up (B : Nat) : Nat → Prop := fun k => B ≤ k
theorem Kept.up {S : Nat → Prop} {w w' : World} (h : Kept S w w') : ∀ k, w'.heap.size ≤ k → up w.heap.size k := fun _ hk => Nat.le_trans h.size hk
def CellIs (w : World) (B : Nat → Prop) (v : Value) (c : Cell) : Prop :=
  ∃ lv, v = .agg #[.int .i64 c.1, lv] ∧ Reads w 1 lv (ints c.2) ∧ ∀ b, Value.blk lv = some b → B b
/-- A table whose cells stand in map m, its struct in block b, all its memory from block B on. -/
structure TabAt (w : World) (B : Nat → Prop) (b m : Nat) (T : Tab) : Prop where
  hb : B b
  hm : B m
  obj : w.heap[b]? = some (.cells #[.map (some m)] 129 (0, 0))
  map : ∃ l, MapL w m l ∧ (l.map (·.1)).Perm (tkeys T) ∧ ∀ p ∈ l, ∃ c, (p.1, c) ∈ T ∧ CellIs w B p.2 c
  ok : TOk T
theorem Reads.isCells {w : World} {v : Value} {cs : List Value} {k b : Nat} (h : Reads w k v cs) (hk : 0 < k) (hb : Value.blk v = some b) : ∃ c E f, w.heap[b]? = some (.cells c E f) := by
  obtain ⟨a, n, cap, rfl, h1, h2, h3, h4⟩ := h
  have hn : n ≠ 0 := by
    intro h; subst h
    cases a <;> simp [Value.blk] at hb
  have hlen : 0 < cs.length := by rw [h3]; exact Nat.mul_pos (by omega) hk
  rcases h4 with rfl | ⟨b', off, rfl, h4⟩
  · simp at hlen
  · simp [Value.blk, hn] at hb
    subst hb
    have := h4 0 (cs[0]) (by simp)
    unfold World.cell? at this
    split at this
    · rename_i c E f he; exact ⟨c, E, f, he⟩
    · cases this
/-- S holds no cells of B. -/
def NoCells (w : World) (S : Nat → Prop) (B : Nat → Prop) : Prop := ∀ k, S k → B k → k < w.heap.size → ∀ c E f, w.heap[k]? ≠ some (.cells c E f)
theorem NoCells.none (w : World) (B : Nat → Prop) : NoCells w none' B := fun _ h => h.elim
theorem NoCells.map {w : World} {m : Nat} {l : List (Int × Value)} (h : MapL w m l) (B : Nat → Prop) : NoCells w (one m) B := by
  intro k hk _ _ c E f e
  cases hk
  obtain ⟨L, clock, h, _⟩ := h
  rw [h.heap] at e; cases e
theorem NoCells.iter {w : World} {r m : Nat} {l left : List (Int × Value)} (h : IterL w r m l left) (B : Nat → Prop) : NoCells w (one r) B := by
  intro k hk _ _ c E f e
  cases hk
  obtain ⟨L, clock, seen, _, _, h, _⟩ := h
  rw [h] at e; cases e
theorem CellIs.kept {w w' : World} {B : Nat → Prop} {v : Value} {c : Cell} {S : Nat → Prop} (h : CellIs w B v c) (hk : Kept S w w') (hS : NoCells w S B) : CellIs w' B v c := by
  obtain ⟨lv, h1, h2, h3⟩ := h
  refine ⟨lv, h1, h2.kept hk (fun b hb hs => ?_), h3⟩
  obtain ⟨c, E, f, he⟩ := h2.isCells (by decide) hb
  exact hS b hs (h3 b hb) (Array.getElem?_eq_some_iff.1 he).1 c E f he
theorem CellIs.mono {w : World} {B B' : Nat → Prop} {v : Value} {c : Cell} (h : CellIs w B v c) (hB : ∀ k, B k → k < w.heap.size → B' k) : CellIs w B' v c := by
  obtain ⟨lv, h1, h2, h3⟩ := h
  refine ⟨lv, h1, h2, fun b hb => hB b (h3 b hb) ?_⟩
  obtain ⟨c, E, f, he⟩ := h2.isCells (by decide) hb
  exact (Array.getElem?_eq_some_iff.1 he).1
theorem TabAt.kept {w w' : World} {B : Nat → Prop} {b m : Nat} {T : Tab} {S : Nat → Prop} (h : TabAt w B b m T) (hk : Kept S w w') (hS : NoCells w S B) (hm : ¬ S m) : TabAt w' B b m T := by
  obtain ⟨h1, h2, h3, ⟨l, h4, h5, h6⟩, h7⟩ := h
  refine ⟨h1, h2, hk.heap h3 (fun hs => hS b hs h1 (Array.getElem?_eq_some_iff.1 h3).1 _ _ _ h3), ⟨l, h4.kept hk hm, h5, fun p hp => ?_⟩, h7⟩
  obtain ⟨c, hc, hcc⟩ := h6 p hp
  exact ⟨c, hc, hcc.kept hk hS⟩
theorem TabAt.pure {w w' : World} {B : Nat → Prop} {b m : Nat} {T : Tab} (h : TabAt w B b m T) (hk : Kept none' w w') : TabAt w' B b m T := h.kept hk (.none _ _) (fun h => h)
theorem TabAt.mono {w : World} {B B' : Nat → Prop} {b m : Nat} {T : Tab} (h : TabAt w B b m T) (hB : ∀ k, B k → k < w.heap.size → B' k) : TabAt w B' b m T := by
  obtain ⟨h1, h2, h3, ⟨l, h4, h5, h6⟩, h7⟩ := h
  have hm : m < w.heap.size := h4.lt
  refine ⟨hB b h1 (Array.getElem?_eq_some_iff.1 h3).1, hB m h2 hm, h3, ⟨l, h4, h5, fun p hp => ?_⟩, h7⟩
  obtain ⟨c, hc, hcc⟩ := h6 p hp
  exact ⟨c, hc, hcc.mono hB⟩
theorem TabAt.cell {w : World} {B : Nat → Prop} {b m : Nat} {T : Tab} (h : TabAt w B b m T) : w.cell? ⟨b, 0, none⟩ = some (.map (some m)) := by
  rw [cell_of_row w b 0 _ _ _ h.obj]; rfl
theorem tmany_perm {T : Tab} {l : List Int} (h : l.Perm (tkeys T)) (g : Int) : l.countP (fun k => grp k == g) = tmany T g := by
  rw [h.countP_eq]
  unfold tkeys tmany
  rw [List.countP_map]
  rfl
/-- The end of a call that turns nothing. -/
def Gives (w : World) (v : Value) (e : Ending) (w' : World) : Prop := e = .returned v ∧ Kept none' w w'
set_option maxRecDepth 100000 in
set_option maxHeartbeats 400000 in
theorem many_any (B : Nat → Prop) (b m : Nat) (T : Tab) (g : Int) (w : World) (h : TabAt w B b m T) :
    Calls Tryz.prog 59 #[.pointer (some ⟨b, 0, none⟩), .int .i64 g] w (Gives w (.int .i64 (tmany T g))) := by
  have hcell := h.cell
  obtain ⟨l, hl, hperm, hcs⟩ := h.map
  obtain ⟨w0, hrun, hit, hk0, hs0⟩ := hl.range (P := Tryz.prog) Tryz.underlying127
  have hmany := h.ok.many g
  have IT := Lib.hid hit
  have HS := Lib.hid hs0
  have HP := Lib.hid (tmany_perm hperm g)
  clear hit hs0 hperm hcs hl h
  go_enter Tryz.func59, Tryz.ntmps59
  go_wp2
  go_loopg [5] l.length (fun k i wr => ∃ left c, IterL wr w.heap.size m l left ∧ left.length = k ∧ i = .int .i64 ((c : Nat) : Int) ∧ c + (left.map (·.1)).countP (fun k => grp k == g) = tmany T g ∧ Kept none' w wr)
  case atStart => exact ⟨l, 0, IT.out, rfl, rfl, by rw [← HP.out]; simp, hk0⟩
  case round =>
    obtain ⟨left, c, hit, hlen, rfl, hsum, hk⟩ := hrel
    have hc : c ≤ 40 := by omega
    have A := Lib.hid (And.intro hlen hsum)
    clear hlen hsum hmany
    rcases hit.next (P := Tryz.prog) 0 with ⟨rfl, hrun⟩ | ⟨p, left', w2, hp, hrun, hit2, hk2, hs2, hen⟩
    · clear hit
      go_wp2
      go_ret
      exact ⟨ret_int (by have := A.out.2; simp at this; omega), hk⟩
    · clear hit
      have I2 := Lib.hid hit2
      have HP := Lib.hid hp
      clear hit2 hs2 hp
      have hk3 : Kept none' w w2 := hk.new hk2 (fun k hk e => by unfold one at e; omega)
      clear hk2
      go_wp2_with (go_at_call 60; refine (of_any _ _).mono ?_; rintro e w' ⟨rfl, rfl⟩)
      · rename_i hg
        go_roundg left'.length
        case rel =>
          refine ⟨left', c + 1, I2.out, rfl, by go_num, ?_, hk3⟩
          have h1 := (HP.out.map (·.1)).countP_eq (fun k => grp k == g)
          rw [List.map_cons, List.countP_cons, if_pos hg] at h1
          have h2 := A.out.2
          omega
        case measure =>
          have h1 := HP.out.length_eq
          have h2 := A.out.1
          simp at h1
          omega
      · rename_i hg
        go_roundg left'.length
        case rel =>
          refine ⟨left', c, I2.out, rfl, rfl, ?_, hk3⟩
          have h1 := (HP.out.map (·.1)).countP_eq (fun k => grp k == g)
          rw [List.map_cons, List.countP_cons, if_neg (by rw [hg]; simp)] at h1
          have h2 := A.out.2
          omega
        case measure =>
          have h1 := HP.out.length_eq
          have h2 := A.out.1
          simp at h1
          omega
theorem new_any (w : World) : Calls Tryz.prog 54 #[] w fun e w' => ∃ b m, e = .returned (.pointer (some ⟨b, 0, none⟩)) ∧ TabAt w' (up w.heap.size) b m [] ∧ Kept none' w w' := by
  have hmm := @run_makeMap Tryz.prog
  go_enter Tryz.func54, Tryz.ntmps54
  go_wp2
  go_ret
  refine ⟨w.heap.size + 1, w.heap.size, rfl, ⟨Nat.le_succ _, Nat.le_refl _, ?_, ⟨[], ?_, by simp [tkeys], by simp⟩, ⟨by simp [Rises], by simp, by simp, fun g => by simp [tmany]⟩⟩, ?_⟩
  · have := heap_alloc_new (w.alloc (.map #[] 0)) (.cells #[.map (some w.heap.size)] 129)
    rwa [World.size_alloc] at this
  · exact (MapL.made w).kept ((Kept.refl none' _).alloc _) (fun h => h)
  · exact ((Kept.refl none' _).alloc _).alloc _
end Go.Proofs.YtopeleenlcnkkaaGreatDoor
/-
  RECORDS IN PLAIN WORDS: what it is to be merged: in order of places, those of one place as they came.
-/
namespace Go.Proofs.YtopeleenlcnkkaaGreatDoor
/-- A record: its place, its key, its number. -/
structure Rec where
  pos : Int
  key : Int
  val : Int
deriving DecidableEq
instance : Inhabited Rec := ⟨⟨0, 0, 0⟩⟩
/-- Of each place the records are the same, in the same order. -/
def Same (L M : List Rec) : Prop := ∀ p : Int, L.filter (fun r => r.pos == p) = M.filter (fun r => r.pos == p)
def Sorted (L : List Rec) : Prop := L.Pairwise fun a b => a.pos ≤ b.pos
theorem Same.refl (L : List Rec) : Same L L := fun _ => rfl
theorem Same.symm {L M : List Rec} (h : Same L M) : Same M L := fun p => (h p).symm
theorem Same.trans {L M N : List Rec} (h : Same L M) (k : Same M N) : Same L N := fun p => (h p).trans (k p)
theorem Same.append {L L' M M' : List Rec} (h : Same L L') (k : Same M M') : Same (L ++ M) (L' ++ M') := fun p => by rw [List.filter_append, List.filter_append, h p, k p]
theorem Same.mem {L M : List Rec} (h : Same L M) {r : Rec} : r ∈ L ↔ r ∈ M := by
  have e : ∀ K : List Rec, r ∈ K ↔ r ∈ K.filter (fun x => x.pos == r.pos) := fun K => by simp
  rw [e L, e M, h r.pos]
theorem Same.nil {L : List Rec} (h : Same [] L) : L = [] := by
  cases L with
  | nil => rfl
  | cons x L => exact absurd (h.mem.2 (List.mem_cons_self (a := x) (l := L))) (by simp)
theorem Same.length {L M : List Rec} (h : Same L M) : L.length = M.length := by
  have hp : ∀ (L M : List Rec), Same L M → L.Perm M := by
    intro L M h
    rw [List.perm_iff_count]
    intro r
    have e : ∀ K : List Rec, K.count r = (K.filter (fun x => x.pos == r.pos)).count r := fun K => (List.count_filter (by simp)).symm
    rw [e L, e M, h r.pos]
  exact (hp L M h).length_eq
theorem Sorted.append {A B : List Rec} (hA : Sorted A) (hB : Sorted B) (h : ∀ a ∈ A, ∀ b ∈ B, a.pos ≤ b.pos) : Sorted (A ++ B) := List.pairwise_append.2 ⟨hA, hB, h⟩
theorem Sorted.left {A B : List Rec} (h : Sorted (A ++ B)) : Sorted A := (List.pairwise_append.1 h).1
theorem Sorted.right {A B : List Rec} (h : Sorted (A ++ B)) : Sorted B := (List.pairwise_append.1 h).2.1
theorem Sorted.le {A B : List Rec} (h : Sorted (A ++ B)) : ∀ a ∈ A, ∀ b ∈ B, a.pos ≤ b.pos := (List.pairwise_append.1 h).2.2
/-- What merging makes. -/
def smerge (L : List Rec) : List Rec := L.mergeSort fun x y => decide (x.pos ≤ y.pos)
theorem smerge_sorted (L : List Rec) : Sorted (smerge L) := by
  have := List.pairwise_mergeSort (le := fun x y : Rec => decide (x.pos ≤ y.pos)) (fun a b c h k => by simp at *; omega) (fun a b => by simp; omega) L
  exact this.imp (fun h => by simpa using h)
theorem smerge_same (L : List Rec) : Same L (smerge L) := by
  intro p
  have hs : (L.filter (fun r => r.pos == p)).Sublist (smerge L) := by
    refine List.sublist_mergeSort (fun a b c h k => by simp at *; omega) (fun a b => by simp; omega) ?_ List.filter_sublist
    refine List.pairwise_of_forall_mem_list (fun a ha b hb => ?_)
    have h1 : a.pos = p := by simpa using (List.mem_filter.1 ha).2
    have h2 : b.pos = p := by simpa using (List.mem_filter.1 hb).2
    simp; omega
  have h2 := hs.filter (fun r => r.pos == p)
  rw [List.filter_filter] at h2
  simp only [Bool.and_self] at h2
  refine h2.eq_of_length ?_
  exact ((List.mergeSort_perm L _).filter _).length_eq.symm
theorem smerge_length (L : List Rec) : (smerge L).length = L.length := (smerge_same L).length.symm
theorem mem_smerge {L : List Rec} {r : Rec} : r ∈ smerge L ↔ r ∈ L := (smerge_same L).mem.symm
end Go.Proofs.YtopeleenlcnkkaaGreatDoor
