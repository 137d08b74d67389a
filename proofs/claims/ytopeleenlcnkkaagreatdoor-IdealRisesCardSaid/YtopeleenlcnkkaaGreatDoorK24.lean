/-
  The runes of a text, and a walk over them.
-/
import Derived.Test.YtopeleenlcnkkaaGreatDoorK02
import Derived.Test.YtopeleenlcnkkaaGreatDoorK23
import Derived.Test.YtopeleenlcnkkaaGreatDoorK07
import Derived.Test.YtopeleenlcnkkaaGreatDoorK16
namespace Go.Proofs.YtopeleenlcnkkaaGreatDoor
open Go Go.RowKit
/-- The runes of a text from a place on: where each begins, and which it is. -/
def runesFrom (s : ByteArray) : Nat → Nat → List (Nat × Nat)
  | 0, _ => []
  | f + 1, i => if i < s.size then (i, (Utf8.decode s i).1) :: runesFrom s f (i + (Utf8.decode s i).2) else []
def runes (s : ByteArray) : List (Nat × Nat) := runesFrom s s.size 0
theorem decode_wide (s : ByteArray) (pos : Nat) (h : pos < s.size) : 1 ≤ (Utf8.decode s pos).2 := by
  by_cases ha : (s[pos]'h).toNat < 128
  · rw [decode_ascii s pos h ha]; exact Nat.le_refl _
  · exact (decode_high s pos h (by omega)).2
theorem runesFrom_length (s : ByteArray) : ∀ f i, (runesFrom s f i).length ≤ f
  | 0, _ => Nat.zero_le _
  | f + 1, i => by
    unfold runesFrom
    split
    · rw [List.length_cons]; have := runesFrom_length s f (i + (Utf8.decode s i).2); omega
    · exact Nat.zero_le _
theorem runes_length (s : ByteArray) : (runes s).length ≤ s.size := runesFrom_length s _ _
theorem runesFrom_in (s : ByteArray) : ∀ f i p, p ∈ runesFrom s f i → i ≤ p.1 ∧ p.1 < s.size ∧ p.2 ≤ 2147483647
  | 0, _, _, h => by cases h
  | f + 1, i, p, h => by
    unfold runesFrom at h
    split at h
    · rename_i hi
      rcases List.mem_cons.1 h with rfl | h
      · exact ⟨Nat.le_refl _, hi, decode_le s i⟩
      · have := runesFrom_in s f _ p h
        exact ⟨by omega, this.2⟩
    · cases h
theorem runes_in {s : ByteArray} {p : Nat × Nat} (h : p ∈ runes s) : p.1 < s.size ∧ p.2 ≤ 2147483647 := (runesFrom_in s _ _ p h).2
/-- Block r is a walk over s, of whose runes 'left' are still to come. -/
def RunAt (w : World) (r : Nat) (s : ByteArray) (left : List (Nat × Nat)) : Prop :=
  ∃ pos f, w.heap[r]? = some (.stringIter s pos) ∧ s.size ≤ pos + f ∧ runesFrom s f pos = left
theorem RunAt.lt {w : World} {r : Nat} {s : ByteArray} {left : List (Nat × Nat)} (h : RunAt w r s left) : r < w.heap.size := by
  obtain ⟨pos, f, h, _⟩ := h
  exact (Array.getElem?_eq_some_iff.1 h).1
theorem RunAt.kept {w w' : World} {r : Nat} {s : ByteArray} {left : List (Nat × Nat)} {S : Nat → Prop} (h : RunAt w r s left) (hk : Kept S w w') (hr : ¬ S r) : RunAt w' r s left := by
  obtain ⟨pos, f, h1, h2, h3⟩ := h
  exact ⟨pos, f, hk.heap h1 hr, h2, h3⟩
theorem RunAt.notCells {w : World} {r : Nat} {s : ByteArray} {left : List (Nat × Nat)} (h : RunAt w r s left) : ∀ c E f, w.heap[r]? ≠ some (.cells c E f) := by
  obtain ⟨pos, f, h, _⟩ := h
  intro c E g e
  rw [h] at e; cases e
section
variable {P : Program}
theorem run_range_str (w : World) (t : TypeId) (s : ByteArray) (h : P.underlying t = some .string) :
    ∃ w', (Instr.range t (.string s)).run P w = .ok (.pointer (some ⟨w.heap.size, 0, none⟩)) w' ∧ RunAt w' w.heap.size s (runes s) ∧ Kept none' w w' ∧ w'.heap.size = w.heap.size + 1 :=
  ⟨w.iter s 0, run_range_string w t s h, ⟨0, s.size, World.iter_heap w s 0, by omega, rfl⟩, (Kept.refl _ _).alloc _, by simp [World.iter]⟩
theorem RunAt.next {w : World} {r : Nat} {s : ByteArray} {left : List (Nat × Nat)} (h : RunAt w r s left) (ty : TypeId) :
    (left = [] ∧ (Instr.next (.pointer (some ⟨r, 0, none⟩)) true ty).run P w = .ok (.tuple #[.bool false]) w) ∨
    ∃ p left' w', left = p :: left' ∧ (Instr.next (.pointer (some ⟨r, 0, none⟩)) true ty).run P w = .ok (.tuple #[.bool true, .int .i64 p.1, .int .i32 p.2]) w' ∧ RunAt w' r s left' ∧ Kept (one r) w w' ∧ w'.heap.size = w.heap.size := by
  obtain ⟨pos, f, h1, h2, rfl⟩ := h
  have hr : r < w.heap.size := (Array.getElem?_eq_some_iff.1 h1).1
  by_cases hp : pos < s.size
  · right
    cases f with
    | zero => omega
    | succ f =>
      have hw := decode_wide s pos hp
      refine ⟨(pos, (Utf8.decode s pos).1), runesFrom s f (pos + (Utf8.decode s pos).2), { w with heap := w.heap.setIfInBounds r (.stringIter s (pos + (Utf8.decode s pos).2)) }, ?_, ?_, ⟨_, f, ?_, by omega, rfl⟩, ⟨rfl, rfl, rfl, by simp, fun k _ hk => ?_⟩, by simp⟩
      · rw [runesFrom, if_pos hp]
      · simp [Instr.next, getObj, setObj, Sem.run, h1, hp, goInt]
      · simp [hr]
      · rw [setObj_heap _ (fun e => hk e.symm)]
  · left
    refine ⟨?_, ?_⟩
    · cases f with
      | zero => rfl
      | succ f => rw [runesFrom, if_neg hp]
    · simp [Instr.next, getObj, Sem.run, h1, hp]
end
end Go.Proofs.YtopeleenlcnkkaaGreatDoor
/-
  JOBS IN PLAIN WORDS: names, nodes, whether a job may be, ideals, what is fed, states, what is carried.
-/
namespace Go.Proofs.YtopeleenlcnkkaaGreatDoor
open Go Go.RowKit
instance baDec : DecidableEq ByteArray := fun a b => decidable_of_iff (a.data = b.data) ⟨fun h => by cases a; cases b; simp_all, fun h => by rw [h]⟩
theorem ba_beq (a b : ByteArray) : (a == b) = decide (a = b) := by
  have h : (a == b) = (a.data == b.data) := by cases a; cases b; rfl
  rw [h]
  by_cases e : a = b
  · subst e; simp
  · rw [decide_eq_false e]
    refine Bool.eq_false_iff.2 fun hd => e ?_
    have := eq_of_beq hd
    cases a; cases b; simp_all
instance baLawful : LawfulBEq ByteArray where
  eq_of_beq h := by rw [ba_beq] at h; exact of_decide_eq_true h
  rfl := fun {a} => (ba_beq a a).trans (decide_eq_true rfl)
/-- Runes of names. -/
def letterB (r : Nat) : Bool := (decide (97 ≤ r) && decide (r ≤ 122)) || (decide (65 ≤ r) && decide (r ≤ 90)) || (decide (191 < r) && r != 65533)
def laterB (r : Nat) : Bool := letterB r || (decide (48 ≤ r) && decide (r ≤ 57)) || r == 45
def nameL : List (Nat × Nat) → Bool
  | [] => false
  | p :: l => letterB p.2 && (p :: l).all (fun q => laterB q.2) && decide ((p :: l).length ≤ 24)
def nameOk (s : ByteArray) : Bool := nameL (runes s)
/-- A node of a job. -/
structure JN where
  uid : ByteArray
  kind : Int
  ins : List Int
  x : Ex
  n : Int
instance : Inhabited JN := ⟨⟨ByteArray.empty, 0, [], default, 0⟩⟩
def JN.nod (d : JN) : Nod := ⟨d.kind, d.x, d.n⟩
structure Jb where
  par : Int
  nodes : List JN
def exNone (x : Ex) : Bool := x.op == 0 && x.n == 0 && x.args.isEmpty
mutual
/-- Is there an acc in an expression? -/
def exAccs : Ex → Bool
  | .mk o _ l => o == 4 || exAccsL l
def exAccsL : List Ex → Bool
  | [] => false
  | x :: l => exAccs x || exAccsL l
end
theorem exAccsL_any : ∀ l : List Ex, exAccsL l = l.any exAccs
  | [] => by simp [exAccsL]
  | x :: l => by simp [exAccsL, exAccsL_any l]
/-- Its type and the error of its kind. -/
def kindA (x : Ex) (acc : Bool) : Int × Int :=
  if exMay 16 x = false then (0, 2) else if acc = false ∧ exAccs x = true then (0, 90) else if exTy 16 x = 0 then (0, 91) else (exTy 16 x, 0)
def exIs (x : Ex) (acc : Bool) (ty : Int) : Bool := (kindA x acc).2 == 0 && (kindA x acc).1 == ty
def goodIns (ins : List Int) (at_ : Nat) : Bool := decide ins.Nodup && ins.all fun k => decide (0 ≤ k) && decide (k < (at_ : Int))
def mayN (at_ : Nat) (d : JN) : Bool := mayP (nameOk d.uid) d.kind d.ins.length (goodIns d.ins at_) (exNone d.x) (fun acc ty => exIs d.x acc ty) d.n
def wayOf (W : List Int) (d : JN) : Int := if d.kind = 1 then 1 else (d.ins.map fun k => W.getD k.toNat 0).sum * (if d.kind = 4 then 4 else 1)
def waysL (nodes : List JN) : List Int := nodes.foldl (fun W d => W ++ [wayOf W d]) []
def readersN (nodes : List JN) (i : Nat) : Nat := nodes.countP fun d => d.ins.contains (i : Int)
def flatsN (nodes : List JN) (i : Nat) : Nat := (nodes.take (i + 1)).countP fun d => d.kind == 4
def shapeBad (nodes : List JN) (i : Nat) (d : JN) : Bool :=
  (decide (d.kind = 1) != decide (i = 0)) || (decide (d.kind = 9) != decide (i + 1 = nodes.length)) || (decide (readersN nodes i = 0) != decide (i + 1 = nodes.length)) ||
    decide (3 < readersN nodes i) || decide (2 < flatsN nodes i) || decide (64 < (waysL nodes).getD i 0)
def headBad (j : Jb) : Bool := decide (j.par < 1) || decide (4 < j.par) || decide (j.nodes.length < 2) || decide (12 < j.nodes.length) || decide (1000 < 1001 - cntL (j.nodes.map (·.x)) 1001)
def uidBad (nodes : List JN) (i : Nat) (d : JN) : Bool := decide (d.uid ∈ (nodes.take i).map fun e : JN => e.uid)
/-- A job may be. -/
def jobOk (j : Jb) : Bool := !headBad j && (List.range j.nodes.length).all fun i => mayN i (j.nodes.getD i default) && !uidBad j.nodes i (j.nodes.getD i default) && !shapeBad j.nodes i (j.nodes.getD i default)
theorem jobOk_get {j : Jb} (h : jobOk j = true) : headBad j = false ∧ ∀ i d, j.nodes[i]? = some d → mayN i d = true ∧ uidBad j.nodes i d = false ∧ shapeBad j.nodes i d = false := by
  unfold jobOk at h
  rw [Bool.and_eq_true, List.all_eq_true] at h
  refine ⟨by simpa using h.1, fun i d hd => ?_⟩
  have hi : i < j.nodes.length := (List.getElem?_eq_some_iff.1 hd).1
  have := h.2 i (List.mem_range.2 hi)
  rw [List.getD_eq_getElem?_getD, hd] at this
  simpa [and_assoc] using this
theorem jobOk_mk {j : Jb} (h0 : headBad j = false) (h : ∀ i d, j.nodes[i]? = some d → mayN i d = true ∧ uidBad j.nodes i d = false ∧ shapeBad j.nodes i d = false) : jobOk j = true := by
  unfold jobOk
  rw [Bool.and_eq_true, List.all_eq_true]
  refine ⟨by simp [h0], fun i hi => ?_⟩
  have hi := List.mem_range.1 hi
  have := h i _ (List.getElem?_eq_getElem hi)
  rw [List.getD_eq_getElem?_getD, List.getElem?_eq_getElem hi]
  simpa [and_assoc] using this
def stateful (k : Int) : Bool := k == 6 || k == 7
def findJ (nodes : List JN) (uid : ByteArray) : Int := match nodes.findIdx? (fun d => decide (d.uid = uid)) with | some i => (i : Int) | none => -1
/-! ### Ideals -/
abbrev Tabs := List (Option Tab)
abbrev St := ByteArray × ByteArray
def fitsCell (kind n : Int) (c : Cell) : Bool := !(decide (kind = 6) && decide (0 < c.2.length)) && !(decide (kind = 7) && (decide (c.1 ≠ 0) || decide (c.2.length < 1) || decide (n ≤ (c.2.length : Int))))
def fitsP (kind n : Int) (T : Tab) : Bool := stateful kind && T.all fun p => fitsCell kind n p.2
def feedStep (nodes : List JN) (r : Rec) (st : List (List Rec) × Tabs) (i : Nat) : List (List Rec) × Tabs :=
  (st.1 ++ [(doNode (nodes.getD i default).nod ((st.2.getD i none).getD []) (if i = 0 then [r] else getsL (nodes.getD i default).kind ((nodes.getD i default).ins.map fun k => st.1.getD k.toNat []))).1],
   st.2.set i ((st.2.getD i none).map fun _ => (doNode (nodes.getD i default).nod ((st.2.getD i none).getD []) (if i = 0 then [r] else getsL (nodes.getD i default).kind ((nodes.getD i default).ins.map fun k => st.1.getD k.toNat []))).2))
def feedK (nodes : List JN) (r : Rec) (Ts : Tabs) : Nat → List (List Rec) × Tabs
  | 0 => ([], Ts)
  | k + 1 => feedStep nodes r (feedK nodes r Ts k) k
/-- What comes out of a record, and the tables behind it. -/
def feedP (nodes : List JN) (Ts : Tabs) (key val : Int) : List Rec × Tabs :=
  (smerge ((feedK nodes ⟨1, key, val⟩ Ts nodes.length).1.getD (nodes.length - 1) []), (feedK nodes ⟨1, key, val⟩ Ts nodes.length).2)
def fillL (nodes : List JN) (Ts : Tabs) : Tabs := List.zipWith (fun (d : JN) (t : Option Tab) => if t.isNone && stateful d.kind then some [] else t) nodes Ts
end Go.Proofs.YtopeleenlcnkkaaGreatDoor
/-
  slices.Contains, Index at ints and strings; job: twice, Stateful.
-/
namespace Go.Proofs.YtopeleenlcnkkaaGreatDoor
open Go Go.RowKit
def IdxQ (w : World) (l : List Int) (g : Int) (e : Ending) (w' : World) : Prop := ∃ n : Int, e = .returned (.int .i64 n) ∧ (0 ≤ n ↔ g ∈ l) ∧ w = w'
set_option maxRecDepth 100000 in
set_option maxHeartbeats 1000000 in
theorem indexI_any (v : Value) (l : List Int) (g : Int) (w : World) (h : Reads w 1 v (ints l)) : Calls Tryz.prog 130 #[v, .int .i64 g] w (IdxQ w l g) := by
  obtain ⟨pa, ca, rfl, a1, a2, a3⟩ := h.at
  unfold maxLen at a2
  have A3 := Lib.hid a3
  clear h a3
  go_enter Tryz.func130, Tryz.ntmps130
  go_wp2_with fail
  go_loopw [8] (fun i wr => ∃ k : Nat, k ≤ l.length ∧ i = .int .i64 (k : Int) ∧ g ∉ l.take k ∧ wr = w) (fun i _ => l.length - (intOf i).toNat)
  case atStart => exact ⟨0, by omega, rfl, by simp, rfl⟩
  case round =>
    obtain ⟨k, hk, rfl, ht, rfl⟩ := hrel
    have HT := Lib.hid ht
    clear ht
    by_cases hlt : k < l.length
    · obtain ⟨y, hy⟩ : ∃ y, l[k]? = some y := ⟨_, List.getElem?_eq_getElem hlt⟩
      obtain ⟨b, off, rfl, hc⟩ := A3.out.resolve_left (fun h => by rw [h] at hlt; simp at hlt)
      have y0 := hc k y hy
      have HY := Lib.hid hy
      clear hc hy A3
      by_cases he : g = y
      · subst he
        go_wp2_with fail
        go_ret
        exact ⟨k, rfl, ⟨fun _ => List.mem_of_getElem? HY.out, fun _ => by omega⟩, rfl⟩
      · go_wp2_with fail
        go_roundw
        case rel =>
          refine ⟨k + 1, by omega, by go_num, ?_, by first | trivial | rfl⟩
          rw [List.take_add_one, HY.out]
          simp [HT.out, he]
        case measure => simp [intOf]; omega
    · have hE : g ∉ l := by have := HT.out; rwa [List.take_of_length_le (by omega)] at this
      have HE := Lib.hid hE
      have e1 : k = l.length := by omega
      subst e1
      go_wp2_with fail
      go_ret
      exact ⟨-1, rfl, ⟨fun h => absurd h (by decide), fun h => absurd h HE.out⟩, rfl⟩
set_option maxRecDepth 100000 in
theorem containsI_any (v : Value) (l : List Int) (g : Int) (w : World) (h : Reads w 1 v (ints l)) : Calls Tryz.prog 109 #[v, .int .i64 g] w (fun e w' => e = .returned (.bool (decide (g ∈ l))) ∧ w = w') := by
  have c := indexI_any v l g w h
  obtain ⟨pa, ca, rfl, a1, a2, a3⟩ := h.at
  clear h a3
  go_enter Tryz.func109, Tryz.ntmps109
  go_wp2_with fail
  refine c.mono ?_
  rintro e w2 ⟨n, rfl, hn, rfl⟩
  have F := Lib.hid (show decide (g ∈ l) = decide (0 ≤ n) from decide_eq_decide.2 hn.symm)
  clear hn
  go_wp2_with fail
  go_ret
  exact ⟨ret_bool (by rw [F.out]), rfl⟩
theorem str_eq (a b : ByteArray) : (a.toList == b.toList) = decide (a = b) := by rw [← beq_toListBytes, ba_beq]
def IdxSQ (w : World) (l : List ByteArray) (g : ByteArray) (e : Ending) (w' : World) : Prop := ∃ n : Int, e = .returned (.int .i64 n) ∧ (0 ≤ n ↔ g ∈ l) ∧ w = w'
set_option maxRecDepth 100000 in
set_option maxHeartbeats 1000000 in
theorem indexS_any (v : Value) (l : List ByteArray) (g : ByteArray) (w : World) (h : Reads w 1 v (strs l)) : Calls Tryz.prog 129 #[v, .string g] w (IdxSQ w l g) := by
  obtain ⟨pa, ca, rfl, a1, a2, a3⟩ := h.atS
  unfold maxLen at a2
  have A3 := Lib.hid a3
  clear h a3
  go_enter Tryz.func129, Tryz.ntmps129
  go_wp2_with fail
  go_loopw [8] (fun i wr => ∃ k : Nat, k ≤ l.length ∧ i = .int .i64 (k : Int) ∧ g ∉ l.take k ∧ wr = w) (fun i _ => l.length - (intOf i).toNat)
  case atStart => exact ⟨0, by omega, rfl, by simp, rfl⟩
  case round =>
    obtain ⟨k, hk, rfl, ht, rfl⟩ := hrel
    have HT := Lib.hid ht
    clear ht
    by_cases hlt : k < l.length
    · obtain ⟨y, hy⟩ : ∃ y, l[k]? = some y := ⟨_, List.getElem?_eq_getElem hlt⟩
      obtain ⟨b, off, rfl, hc⟩ := A3.out.resolve_left (fun h => by rw [h] at hlt; simp at hlt)
      have y0 := hc k y hy
      have HY := Lib.hid hy
      clear hc hy A3
      by_cases he : g = y
      · subst he
        have hse : (g.toList == g.toList) = true := by simp
        go_wp2_with fail
        go_ret
        exact ⟨k, rfl, ⟨fun _ => List.mem_of_getElem? HY.out, fun _ => by omega⟩, rfl⟩
      · have hse : (g.toList == y.toList) = false := by rw [str_eq, decide_eq_false he]
        go_wp2_with fail
        go_roundw
        case rel =>
          refine ⟨k + 1, by omega, by go_num, ?_, by first | trivial | rfl⟩
          rw [List.take_add_one, HY.out]
          simp [HT.out, he]
        case measure => simp [intOf]; omega
    · have hE : g ∉ l := by have := HT.out; rwa [List.take_of_length_le (by omega)] at this
      have HE := Lib.hid hE
      have e1 : k = l.length := by omega
      subst e1
      go_wp2_with fail
      go_ret
      exact ⟨-1, rfl, ⟨fun h => absurd h (by decide), fun h => absurd h HE.out⟩, rfl⟩
set_option maxRecDepth 100000 in
theorem containsS_any (v : Value) (l : List ByteArray) (g : ByteArray) (w : World) (h : Reads w 1 v (strs l)) : Calls Tryz.prog 108 #[v, .string g] w (fun e w' => e = .returned (.bool (decide (g ∈ l))) ∧ w = w') := by
  have c := indexS_any v l g w h
  obtain ⟨pa, ca, rfl, a1, a2, a3⟩ := h.atS
  clear h a3
  go_enter Tryz.func108, Tryz.ntmps108
  go_wp2_with fail
  refine c.mono ?_
  rintro e w2 ⟨n, rfl, hn, rfl⟩
  have F := Lib.hid (show decide (g ∈ l) = decide (0 ≤ n) from decide_eq_decide.2 hn.symm)
  clear hn
  go_wp2_with fail
  go_ret
  exact ⟨ret_bool (by rw [F.out]), rfl⟩

theorem size3 (w : World) : (sizeOf 3).run Tryz.prog w = .ok 1 w := by kernel_rfl
theorem size9 (w : World) : (sizeOf 9).run Tryz.prog w = .ok 1 w := by kernel_rfl
theorem nodup_take {α : Type} [DecidableEq α] {l : List α} {k : Nat} {x : α} (hx : l[k]? = some x) : (l.take (k + 1)).Nodup ↔ (l.take k).Nodup ∧ x ∉ l.take k := by
  rw [List.take_add_one, hx]
  simp only [Option.toList_some]
  rw [List.nodup_append]
  constructor
  · rintro ⟨h1, _, h2⟩
    exact ⟨h1, fun h => h2 x h x (by simp) rfl⟩
  · rintro ⟨h1, h2⟩
    exact ⟨h1, by simp, fun a ha b hb e => h2 (by rw [List.mem_singleton] at hb; rw [← hb, ← e]; exact ha)⟩
theorem not_nodup {α : Type} {l : List α} {k : Nat} {x : α} (hx : l[k]? = some x) (h : x ∈ l.take k) : ¬ l.Nodup := by
  intro hn
  have h2 := hn.sublist (List.take_sublist (k + 1) l)
  rw [List.take_add_one, hx, Option.toList_some, List.nodup_append] at h2
  exact h2.2.2 x h x (by simp) rfl
set_option maxRecDepth 100000 in
set_option maxHeartbeats 1000000 in
theorem twiceI_any (v : Value) (l : List Int) (w : World) (h : Reads w 1 v (ints l)) : Calls Tryz.prog 103 #[v] w (fun e w' => e = .returned (.bool (!decide l.Nodup)) ∧ w = w') := by
  have hR := h
  obtain ⟨pa, ca, rfl, a1, a2, a3⟩ := h.at
  have A3 := Lib.hid (And.intro a3 hR)
  clear a3 hR
  have hlen : l.length ≤ 9223372036854775807 := by unfold maxLen at a2; omega
  go_enter Tryz.func103, Tryz.ntmps103
  go_wp2_with fail
  go_loopg [7] l.length (fun m vk wr => ∃ k : Nat, k ≤ l.length ∧ m = l.length - k ∧ vk = .int .i64 (k : Int) ∧ (l.take k).Nodup ∧ wr = w)
  case atStart => exact ⟨0, Nat.zero_le _, rfl, rfl, by simp, rfl⟩
  case round =>
    obtain ⟨k, hk, hm, rfl, ht, rfl⟩ := hrel
    have HT := Lib.hid (And.intro ht hm)
    clear ht hm
    by_cases hlt : k < l.length
    · obtain ⟨y, hy⟩ : ∃ y, l[k]? = some y := ⟨_, List.getElem?_eq_getElem hlt⟩
      obtain ⟨b, off, rfl, hc⟩ := A3.out.1.resolve_left (fun h => by rw [h] at hlt; simp at hlt)
      have y0 := hc k y hy
      have hsl := run_slice_to (P := Tryz.prog) (w := wr) (a := some ⟨b, off, none⟩) (n := l.length) (cap := ca) (i := k) Tryz.underlying92 (size3 wr) (by omega) a1
      have hrd := Reads.take A3.out.2 (i := k) (by omega)
      have hrd' : Reads wr 1 (.slice (some ⟨b, off, none⟩) k ca) (ints (l.take k)) := by
        have : (ints l).take (k * 1) = ints (l.take k) := by rw [Nat.mul_one]; unfold ints; rw [List.map_take]
        rwa [this] at hrd
      have cc := containsI_any _ (l.take k) y wr hrd'
      have HY := Lib.hid hy
      clear hc hy A3 hrd hrd'
      by_cases hm : y ∈ l.take k
      · have e1 : decide (y ∈ l.take k) = true := decide_eq_true hm
        rw [e1] at cc
        have F := Lib.hid (not_nodup HY.out hm)
        clear hm e1
        go_wp2_with (go_at_call 109; refine cc.mono ?_; rintro e w' ⟨rfl, rfl⟩)
        go_ret
        exact ⟨ret_bool (by rw [decide_eq_false F.out]; rfl), rfl⟩
      · have e1 : decide (y ∈ l.take k) = false := decide_eq_false hm
        rw [e1] at cc
        have F := Lib.hid ((nodup_take HY.out).2 ⟨HT.out.1, hm⟩)
        clear hm e1
        go_wp2_with (go_at_call 109; refine cc.mono ?_; rintro e w' ⟨rfl, rfl⟩)
        go_roundg (l.length - (k + 1))
        case rel => exact ⟨k + 1, by omega, rfl, by go_num, F.out, rfl⟩
        case measure => have := HT.out.2; omega
    · have e1 : k = l.length := by omega
      subst e1
      have F := Lib.hid (show l.Nodup by have := HT.out.1; rwa [List.take_length] at this)
      clear HT
      go_wp2_with fail
      go_ret
      exact ⟨ret_bool (by rw [decide_eq_true F.out]; rfl), rfl⟩
set_option maxRecDepth 100000 in
theorem stateful_any (k : Int) (w : World) : Calls Tryz.prog 52 #[.int .u8 k] w fun e w' => e = .returned (.bool (stateful k)) ∧ w = w' := by
  have hs : stateful k = (k == 6 || k == 7) := rfl
  by_cases h6 : k = 6
  · subst h6
    go_enter Tryz.func52, Tryz.ntmps52
    go_wp2
    go_ret
    exact ⟨rfl, rfl⟩
  · have h6' : (k == 6) = false := by simp [h6]
    rw [h6', Bool.false_or] at hs
    go_enter Tryz.func52, Tryz.ntmps52
    go_wp2
    go_ret
    exact ⟨ret_bool hs.symm, rfl⟩
end Go.Proofs.YtopeleenlcnkkaaGreatDoor
/-
  kind: accs, Of, Is; expr: Same at none.
-/
namespace Go.Proofs.YtopeleenlcnkkaaGreatDoor
open Go Go.RowKit
attribute [local irreducible] wpL
theorem exAccs_mk (x : Ex) : exAccs x = (x.op == 4 || x.args.any exAccs) := by
  cases x
  rw [exAccs, exAccsL_any]; rfl
theorem any_take_no {α : Type} {l : List α} {k : Nat} {x : α} {p : α → Bool} (h : l[k]? = some x) (ht : (l.take k).any p = false) (hx : p x = false) : (l.take (k + 1)).any p = false := by
  rw [List.take_add_one, h, List.any_append, ht]; simp [hx]
set_option maxRecDepth 100000 in
set_option maxHeartbeats 1000000 in
theorem accs_any : ∀ (N : Nat) (x : Ex) (a : Array Value) (w : World), SizeOf.sizeOf x ≤ N → ExAt w a x → Calls Tryz.prog 154 #[.agg a] w (Gives w (.bool (exAccs x)))
  | 0, x, _, _, h, _ => by cases x; simp at h
  | N + 1, x, a, w, hN, h => by
    obtain ⟨p, cap, rfl, h0, h1, h2, h3, h4, h5⟩ := h.parts
    have sub : ∀ (i : Nat) (y : Ex), x.args[i]? = some y → SizeOf.sizeOf y ≤ N := by
      intro i y hy
      obtain ⟨op, n, args⟩ := x
      have h1 := List.sizeOf_lt_of_mem (List.mem_of_getElem? (show args[i]? = some y from hy))
      simp at hN
      omega
    have IH := Lib.hid (fun y a w hy => accs_any N y a w hy)
    have SB := Lib.hid sub
    have H5 := Lib.hid h5
    have HX := Lib.hid (exAccs_mk x)
    unfold maxLen at h4
    clear h h5 sub hN
    go_enter Tryz.func154, Tryz.ntmps154
    by_cases hop : x.op = 4
    · have hb : (x.op == 4) = true := by simp [hop]
      have F := Lib.hid (show exAccs x = true by rw [HX.out, hb]; rfl)
      clear hop
      go_wp2_with fail
      go_ret
      exact ⟨rbool (by rw [F.out]), (Kept.refl _ _).alloc _⟩
    · have hb : (x.op == 4) = false := by simp [hop]
      have HY := Lib.hid (show exAccs x = x.args.any exAccs by rw [HX.out, hb]; rfl)
      clear hop
      go_wp2_with fail
      obtain ⟨W0, hW0⟩ : ∃ W0, w.alloc (.cells #[.int .u8 x.op, .int .i64 x.n, .slice p x.args.length cap] 95) = W0 := ⟨_, rfl⟩
      have k0 : Kept none' w W0 := by rw [← hW0]; exact (Kept.refl _ _).alloc _
      rw [hW0]
      have K0 := Lib.hid k0
      clear hW0 k0
      go_loopg [11] x.args.length (fun g vi wr => ∃ (k : Nat), k ≤ x.args.length ∧ vi = .int .i64 (k : Int) ∧ x.args.length - k ≤ g ∧ (x.args.take k).any exAccs = false ∧ Kept none' w wr)
      case atStart => exact ⟨0, by omega, rfl, by omega, by simp, K0.out⟩
      case round =>
        obtain ⟨k, hkl, rfl, hg, hno, hkp⟩ := hrel
        by_cases hlt : k < x.args.length
        · obtain ⟨y, hy⟩ : ∃ y, x.args[k]? = some y := ⟨_, List.getElem?_eq_getElem hlt⟩
          obtain ⟨b, off, p', cap', rfl, q0, q1, q2, hy2⟩ := H5.out k y hy
          have r0 := hkp.cell (p := ⟨b, off + k * 3, none⟩) (fun h => h) q0
          have r1 := hkp.cell (p := ⟨b, off + k * 3 + 1, none⟩) (fun h => h) q1
          have r2 := hkp.cell (p := ⟨b, off + k * 3 + 2, none⟩) (fun h => h) q2
          have G := Lib.hid (And.intro hg (And.intro (ExAt.pure hkp hy2) (And.intro hkp (And.intro (SB.out k y hy) (And.intro hy hno)))))
          clear q0 q1 q2 hy hy2 hkp hg H5 hno
          go_wp2_with fail
          have ka : Kept none' wr (wr.alloc (.cells #[.int .u8 y.op, .int .i64 y.n, .slice p' y.args.length cap'] 95)) := (Kept.refl _ _).alloc _
          have c := IH.out y _ (wr.alloc (.cells #[.int .u8 y.op, .int .i64 y.n, .slice p' y.args.length cap'] 95)) G.out.2.2.2.1 (ExAt.pure ka G.out.2.1)
          (with_reducible refine c.mono ?_)
          clear c
          rintro e w2 ⟨rfl, k2⟩
          have K2 := Lib.hid (G.out.2.2.1.trans (ka.trans k2))
          clear k2 ka
          cases hA : exAccs y with
          | true =>
            have F := Lib.hid (show exAccs x = true by rw [HY.out, List.any_eq_true]; exact ⟨y, List.mem_of_getElem? G.out.2.2.2.2.1, hA⟩)
            clear hA
            go_wp2_with fail
            go_ret
            exact ⟨rbool (by rw [F.out]), K2.out⟩
          | false =>
            have F := Lib.hid (any_take_no G.out.2.2.2.2.1 G.out.2.2.2.2.2 hA)
            clear hA
            go_wp2_with fail
            go_roundg (x.args.length - (k + 1))
            case rel => exact ⟨k + 1, by omega, by go_num, Nat.le_refl _, F.out, K2.out⟩
            case measure => have := G.out.1; omega
        · have F := Lib.hid (And.intro (show exAccs x = false by rw [HY.out]; rwa [List.take_of_length_le (by omega)] at hno) hkp)
          clear hno hkp
          go_wp2_with fail
          go_ret
          exact ⟨rbool (by rw [F.out.1]), F.out.2⟩
theorem kindA_true (x : Ex) : kindA x true = kindR x := by
  unfold kindA kindR
  split
  · rfl
  · rw [if_neg (by simp)]
set_option maxRecDepth 100000 in
set_option maxHeartbeats 1000000 in
theorem kindOf0_any (x : Ex) (a : Array Value) (w : World) (h : ExAt w a x) : Calls Tryz.prog 128 #[.agg a, .bool false] w (KindQ w (kindA x false)) := by
  obtain ⟨p, cap, rfl, h0, h1, h2, h3, h4, h5⟩ := h.parts
  have H := Lib.hid h
  clear h h5
  have hk0 : Kept none' w (w.alloc (.cells #[.int .u8 x.op, .int .i64 x.n, .slice p x.args.length cap] 95)) := (Kept.refl _ _).alloc _
  obtain ⟨W0, hW0⟩ : ∃ W0, w.alloc (.cells #[.int .u8 x.op, .int .i64 x.n, .slice p x.args.length cap] 95) = W0 := ⟨_, rfl⟩
  have d0 : W0.cell? ⟨w.heap.size, 0, none⟩ = some (.int .u8 x.op) := by rw [← hW0]; simp
  have d1 : W0.cell? ⟨w.heap.size, 1, none⟩ = some (.int .i64 x.n) := by rw [← hW0]; simp
  have d2 : W0.cell? ⟨w.heap.size, 2, none⟩ = some (.slice p x.args.length cap) := by rw [← hW0]; simp
  rw [hW0] at hk0
  have HK := Lib.hid hk0
  have HW0 := Lib.hid hW0
  clear hk0 hW0
  go_enter Tryz.func128, Tryz.ntmps128
  go_wp2_with fail
  rw [HW0.out]
  (with_reducible refine (May_any x _ W0 (ExAt.pure HK.out H.out)).mono ?_)
  rintro e W1 ⟨rfl, k1⟩
  have c0 := k1.cell (p := ⟨w.heap.size, 0, none⟩) (fun h => h) d0
  have c1 := k1.cell (p := ⟨w.heap.size, 1, none⟩) (fun h => h) d1
  have c2 := k1.cell (p := ⟨w.heap.size, 2, none⟩) (fun h => h) d2
  have HK1 := Lib.hid (HK.out.trans k1)
  clear k1 d0 d1 d2
  cases hm : exMay 16 x with
  | false =>
    have F : KindQ w (kindA x false) (.returned (.tuple #[.int .u8 0, .int .i64 2])) W1 := ⟨by unfold kindA; rw [if_pos hm], HK1.out⟩
    have F' := Lib.hid F
    clear hm F
    go_wp2_with fail
    go_ret2
    exact F'.out
  | true =>
    have HM := Lib.hid hm
    clear hm
    go_wp2_with fail
    (with_reducible refine (accs_any _ x _ W1 (Nat.le_refl _) (ExAt.pure HK1.out H.out)).mono ?_)
    rintro e W1' ⟨rfl, k1⟩
    have c0 := k1.cell (p := ⟨w.heap.size, 0, none⟩) (fun h => h) c0
    have c1 := k1.cell (p := ⟨w.heap.size, 1, none⟩) (fun h => h) c1
    have c2 := k1.cell (p := ⟨w.heap.size, 2, none⟩) (fun h => h) c2
    have HK1 := Lib.hid (HK1.out.trans k1)
    clear k1
    cases hA : exAccs x with
    | true =>
      have F : KindQ w (kindA x false) (.returned (.tuple #[.int .u8 0, .int .i64 90])) W1' := ⟨by unfold kindA; rw [if_neg (by rw [HM.out]; simp), if_pos ⟨rfl, hA⟩], HK1.out⟩
      have F' := Lib.hid F
      clear hA F
      go_wp2_with fail
      go_ret2
      exact F'.out
    | false =>
    have HA := Lib.hid hA
    clear hA
    go_wp2_with fail
    refine wp_region_eager [1, 0, 2, 3] (fun W => Kept none' W1' W) (by kernel_rfl) (by kernel_rfl) rfl (Kept.refl _ _).drew ?_
    simp only [List.map_cons, List.map_nil, List.getElem?_toArray, List.getElem?_cons_zero, List.getElem?_cons_succ, Option.getD_some]
    (apply wpL_float rfl rfl; (intro W hW; have z0 := hW.cell (fun h => h) c0; have z1 := hW.cell (fun h => h) c1; have z2 := hW.cell (fun h => h) c2; go_simp; rfl); go_frame)
    apply wpL_loud rfl rfl
    intro K hK
    go_wp2_with fail
    (with_reducible refine (rules_any _).mono ?_)
    rintro e W2 ⟨m, rfl, r2, k2⟩
    have k2' : Kept none' W1' W2 := k2.drew_left
    clear k2
    go_wp2_with fail
    refine hK _ _ (fun _ => k2') ?_
    clear hK
    apply wpL_loud rfl rfl
    intro K hK
    go_wp2_with fail
    have c := ty_any 16 x _ m _ (ExAt.pure (HK1.out.trans k2') H.out) HM.out r2
    (with_reducible refine c.mono ?_)
    clear c
    rintro e W3 ⟨rfl, k3⟩
    have k3' : Kept none' W1' W3 := k2'.trans k3
    clear k2' k3 r2
    go_wp2_with fail
    refine hK _ _ (fun _ => k3') ?_
    clear hK
    (apply wpL_float rfl rfl; (intro W hW; go_simp; rfl); go_frame)
    refine wpL_nil (fun _ => k3') ?_
    by_cases ht : exTy 16 x = 0
    · have F : KindQ w (kindA x false) (.returned (.tuple #[.int .u8 0, .int .i64 91])) W3 := ⟨by unfold kindA; rw [if_neg (by rw [HM.out]; simp), if_neg (by rw [HA.out]; simp), if_pos ht], HK1.out.trans k3'⟩
      have F' := Lib.hid F
      have hb : (exTy 16 x == 0) = true := by simp [ht]
      clear F ht k3'
      go_wp2_with fail
      go_ret2
      exact F'.out
    · have F : KindQ w (kindA x false) (.returned (.tuple #[.int .u8 (exTy 16 x), .int .i64 0])) W3 := ⟨by unfold kindA; rw [if_neg (by rw [HM.out]; simp), if_neg (by rw [HA.out]; simp), if_neg ht], HK1.out.trans k3'⟩
      have F' := Lib.hid F
      have hb : (exTy 16 x == 0) = false := by simp [ht]
      clear F ht k3'
      go_wp2_with fail
      go_ret2
      exact F'.out
theorem kindOfA_any (x : Ex) (acc : Bool) (a : Array Value) (w : World) (h : ExAt w a x) : Calls Tryz.prog 128 #[.agg a, .bool acc] w (KindQ w (kindA x acc)) := by
  cases acc with
  | true => rw [kindA_true]; exact kindOf_any x a w h
  | false => exact kindOf0_any x a w h
set_option maxRecDepth 100000 in
set_option maxHeartbeats 1000000 in
theorem is_any (x : Ex) (acc : Bool) (ty : Int) (a : Array Value) (w : World) (h : ExAt w a x) : Calls Tryz.prog 107 #[.agg a, .bool acc, .int .u8 ty] w (Gives w (.bool (exIs x acc ty))) := by
  obtain ⟨p, cap, rfl, h0, h1, h2, h3, h4, h5⟩ := h.parts
  have H := Lib.hid h
  clear h h5
  go_enter Tryz.func107, Tryz.ntmps107
  go_wp2_with fail
  have k0 : Kept none' w (w.alloc (.cells #[.int .u8 x.op, .int .i64 x.n, .slice p x.args.length cap] 95)) := (Kept.refl _ _).alloc _
  have c := kindOfA_any x acc _ _ (ExAt.pure k0 H.out)
  (with_reducible refine c.mono ?_)
  clear c
  rintro e W2 ⟨rfl, k2⟩
  have HX := Lib.hid (show exIs x acc ty = ((kindA x acc).2 == 0 && (kindA x acc).1 == ty) from rfl)
  generalize kindA x acc = r at *
  obtain ⟨r1, r2⟩ := r
  have K := Lib.hid (k0.trans k2)
  clear k0 k2
  by_cases hr : r2 = 0
  · have hb : (r2 == 0) = true := by simp [hr]
    rw [hb] at HX
    clear hr
    go_wp2_with fail
    go_ret
    exact ⟨rbool (by rw [HX.out]; rfl), K.out⟩
  · have hb : (r2 == 0) = false := by simp [hr]
    rw [hb] at HX
    clear hr
    go_wp2_with fail
    go_ret
    exact ⟨rbool (by rw [HX.out]; rfl), K.out⟩
end Go.Proofs.YtopeleenlcnkkaaGreatDoor
/-
  JOBS IN MEMORY: nodes, a slice of nodes.
-/
namespace Go.Proofs.YtopeleenlcnkkaaGreatDoor
open Go Go.RowKit
/-- The cells of a node. -/
def JNAt (w : World) (a : Array Value) (d : JN) : Prop :=
  ∃ pi ci p cap, a = #[.string d.uid, .int .u8 d.kind, .slice pi d.ins.length ci, .int .u8 d.x.op, .int .i64 d.x.n, .slice p d.x.args.length cap, .int .i64 d.n] ∧
    ExAt w #[.int .u8 d.x.op, .int .i64 d.x.n, .slice p d.x.args.length cap] d.x ∧ Reads w 1 (.slice pi d.ins.length ci) (ints d.ins) ∧ (∀ k ∈ d.ins, R64 k) ∧ 0 ≤ d.kind ∧ d.kind ≤ 255 ∧ R64 d.n ∧ d.uid.size ≤ maxLen
theorem Reads.kept_of {w w' : World} {S : Nat → Prop} {k : Nat} {v : Value} {cs : List Value} (h : Reads w k v cs) (hk0 : 0 < k) (hk : Kept S w w') (hS : ∀ k, S k → ∀ c E f, w.heap[k]? ≠ some (.cells c E f)) : Reads w' k v cs :=
  h.kept hk (fun b hb hs => by obtain ⟨c, E, f, h⟩ := h.isCells hk0 hb; exact hS b hs c E f h)
theorem JNAt.kept {w w' : World} {S : Nat → Prop} (hk : Kept S w w') (hS : ∀ k, S k → ∀ c E f, w.heap[k]? ≠ some (.cells c E f)) {a : Array Value} {d : JN} (h : JNAt w a d) : JNAt w' a d := by
  obtain ⟨pi, ci, p, cap, h1, h2, h3, h4⟩ := h
  exact ⟨pi, ci, p, cap, h1, h2.kept hk hS, h3.kept_of (by omega) hk hS, h4⟩
theorem JNAt.pure {w w' : World} (hk : Kept none' w w') {a : Array Value} {d : JN} (h : JNAt w a d) : JNAt w' a d := h.kept hk (fun _ h => h.elim)
/-- A slice of nodes. -/
def NodesAt (w : World) (v : Value) (L : List JN) : Prop :=
  ∃ cs : List Value, Reads w 7 v cs ∧ cs.length = L.length * 7 ∧ ∀ i d, L[i]? = some d → JNAt w ((cs.drop (i * 7)).take 7).toArray d
theorem NodesAt.kept {w w' : World} {S : Nat → Prop} (hk : Kept S w w') (hS : ∀ k, S k → ∀ c E f, w.heap[k]? ≠ some (.cells c E f)) {v : Value} {L : List JN} (h : NodesAt w v L) : NodesAt w' v L := by
  obtain ⟨cs, h1, h2, h3⟩ := h
  exact ⟨cs, h1.kept_of (by omega) hk hS, h2, fun i d hd => (h3 i d hd).kept hk hS⟩
theorem NodesAt.pure {w w' : World} (hk : Kept none' w w') {v : Value} {L : List JN} (h : NodesAt w v L) : NodesAt w' v L := h.kept hk (fun _ h => h.elim)
/-- A node's cells within the slice. -/
structure JNCells (w : World) (b o : Nat) (d : JN) (pi : Option Addr) (ci : Nat) (p : Option Addr) (cap : Nat) : Prop where
  c0 : w.cell? ⟨b, o, none⟩ = some (.string d.uid)
  c1 : w.cell? ⟨b, o + 1, none⟩ = some (.int .u8 d.kind)
  c2 : w.cell? ⟨b, o + 2, none⟩ = some (.slice pi d.ins.length ci)
  c3 : w.cell? ⟨b, o + 3, none⟩ = some (.int .u8 d.x.op)
  c4 : w.cell? ⟨b, o + 4, none⟩ = some (.int .i64 d.x.n)
  c5 : w.cell? ⟨b, o + 5, none⟩ = some (.slice p d.x.args.length cap)
  c6 : w.cell? ⟨b, o + 6, none⟩ = some (.int .i64 d.n)
theorem JNCells.kept {w w' : World} {S : Nat → Prop} {b o : Nat} {d : JN} {pi : Option Addr} {ci : Nat} {p : Option Addr} {cap : Nat} (h : JNCells w b o d pi ci p cap) (hk : Kept S w w') (hb : ¬ S b) : JNCells w' b o d pi ci p cap :=
  ⟨hk.cell (p := ⟨b, o, none⟩) hb h.c0, hk.cell (p := ⟨b, o + 1, none⟩) hb h.c1, hk.cell (p := ⟨b, o + 2, none⟩) hb h.c2, hk.cell (p := ⟨b, o + 3, none⟩) hb h.c3, hk.cell (p := ⟨b, o + 4, none⟩) hb h.c4, hk.cell (p := ⟨b, o + 5, none⟩) hb h.c5, hk.cell (p := ⟨b, o + 6, none⟩) hb h.c6⟩
/-- The cells of a node by themselves. -/
abbrev jnC (d : JN) (pi : Option Addr) (ci : Nat) (p : Option Addr) (cap : Nat) : Array Value :=
  #[.string d.uid, .int .u8 d.kind, .slice pi d.ins.length ci, .int .u8 d.x.op, .int .i64 d.x.n, .slice p d.x.args.length cap, .int .i64 d.n]
theorem NodesAt.at {w : World} {v : Value} {L : List JN} (h : NodesAt w v L) : ∃ a cap, v = .slice a L.length cap ∧ L.length ≤ cap ∧ cap ≤ maxLen ∧
    ∀ i d, L[i]? = some d → ∃ b off pi ci p cap', a = some ⟨b, off, none⟩ ∧ JNCells w b (off + i * 7) d pi ci p cap' ∧ JNAt w (jnC d pi ci p cap') d := by
  obtain ⟨cs, ⟨a, n, cap, rfl, h1, h2, h3, h4⟩, h5, h6⟩ := h
  have hn : n = L.length := by omega
  subst hn
  refine ⟨a, cap, rfl, h1, h2, fun i d hd => ?_⟩
  have hi : i < L.length := (List.getElem?_eq_some_iff.1 hd).1
  have hj := h6 i d hd
  have hne : cs ≠ [] := fun e => by rw [e] at h5; simp at h5; omega
  obtain ⟨b, off, rfl, hc⟩ := h4.resolve_left hne
  obtain ⟨pi, ci, p, cap', e, hrest⟩ := hj
  have hl : (cs.drop (i * 7)).take 7 = (jnC d pi ci p cap').toList := by
    have := congrArg Array.toList e
    simpa using this
  have get : ∀ j v, (jnC d pi ci p cap').toList[j]? = some v → cs[i * 7 + j]? = some v := by
    intro j v hj
    rw [← hl, List.getElem?_take] at hj
    split at hj
    · rwa [List.getElem?_drop] at hj
    · cases hj
  have cell : ∀ j v, (jnC d pi ci p cap').toList[j]? = some v → w.cell? ⟨b, off + i * 7 + j, none⟩ = some v := fun j v hj => by
    have := hc _ _ (get j v hj)
    rwa [← Nat.add_assoc] at this
  exact ⟨b, off, pi, ci, p, cap', rfl, ⟨cell 0 _ rfl, cell 1 _ rfl, cell 2 _ rfl, cell 3 _ rfl, cell 4 _ rfl, cell 5 _ rfl, cell 6 _ rfl⟩, pi, ci, p, cap', rfl, hrest⟩
theorem NodesAt.nil (w : World) : NodesAt w (.slice none 0 0) [] := ⟨[], Reads.nil w 7, rfl, fun i d h => by cases h⟩
end Go.Proofs.YtopeleenlcnkkaaGreatDoor
