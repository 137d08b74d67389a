/-
  JOBS IN PLAIN WORDS: names, nodes, whether a job may be, ideals, what is fed, states, what is carried.
-/
import Derived.Test.YtopeleenlcnkkaaGreatDoorM14
import Derived.Test.YtopeleenlcnkkaaGreatDoorM08
set_option linter.unusedVariables false
set_option linter.unusedSimpArgs false
namespace Go.Proofs.YtopeleenlcnkkaaGreatDoor
open Go Go.RowKit
instance baDec : DecidableEq ByteArray := fun a b => decidable_of_iff (a.data = b.data) ⟨fun h => by cases a; cases b; simp_all, fun h => by rw [h]⟩
theorem ba_beq (a b : ByteArray) : (a == b) = decide (a = b) := by
  have h : (a == b) = (a.data == b.data) := by cases a; cases b; rfl
  rw [h]
  by_cases e : a = b
  · subst e; simp
  · rw [decide_eq_false e]
    refine Bool.eq_false_iff.2 fun hd => e ?_
    have := eq_of_beq hd
    cases a; cases b; simp_all
instance baLawful : LawfulBEq ByteArray where
  eq_of_beq h := by rw [ba_beq] at h; exact of_decide_eq_true h
  rfl := fun {a} => (ba_beq a a).trans (decide_eq_true rfl)
/-- Runes of names. -/
def letterB (r : Nat) : Bool := (decide (97 ≤ r) && decide (r ≤ 122)) || (decide (65 ≤ r) && decide (r ≤ 90)) || (decide (191 < r) && r != 65533)
def laterB (r : Nat) : Bool := letterB r || (decide (48 ≤ r) && decide (r ≤ 57)) || r == 45
def nameL : List (Nat × Nat) → Bool
  | [] => false
  | p :: l => letterB p.2 && (p :: l).all (fun q => laterB q.2) && decide ((p :: l).length ≤ 24)
def nameOk (s : ByteArray) : Bool := nameL (runes s)
/-- A node of a job. -/
structure JN where
  uid : ByteArray
  kind : Int
  ins : List Int
  x : Ex
  n : Int
instance : Inhabited JN := ⟨⟨ByteArray.empty, 0, [], default, 0⟩⟩
def JN.nod (d : JN) : Nod := ⟨d.kind, d.x, d.n⟩
structure Jb where
  par : Int
  nodes : List JN
def exNone (x : Ex) : Bool := x.op == 0 && x.n == 0 && x.args.isEmpty
mutual
/-- Is there an acc in an expression? -/
def exAccs : Ex → Bool
  | .mk o _ l => o == 4 || exAccsL l
def exAccsL : List Ex → Bool
  | [] => false
  | x :: l => exAccs x || exAccsL l
end
theorem exAccsL_any : ∀ l : List Ex, exAccsL l = l.any exAccs
  | [] => by simp [exAccsL]
  | x :: l => by simp [exAccsL, exAccsL_any l]
/-- Its type and the error of its kind. -/
def kindA (x : Ex) (acc : Bool) : Int × Int :=
  if exMay 16 x = false then (0, 2) else if acc = false ∧ exAccs x = true then (0, 90) else if exTy 16 x = 0 then (0, 91) else (exTy 16 x, 0)
def exIs (x : Ex) (acc : Bool) (ty : Int) : Bool := (kindA x acc).2 == 0 && (kindA x acc).1 == ty
def goodIns (ins : List Int) (at_ : Nat) : Bool := decide ins.Nodup && ins.all fun k => decide (0 ≤ k) && decide (k < (at_ : Int))
def mayN (at_ : Nat) (d : JN) : Bool := mayP (nameOk d.uid) d.kind d.ins.length (goodIns d.ins at_) (exNone d.x) (fun acc ty => exIs d.x acc ty) d.n
def wayOf (W : List Int) (d : JN) : Int := if d.kind = 1 then 1 else (d.ins.map fun k => W.getD k.toNat 0).sum * (if d.kind = 4 then 4 else 1)
def waysL (nodes : List JN) : List Int := nodes.foldl (fun W d => W ++ [wayOf W d]) []
def readersN (nodes : List JN) (i : Nat) : Nat := nodes.countP fun d => d.ins.contains (i : Int)
def flatsN (nodes : List JN) (i : Nat) : Nat := (nodes.take (i + 1)).countP fun d => d.kind == 4
def shapeBad (nodes : List JN) (i : Nat) (d : JN) : Bool :=
  (decide (d.kind = 1) != decide (i = 0)) || (decide (d.kind = 9) != decide (i + 1 = nodes.length)) || (decide (readersN nodes i = 0) != decide (i + 1 = nodes.length)) ||
    decide (3 < readersN nodes i) || decide (2 < flatsN nodes i) || decide (64 < (waysL nodes).getD i 0)
def headBad (j : Jb) : Bool := decide (j.par < 1) || decide (4 < j.par) || decide (j.nodes.length < 2) || decide (12 < j.nodes.length) || decide (1000 < 1001 - cntL (j.nodes.map (·.x)) 1001)
def uidBad (nodes : List JN) (i : Nat) (d : JN) : Bool := decide (d.uid ∈ (nodes.take i).map fun e : JN => e.uid)
/-- A job may be. -/
def jobOk (j : Jb) : Bool := !headBad j && (List.range j.nodes.length).all fun i => mayN i (j.nodes.getD i default) && !uidBad j.nodes i (j.nodes.getD i default) && !shapeBad j.nodes i (j.nodes.getD i default)
theorem jobOk_get {j : Jb} (h : jobOk j = true) : headBad j = false ∧ ∀ i d, j.nodes[i]? = some d → mayN i d = true ∧ uidBad j.nodes i d = false ∧ shapeBad j.nodes i d = false := by
  unfold jobOk at h
  rw [Bool.and_eq_true, List.all_eq_true] at h
  refine ⟨by simpa using h.1, fun i d hd => ?_⟩
  have hi : i < j.nodes.length := (List.getElem?_eq_some_iff.1 hd).1
  have := h.2 i (List.mem_range.2 hi)
  rw [List.getD_eq_getElem?_getD, hd] at this
  simpa [and_assoc] using this
theorem jobOk_mk {j : Jb} (h0 : headBad j = false) (h : ∀ i d, j.nodes[i]? = some d → mayN i d = true ∧ uidBad j.nodes i d = false ∧ shapeBad j.nodes i d = false) : jobOk j = true := by
  unfold jobOk
  rw [Bool.and_eq_true, List.all_eq_true]
  refine ⟨by simp [h0], fun i hi => ?_⟩
  have hi := List.mem_range.1 hi
  have := h i _ (List.getElem?_eq_getElem hi)
  rw [List.getD_eq_getElem?_getD, List.getElem?_eq_getElem hi]
  simpa [and_assoc] using this
def stateful (k : Int) : Bool := k == 6 || k == 7
def findJ (nodes : List JN) (uid : ByteArray) : Int := match nodes.findIdx? (fun d => decide (d.uid = uid)) with | some i => (i : Int) | none => -1
/-! ### Ideals -/
abbrev Tabs := List (Option Tab)
abbrev St := ByteArray × ByteArray
def fitsCell (kind n : Int) (c : Cell) : Bool := !(decide (kind = 6) && decide (0 < c.2.length)) && !(decide (kind = 7) && (decide (c.1 ≠ 0) || decide (c.2.length < 1) || decide (n ≤ (c.2.length : Int))))
def fitsP (kind n : Int) (T : Tab) : Bool := stateful kind && T.all fun p => fitsCell kind n p.2
def feedStep (nodes : List JN) (r : Rec) (st : List (List Rec) × Tabs) (i : Nat) : List (List Rec) × Tabs :=
  (st.1 ++ [(doNode (nodes.getD i default).nod ((st.2.getD i none).getD []) (if i = 0 then [r] else getsL (nodes.getD i default).kind ((nodes.getD i default).ins.map fun k => st.1.getD k.toNat []))).1],
   st.2.set i ((st.2.getD i none).map fun _ => (doNode (nodes.getD i default).nod ((st.2.getD i none).getD []) (if i = 0 then [r] else getsL (nodes.getD i default).kind ((nodes.getD i default).ins.map fun k => st.1.getD k.toNat []))).2))
def fillL (nodes : List JN) (Ts : Tabs) : Tabs := List.zipWith (fun (d : JN) (t : Option Tab) => if t.isNone && stateful d.kind then some [] else t) nodes Ts
end Go.Proofs.YtopeleenlcnkkaaGreatDoor
/-
  slices.Contains, Index at ints and strings; job: twice, Stateful.
-/
namespace Go.Proofs.YtopeleenlcnkkaaGreatDoor
open Go Go.RowKit
def IdxQ (w : World) (l : List Int) (g : Int) (e : Ending) (w' : World) : Prop := ∃ n : Int, e = .returned (.int .i64 n) ∧ (0 ≤ n ↔ g ∈ l) ∧ w = w'
set_option maxRecDepth 100000 in
set_option maxHeartbeats 1000000 in
theorem indexI_any (v : Value) (l : List Int) (g : Int) (w : World) (h : Reads w 1 v (ints l)) : Calls Tryz.prog 130 #[v, .int .i64 g] w (IdxQ w l g) := by
  obtain ⟨pa, ca, rfl, a1, a2, a3⟩ := h.at
  unfold maxLen at a2
  have A3 := Lib.hid a3
  clear h a3
  go_enter Tryz.func130, Tryz.ntmps130
  go_wp2_with fail
  go_loopw [8] (fun i wr => ∃ k : Nat, k ≤ l.length ∧ i = .int .i64 (k : Int) ∧ g ∉ l.take k ∧ wr = w) (fun i _ => l.length - (intOf i).toNat)
  case atStart => exact ⟨0, by omega, rfl, by simp, rfl⟩
  case round =>
    obtain ⟨k, hk, rfl, ht, rfl⟩ := hrel
    have HT := Lib.hid ht
    clear ht
    by_cases hlt : k < l.length
    · obtain ⟨y, hy⟩ : ∃ y, l[k]? = some y := ⟨_, List.getElem?_eq_getElem hlt⟩
      obtain ⟨b, off, rfl, hc⟩ := A3.out.resolve_left (fun h => by rw [h] at hlt; simp at hlt)
      have y0 := hc k y hy
      have HY := Lib.hid hy
      clear hc hy A3
      by_cases he : g = y
      · subst he
        go_wp2_with fail
        go_ret
        exact ⟨k, rfl, ⟨fun _ => List.mem_of_getElem? HY.out, fun _ => by omega⟩, rfl⟩
      · go_wp2_with fail
        go_roundw
        case rel =>
          refine ⟨k + 1, by omega, by go_num, ?_, by first | trivial | rfl⟩
          rw [List.take_add_one, HY.out]
          simp [HT.out, he]
        case measure => simp [intOf]; omega
    · have hE : g ∉ l := by have := HT.out; rwa [List.take_of_length_le (by omega)] at this
      have HE := Lib.hid hE
      have e1 : k = l.length := by omega
      subst e1
      go_wp2_with fail
      go_ret
      exact ⟨-1, rfl, ⟨fun h => absurd h (by decide), fun h => absurd h HE.out⟩, rfl⟩
set_option maxRecDepth 100000 in
theorem containsI_any (v : Value) (l : List Int) (g : Int) (w : World) (h : Reads w 1 v (ints l)) : Calls Tryz.prog 109 #[v, .int .i64 g] w (fun e w' => e = .returned (.bool (decide (g ∈ l))) ∧ w = w') := by
  have c := indexI_any v l g w h
  obtain ⟨pa, ca, rfl, a1, a2, a3⟩ := h.at
  clear h a3
  go_enter Tryz.func109, Tryz.ntmps109
  go_wp2_with fail
  refine c.mono ?_
  rintro e w2 ⟨n, rfl, hn, rfl⟩
  have F := Lib.hid (show decide (g ∈ l) = decide (0 ≤ n) from decide_eq_decide.2 hn.symm)
  clear hn
  go_wp2_with fail
  go_ret
  exact ⟨ret_bool (by rw [F.out]), rfl⟩
theorem str_eq (a b : ByteArray) : (a.toList == b.toList) = decide (a = b) := by rw [← beq_toListBytes, ba_beq]
def IdxSQ (w : World) (l : List ByteArray) (g : ByteArray) (e : Ending) (w' : World) : Prop := ∃ n : Int, e = .returned (.int .i64 n) ∧ (0 ≤ n ↔ g ∈ l) ∧ w = w'
set_option maxRecDepth 100000 in
set_option maxHeartbeats 1000000 in
theorem indexS_any (v : Value) (l : List ByteArray) (g : ByteArray) (w : World) (h : Reads w 1 v (strs l)) : Calls Tryz.prog 129 #[v, .string g] w (IdxSQ w l g) := by
  obtain ⟨pa, ca, rfl, a1, a2, a3⟩ := h.atS
  unfold maxLen at a2
  have A3 := Lib.hid a3
  clear h a3
  go_enter Tryz.func129, Tryz.ntmps129
  go_wp2_with fail
  go_loopw [8] (fun i wr => ∃ k : Nat, k ≤ l.length ∧ i = .int .i64 (k : Int) ∧ g ∉ l.take k ∧ wr = w) (fun i _ => l.length - (intOf i).toNat)
  case atStart => exact ⟨0, by omega, rfl, by simp, rfl⟩
  case round =>
    obtain ⟨k, hk, rfl, ht, rfl⟩ := hrel
    have HT := Lib.hid ht
    clear ht
    by_cases hlt : k < l.length
    · obtain ⟨y, hy⟩ : ∃ y, l[k]? = some y := ⟨_, List.getElem?_eq_getElem hlt⟩
      obtain ⟨b, off, rfl, hc⟩ := A3.out.resolve_left (fun h => by rw [h] at hlt; simp at hlt)
      have y0 := hc k y hy
      have HY := Lib.hid hy
      clear hc hy A3
      by_cases he : g = y
      · subst he
        have hse : (g.toList == g.toList) = true := by simp
        go_wp2_with fail
        go_ret
        exact ⟨k, rfl, ⟨fun _ => List.mem_of_getElem? HY.out, fun _ => by omega⟩, rfl⟩
      · have hse : (g.toList == y.toList) = false := by rw [str_eq, decide_eq_false he]
        go_wp2_with fail
        go_roundw
        case rel =>
          refine ⟨k + 1, by omega, by go_num, ?_, by first | trivial | rfl⟩
          rw [List.take_add_one, HY.out]
          simp [HT.out, he]
        case measure => simp [intOf]; omega
    · have hE : g ∉ l := by have := HT.out; rwa [List.take_of_length_le (by omega)] at this
      have HE := Lib.hid hE
      have e1 : k = l.length := by omega
      subst e1
      go_wp2_with fail
      go_ret
      exact ⟨-1, rfl, ⟨fun h => absurd h (by decide), fun h => absurd h HE.out⟩, rfl⟩
set_option maxRecDepth 100000 in
theorem containsS_any (v : Value) (l : List ByteArray) (g : ByteArray) (w : World) (h : Reads w 1 v (strs l)) : Calls Tryz.prog 108 #[v, .string g] w (fun e w' => e = .returned (.bool (decide (g ∈ l))) ∧ w = w') := by
  have c := indexS_any v l g w h
  obtain ⟨pa, ca, rfl, a1, a2, a3⟩ := h.atS
  clear h a3
  go_enter Tryz.func108, Tryz.ntmps108
  go_wp2_with fail
  refine c.mono ?_
  rintro e w2 ⟨n, rfl, hn, rfl⟩
  have F := Lib.hid (show decide (g ∈ l) = decide (0 ≤ n) from decide_eq_decide.2 hn.symm)
  clear hn
  go_wp2_with fail
  go_ret
  exact ⟨ret_bool (by rw [F.out]), rfl⟩

theorem size3 (w : World) : (sizeOf 3).run Tryz.prog w = .ok 1 w := by kernel_rfl
theorem size9 (w : World) : (sizeOf 9).run Tryz.prog w = .ok 1 w := by kernel_rfl
theorem nodup_take {α : Type} [DecidableEq α] {l : List α} {k : Nat} {x : α} (hx : l[k]? = some x) : (l.take (k + 1)).Nodup ↔ (l.take k).Nodup ∧ x ∉ l.take k := by
  rw [List.take_add_one, hx]
  simp only [Option.toList_some]
  rw [List.nodup_append]
  constructor
  · rintro ⟨h1, _, h2⟩
    exact ⟨h1, fun h => h2 x h x (by simp) rfl⟩
  · rintro ⟨h1, h2⟩
    exact ⟨h1, by simp, fun a ha b hb e => h2 (by rw [List.mem_singleton] at hb; rw [← hb, ← e]; exact ha)⟩
theorem not_nodup {α : Type} {l : List α} {k : Nat} {x : α} (hx : l[k]? = some x) (h : x ∈ l.take k) : ¬ l.Nodup := by
  intro hn
  have h2 := hn.sublist (List.take_sublist (k + 1) l)
  rw [List.take_add_one, hx, Option.toList_some, List.nodup_append] at h2
  exact h2.2.2 x h x (by simp) rfl
set_option maxRecDepth 100000 in
set_option maxHeartbeats 1000000 in
theorem twiceI_any (v : Value) (l : List Int) (w : World) (h : Reads w 1 v (ints l)) : Calls Tryz.prog 103 #[v] w (fun e w' => e = .returned (.bool (!decide l.Nodup)) ∧ w = w') := by
  have hR := h
  obtain ⟨pa, ca, rfl, a1, a2, a3⟩ := h.at
  have A3 := Lib.hid (And.intro a3 hR)
  clear a3 hR
  have hlen : l.length ≤ 9223372036854775807 := by unfold maxLen at a2; omega
  go_enter Tryz.func103, Tryz.ntmps103
  go_wp2_with fail
  go_loopg [7] l.length (fun m vk wr => ∃ k : Nat, k ≤ l.length ∧ m = l.length - k ∧ vk = .int .i64 (k : Int) ∧ (l.take k).Nodup ∧ wr = w)
  case atStart => exact ⟨0, Nat.zero_le _, rfl, rfl, by simp, rfl⟩
  case round =>
    obtain ⟨k, hk, hm, rfl, ht, rfl⟩ := hrel
    have HT := Lib.hid (And.intro ht hm)
    clear ht hm
    by_cases hlt : k < l.length
    · obtain ⟨y, hy⟩ : ∃ y, l[k]? = some y := ⟨_, List.getElem?_eq_getElem hlt⟩
      obtain ⟨b, off, rfl, hc⟩ := A3.out.1.resolve_left (fun h => by rw [h] at hlt; simp at hlt)
      have y0 := hc k y hy
      have hsl := run_slice_to (P := Tryz.prog) (w := wr) (a := some ⟨b, off, none⟩) (n := l.length) (cap := ca) (i := k) Tryz.underlying92 (size3 wr) (by omega) a1
      have hrd := Reads.take A3.out.2 (i := k) (by omega)
      have hrd' : Reads wr 1 (.slice (some ⟨b, off, none⟩) k ca) (ints (l.take k)) := by
        have : (ints l).take (k * 1) = ints (l.take k) := by rw [Nat.mul_one]; unfold ints; rw [List.map_take]
        rwa [this] at hrd
      have cc := containsI_any _ (l.take k) y wr hrd'
      have HY := Lib.hid hy
      clear hc hy A3 hrd hrd'
      by_cases hm : y ∈ l.take k
      · have e1 : decide (y ∈ l.take k) = true := decide_eq_true hm
        rw [e1] at cc
        have F := Lib.hid (not_nodup HY.out hm)
        clear hm e1
        go_wp2_with (go_at_call 109; refine cc.mono ?_; rintro e w' ⟨rfl, rfl⟩)
        go_ret
        exact ⟨ret_bool (by rw [decide_eq_false F.out]; rfl), rfl⟩
      · have e1 : decide (y ∈ l.take k) = false := decide_eq_false hm
        rw [e1] at cc
        have F := Lib.hid ((nodup_take HY.out).2 ⟨HT.out.1, hm⟩)
        clear hm e1
        go_wp2_with (go_at_call 109; refine cc.mono ?_; rintro e w' ⟨rfl, rfl⟩)
        go_roundg (l.length - (k + 1))
        case rel => exact ⟨k + 1, by omega, rfl, by go_num, F.out, rfl⟩
        case measure => have := HT.out.2; omega
    · have e1 : k = l.length := by omega
      subst e1
      have F := Lib.hid (show l.Nodup by have := HT.out.1; rwa [List.take_length] at this)
      clear HT
      go_wp2_with fail
      go_ret
      exact ⟨ret_bool (by rw [decide_eq_true F.out]; rfl), rfl⟩
set_option maxRecDepth 100000 in
theorem stateful_any (k : Int) (w : World) : Calls Tryz.prog 52 #[.int .u8 k] w fun e w' => e = .returned (.bool (stateful k)) ∧ w = w' := by
  have hs : stateful k = (k == 6 || k == 7) := rfl
  by_cases h6 : k = 6
  · subst h6
    go_enter Tryz.func52, Tryz.ntmps52
    go_wp2
    go_ret
    exact ⟨rfl, rfl⟩
  · have h6' : (k == 6) = false := by simp [h6]
    rw [h6', Bool.false_or] at hs
    go_enter Tryz.func52, Tryz.ntmps52
    go_wp2
    go_ret
    exact ⟨ret_bool hs.symm, rfl⟩
end Go.Proofs.YtopeleenlcnkkaaGreatDoor
