/-
  Expressions, nodes, rows of records that came in.
-/
import Derived.Test.YtglbkodmmogomaaGreatDoorF16
import Derived.Test.YtglbkodmmogomaaGreatDoorF19
import Derived.Test.YtglbkodmmogomaaGreatDoorF02
import Derived.Test.YtglbkodmmogomaaGreatDoorF04
import Derived.Test.YtglbkodmmogomaaGreatDoorF06
set_option linter.unusedVariables false
set_option linter.unusedSimpArgs false
namespace Go.Proofs.YtglbkodmmogomaaGreatDoor
open Go Go.RowKit Go.ChangeShapes Go.WideShapes Go.ChangeAt Go.Deep
theorem u8_of_wf {n : Int} (h : (Lit.int .u8 n).wf = true) : 0 ≤ n ∧ n ≤ 255 := by
  simp [Lit.wf, IntKind.min, IntKind.max, IntKind.signed, IntKind.bits] at h
  omega
section
variable {H : Type} {enc : TypeId × Value → H} {P : Program} {w : World}
/-- A slice that came in, with its data. -/
theorem open_readsF {t e : TypeId} {k fuel n cap : Nat} {a : Option Addr} {x : DataW H × List MemPlace} (ht : P.underlying t = some (.slice e)) (hk : P.cellsOf e = k) (hk0 : 0 < k)
    (h : DataW.trod enc P w 0 (fun _ => true) true fuel t [.slice a n cap] = some x) :
    ∃ (f : Nat) (cs : List Value) (ds : List (DataW H)), fuel = f + 1 ∧ cs.length = n * k ∧ Reads w k (.slice a n cap) cs ∧ ds.length = n ∧ ((∃ rest, x.1 = .slice ds rest) ∨ n = 0) ∧
      ∀ i, i < n → ∃ d p, ds[i]? = some d ∧ DataW.trod enc P w 0 (fun _ => true) true f e ((cs.drop (i * k)).take k) = some (d, p) := by
  obtain ⟨cs, hl, hr, _⟩ := open_reads ht hk hk0 h
  rcases DataW.trod_slice ht h with ⟨h0, hx⟩ | ⟨a', len, cap', elems, rest, f, rfl, h0, rfl, hb, hle, hm, hel, hbind, _, _⟩
  · injection h0 with h0 _
    injection h0 with h1 h2 h3
    subst h1 h2 h3
    cases fuel with
    | zero => simp [DataW.trod] at h
    | succ f => exact ⟨f, cs, [], rfl, hl, hr, rfl, .inr rfl, fun i hi => by omega⟩
  · injection h0 with h0 _
    injection h0 with h1 h2 h3
    subst h1 h2 h3
    refine ⟨f, cs, elems.map (·.1), rfl, hl, hr, by simpa using hel, .inl ⟨_, rfl⟩, fun i hi => ?_⟩
    have h1 := hbind i hi
    rw [hk] at h1
    obtain ⟨y, hy⟩ : ∃ y, elems[i]? = some y := ⟨_, List.getElem?_eq_getElem (by omega)⟩
    rw [hy] at h1
    obtain ⟨ci, hci, hti⟩ := Option.bind_eq_some_iff.1 h1
    obtain ⟨_, hlen, hcell⟩ := World.cells?_some hci
    refine ⟨y.1, y.2, by rw [List.getElem?_map, hy]; rfl, ?_⟩
    have e1 : (cs.drop (i * k)).take k = ci := by
      obtain ⟨a2, n2, cap2, e, _, _, _, hcl⟩ := hr
      cases e
      have hin : i * k + k ≤ n * k := by rw [← Nat.succ_mul]; exact Nat.mul_le_mul_right k hi
      rcases hcl with hcl | ⟨b, off, e, hcl⟩
      · rw [hcl] at hl
        simp at hl
        omega
      · cases e
        apply List.ext_getElem?
        intro j
        by_cases hj : j < k
        · rw [List.getElem?_take, if_pos hj, List.getElem?_drop]
          have h3 := hcell j hj
          rw [add_add, Addr.add_lit] at h3
          have h4 := hcl (i * k + j) (cs[i * k + j]'(by omega)) (by rw [List.getElem?_eq_getElem])
          rw [h4] at h3
          rw [List.getElem?_eq_getElem (by omega)]
          exact h3
        · rw [List.getElem?_take, if_neg hj, List.getElem?_eq_none (by omega)]
    rw [e1]; exact hti
end
section
variable {H : Type} {enc : TypeId × Value → H} {w : World}
set_option maxRecDepth 100000 in
/-- AN EXPRESSION THAT CAME IN. -/
theorem open_expr (fuel : Nat) : ∀ (cs : List Value) (x : DataW H × List MemPlace), DataW.trod enc Tryz.prog w 0 (fun _ => true) true fuel 40 cs = some x → ∃ ex : Ex, ExAt w cs.toArray ex := by
  induction fuel using Nat.strongRecOn with
  | ind fuel ih =>
    intro cs x h
    obtain ⟨xs, n, rfl, _, hl, hxl, hf⟩ := DataW.trod_struct Tryz.underlying40 h
    rw [show Tryz.prog.cellsOf 40 = 3 by kernel_rfl] at hl
    match cs, hl with
    | [c0, c1, c2], _ =>
      have g0 : DataW.trod enc Tryz.prog w 0 (fun _ => true) true n 5 ([c0, c1, c2].drop 0 |>.take (Tryz.prog.cellsOf 5)) = xs[0]? := hf 0 _ rfl
      have g1 : DataW.trod enc Tryz.prog w 0 (fun _ => true) true n 2 ([c0, c1, c2].drop 1 |>.take (Tryz.prog.cellsOf 2)) = xs[1]? := hf 1 _ rfl
      have g2 : DataW.trod enc Tryz.prog w 0 (fun _ => true) true n 38 ([c0, c1, c2].drop 2 |>.take (Tryz.prog.cellsOf 38)) = xs[2]? := hf 2 _ rfl
      rw [show Tryz.prog.cellsOf 5 = 1 by kernel_rfl] at g0
      rw [show Tryz.prog.cellsOf 2 = 1 by kernel_rfl] at g1
      rw [show Tryz.prog.cellsOf 38 = 1 by kernel_rfl] at g2
      simp only [List.drop_succ_cons, List.drop_zero, List.take_succ_cons, List.take_zero] at g0 g1 g2
      match xs, hxl with
      | [x0, x1, x2], _ =>
        obtain ⟨z0, hz0, _, hw0⟩ := DataW.trod_int Tryz.underlying5 g0
        obtain ⟨z1, hz1, _, hw1⟩ := DataW.trod_int Tryz.underlying2 g1
        injection hz0 with hz0 _
        injection hz1 with hz1 _
        subst hz0 hz1
        obtain ⟨sa, sn, sc, hs⟩ : ∃ sa sn sc, c2 = .slice sa sn sc := by
          rcases DataW.trod_slice Tryz.underlying38 g2 with ⟨e, _⟩ | ⟨_, _, _, _, _, _, _, e, _⟩
          · injection e with e _; exact ⟨_, _, _, e⟩
          · injection e with e _; exact ⟨_, _, _, e⟩
        subst hs
        obtain ⟨f, es, ds, rfl, hel, hre, _, _, heach⟩ := open_readsF (k := 3) Tryz.underlying38 (by kernel_rfl) (by omega) g2
        have each : ∀ i, i < sn → ∃ ex : Ex, ExAt w ((es.drop (i * 3)).take 3).toArray ex := by
          intro i hi
          obtain ⟨d, p, _, hd⟩ := heach i hi
          exact ih f (by omega) _ _ hd
        obtain ⟨X, hX⟩ := choose_lt each
        refine ⟨.mk z0 z1 ((List.range sn).map X), .mk (u8_of_wf hw0).1 (u8_of_wf hw0).2 (.of_wf hw1) hre (by simpa using hel) (fun i y hy => ?_)⟩
        rw [List.getElem?_map] at hy
        obtain ⟨i', hi', rfl⟩ := Option.map_eq_some_iff.1 hy
        obtain ⟨hlt, rfl⟩ := List.getElem?_eq_some_iff.1 hi'
        simp only [List.length_range] at hlt
        simpa using hX i hlt
end
end Go.Proofs.YtglbkodmmogomaaGreatDoor
/-
  A slice's first and last elements; strings in a slice.
-/
namespace Go.Proofs.YtglbkodmmogomaaGreatDoor
open Go Go.RowKit
section
variable {P : Program} {w : World} {a : Option Addr} {n cap k i : Nat} {cs : List Value} {T E : TypeId}
theorem run_slice_to (hT : P.underlying T = some (.slice E)) (hs : (sizeOf E).run P w = .ok k w) (hi : i ≤ n) (hc : n ≤ cap) : (Instr.slice T (.slice a n cap) none (some (.int .i64 (i : Int))) none).run P w = .ok (.slice a i cap) w := by
  have hb : (Instr.sliceBounds true n cap none (some (.int .i64 (i : Int))) none).run P w = .ok (0, i, cap) w := by
    simp [Instr.sliceBounds, Instr.sliceBound, asIntOf]
    intro h; omega
  simp only [Instr.slice, Sem.run_bind, run_underlying hT, Result.andThen_ok, hb, hs, Sem.run_pure]
  cases a with
  | none => simp
  | some a => simp [Addr.add]
theorem Reads.take (h : Reads w k (.slice a n cap) cs) (hi : i ≤ n) : Reads w k (.slice a i cap) (cs.take (i * k)) := by
  obtain ⟨a', n', cap', e, h1, h2, h3, h4⟩ := h
  cases e
  refine ⟨a, i, cap, rfl, by omega, h2, ?_, ?_⟩
  · rw [List.length_take, h3]
    exact Nat.min_eq_left (Nat.mul_le_mul_right k hi)
  · rcases h4 with h4 | ⟨b, off, rfl, h4⟩
    · left; rw [h4]; simp
    · right
      refine ⟨b, off, rfl, fun j x hx => h4 j x ?_⟩
      rw [List.getElem?_take] at hx
      split at hx
      · exact hx
      · cases hx
theorem run_slice_from (hT : P.underlying T = some (.slice E)) (hs : (sizeOf E).run P w = .ok k w) (hi : i ≤ n) (hc : n ≤ cap) :
    (Instr.slice T (.slice a n cap) (some (.int .i64 (i : Int))) none none).run P w = .ok (.slice (if cap = i then a else a.map (·.add (i * k))) (n - i) (cap - i)) w := by
  have hb : (Instr.sliceBounds true n cap (some (.int .i64 (i : Int))) none none).run P w = .ok (i, n, cap) w := by
    simp [Instr.sliceBounds, Instr.sliceBound, asIntOf]
    intro h; omega
  simp only [Instr.slice, Sem.run_bind, run_underlying hT, Result.andThen_ok, hb, hs, Sem.run_pure]
theorem Reads.drop (h : Reads w k (.slice a n cap) cs) (hi : i ≤ n) : Reads w k (.slice (if cap = i then a else a.map (·.add (i * k))) (n - i) (cap - i)) (cs.drop (i * k)) := by
  obtain ⟨a', n', cap', e, h1, h2, h3, h4⟩ := h
  cases e
  refine ⟨_, n - i, cap - i, rfl, by omega, by omega, by rw [List.length_drop, h3, Nat.sub_mul], ?_⟩
  rcases h4 with h4 | ⟨b, off, rfl, h4⟩
  · left; rw [h4]; simp
  · by_cases hc : cap = i
    · left
      exact List.drop_eq_nil_of_le (by rw [h3]; exact Nat.mul_le_mul_right k (by omega))
    · right
      refine ⟨b, off + i * k, by rw [if_neg hc]; simp only [Option.map_some]; rw [Addr.add_lit], fun j x hx => ?_⟩
      rw [Nat.add_assoc]
      rw [List.getElem?_drop] at hx
      exact h4 (i * k + j) x hx
end
def strs (l : List ByteArray) : List Value := l.map Value.string
@[simp] theorem strs_length (l : List ByteArray) : (strs l).length = l.length := by simp [strs]
theorem Reads.atS {w : World} {v : Value} {l : List ByteArray} (h : Reads w 1 v (strs l)) : ∃ a cap, v = .slice a l.length cap ∧ l.length ≤ cap ∧ cap ≤ maxLen ∧ (l = [] ∨ ∃ b off, a = some ⟨b, off, none⟩ ∧ ∀ i x, l[i]? = some x → w.cell? ⟨b, off + i, none⟩ = some (.string x)) := by
  obtain ⟨a, n, cap, rfl, h1, h2, h3, h4⟩ := h
  have hn : n = l.length := by simpa using h3.symm
  subst hn
  refine ⟨a, cap, rfl, h1, h2, ?_⟩
  rcases h4 with h4 | ⟨b, off, rfl, h4⟩
  · left
    have : (strs l).length = 0 := by rw [h4]; rfl
    rw [strs_length] at this
    exact List.eq_nil_of_length_eq_zero this
  · exact .inr ⟨b, off, rfl, fun i x hx => h4 i _ (by simp [strs, hx])⟩
end Go.Proofs.YtglbkodmmogomaaGreatDoor
/-
  The plain law of a job: how many parts its expressions have, told in two ways.
-/
namespace Go.Proofs.YtglbkodmmogomaaGreatDoor
mutual
/-- How many expressions one has, itself too. -/
def exSize : Ex → Nat
  | .mk _ _ l => 1 + exSizes l
def exSizes : List Ex → Nat
  | [] => 0
  | x :: l => exSize x + exSizes l
end
mutual
/-- The program's count: what is left. -/
def cntR : Ex → Nat → Nat
  | .mk _ _ l, left => if 0 < left then cntL l (left - 1) else left
def cntL : List Ex → Nat → Nat
  | [], left => left
  | x :: l, left => cntL l (cntR x left)
end
mutual
theorem cntR_eq : ∀ (x : Ex) (left : Nat), cntR x left = left - exSize x
  | .mk o n l, left => by
    unfold cntR exSize
    by_cases h : 0 < left
    · rw [if_pos h, cntL_eq l]; omega
    · rw [if_neg h]; omega
theorem cntL_eq : ∀ (l : List Ex) (left : Nat), cntL l left = left - exSizes l
  | [], left => by unfold cntL exSizes; omega
  | x :: l, left => by
    unfold cntL exSizes
    rw [cntL_eq l, cntR_eq x]
    omega
end
/-- What a kind asks for. -/
def jLeast (k : Int) : Nat := if k = 1 then 0 else if k = 8 then 2 else 1
def jMost (k : Int) : Nat := if k = 1 then 0 else if k = 8 then 3 else 1
def jTy (k : Int) : Int := if k = 3 then 2 else if k = 2 ∨ k = 4 ∨ k = 5 ∨ k = 6 then 1 else 0
def jAcc (k : Int) : Bool := k == 6
def jN (k : Int) : Int := if k = 7 then 16 else 0
/-- The program's rule of a node: of its name, its kind, how many it reads, whether these may be read, whether it has no expression, its expression's type, its number. -/
def mayP (name : Bool) (k : Int) (ins : Nat) (good : Bool) (none : Bool) (ty : Bool → Int → Bool) (n : Int) : Bool :=
  if name = false ∨ k < 1 ∨ 9 < k then false
  else if ins < jLeast k ∨ jMost k < ins ∨ good = false then false
  else if n < min (jN k) 1 ∨ jN k < n then false
  else if jTy k = 0 then none else ty (jAcc k) (jTy k)
end Go.Proofs.YtglbkodmmogomaaGreatDoor
/-
  The runes of a text, and a walk over them.
-/
namespace Go.Proofs.YtglbkodmmogomaaGreatDoor
open Go Go.RowKit
/-- The runes of a text from a place on: where each begins, and which it is. -/
def runesFrom (s : ByteArray) : Nat → Nat → List (Nat × Nat)
  | 0, _ => []
  | f + 1, i => if i < s.size then (i, (Utf8.decode s i).1) :: runesFrom s f (i + (Utf8.decode s i).2) else []
def runes (s : ByteArray) : List (Nat × Nat) := runesFrom s s.size 0
theorem decode_wide (s : ByteArray) (pos : Nat) (h : pos < s.size) : 1 ≤ (Utf8.decode s pos).2 := by
  by_cases ha : (s[pos]'h).toNat < 128
  · rw [decode_ascii s pos h ha]; exact Nat.le_refl _
  · exact (decode_high s pos h (by omega)).2
theorem runesFrom_length (s : ByteArray) : ∀ f i, (runesFrom s f i).length ≤ f
  | 0, _ => Nat.zero_le _
  | f + 1, i => by
    unfold runesFrom
    split
    · rw [List.length_cons]; have := runesFrom_length s f (i + (Utf8.decode s i).2); omega
    · exact Nat.zero_le _
theorem runes_length (s : ByteArray) : (runes s).length ≤ s.size := runesFrom_length s _ _
theorem runesFrom_in (s : ByteArray) : ∀ f i p, p ∈ runesFrom s f i → i ≤ p.1 ∧ p.1 < s.size ∧ p.2 ≤ 2147483647
  | 0, _, _, h => by cases h
  | f + 1, i, p, h => by
    unfold runesFrom at h
    split at h
    · rename_i hi
      rcases List.mem_cons.1 h with rfl | h
      · exact ⟨Nat.le_refl _, hi, decode_le s i⟩
      · have := runesFrom_in s f _ p h
        exact ⟨by omega, this.2⟩
    · cases h
theorem runes_in {s : ByteArray} {p : Nat × Nat} (h : p ∈ runes s) : p.1 < s.size ∧ p.2 ≤ 2147483647 := (runesFrom_in s _ _ p h).2
/-- Block r is a walk over s, of whose runes 'left' are still to come. -/
def RunAt (w : World) (r : Nat) (s : ByteArray) (left : List (Nat × Nat)) : Prop :=
  ∃ pos f, w.heap[r]? = some (.stringIter s pos) ∧ s.size ≤ pos + f ∧ runesFrom s f pos = left
theorem RunAt.lt {w : World} {r : Nat} {s : ByteArray} {left : List (Nat × Nat)} (h : RunAt w r s left) : r < w.heap.size := by
  obtain ⟨pos, f, h, _⟩ := h
  exact (Array.getElem?_eq_some_iff.1 h).1
theorem RunAt.kept {w w' : World} {r : Nat} {s : ByteArray} {left : List (Nat × Nat)} {S : Nat → Prop} (h : RunAt w r s left) (hk : Kept S w w') (hr : ¬ S r) : RunAt w' r s left := by
  obtain ⟨pos, f, h1, h2, h3⟩ := h
  exact ⟨pos, f, hk.heap h1 hr, h2, h3⟩
theorem RunAt.notCells {w : World} {r : Nat} {s : ByteArray} {left : List (Nat × Nat)} (h : RunAt w r s left) : ∀ c E f, w.heap[r]? ≠ some (.cells c E f) := by
  obtain ⟨pos, f, h, _⟩ := h
  intro c E g e
  rw [h] at e; cases e
section
variable {P : Program}
theorem run_range_str (w : World) (t : TypeId) (s : ByteArray) (h : P.underlying t = some .string) :
    ∃ w', (Instr.range t (.string s)).run P w = .ok (.pointer (some ⟨w.heap.size, 0, none⟩)) w' ∧ RunAt w' w.heap.size s (runes s) ∧ Kept none' w w' ∧ w'.heap.size = w.heap.size + 1 :=
  ⟨w.iter s 0, run_range_string w t s h, ⟨0, s.size, World.iter_heap w s 0, by omega, rfl⟩, (Kept.refl _ _).alloc _, by simp [World.iter]⟩
theorem RunAt.next {w : World} {r : Nat} {s : ByteArray} {left : List (Nat × Nat)} (h : RunAt w r s left) (ty : TypeId) :
    (left = [] ∧ (Instr.next (.pointer (some ⟨r, 0, none⟩)) true ty).run P w = .ok (.tuple #[.bool false]) w) ∨
    ∃ p left' w', left = p :: left' ∧ (Instr.next (.pointer (some ⟨r, 0, none⟩)) true ty).run P w = .ok (.tuple #[.bool true, .int .i64 p.1, .int .i32 p.2]) w' ∧ RunAt w' r s left' ∧ Kept (one r) w w' ∧ w'.heap.size = w.heap.size := by
  obtain ⟨pos, f, h1, h2, rfl⟩ := h
  have hr : r < w.heap.size := (Array.getElem?_eq_some_iff.1 h1).1
  by_cases hp : pos < s.size
  · right
    cases f with
    | zero => omega
    | succ f =>
      have hw := decode_wide s pos hp
      refine ⟨(pos, (Utf8.decode s pos).1), runesFrom s f (pos + (Utf8.decode s pos).2), { w with heap := w.heap.setIfInBounds r (.stringIter s (pos + (Utf8.decode s pos).2)) }, ?_, ?_, ⟨_, f, ?_, by omega, rfl⟩, ⟨rfl, rfl, rfl, by simp, fun k _ hk => ?_⟩, by simp⟩
      · rw [runesFrom, if_pos hp]
      · simp [Instr.next, getObj, setObj, Sem.run, h1, hp, goInt]
      · simp [hr]
      · rw [setObj_heap _ (fun e => hk e.symm)]
  · left
    refine ⟨?_, ?_⟩
    · cases f with
      | zero => rfl
      | succ f => rw [runesFrom, if_neg hp]
    · simp [Instr.next, getObj, Sem.run, h1, hp]
end
end Go.Proofs.YtglbkodmmogomaaGreatDoor
/-
  JOBS IN PLAIN WORDS: names, nodes, whether a job may be, ideals, what is fed, states, what is carried.
-/
namespace Go.Proofs.YtglbkodmmogomaaGreatDoor
open Go Go.RowKit
instance baDec : DecidableEq ByteArray := fun a b => decidable_of_iff (a.data = b.data) ⟨fun h => by cases a; cases b; simp_all, fun h => by rw [h]⟩
theorem ba_beq (a b : ByteArray) : (a == b) = decide (a = b) := by
  have h : (a == b) = (a.data == b.data) := by cases a; cases b; rfl
  rw [h]
  by_cases e : a = b
  · subst e; simp
  · rw [decide_eq_false e]
    refine Bool.eq_false_iff.2 fun hd => e ?_
    have := eq_of_beq hd
    cases a; cases b; simp_all
instance baLawful : LawfulBEq ByteArray where
  eq_of_beq h := by rw [ba_beq] at h; exact of_decide_eq_true h
  rfl := fun {a} => (ba_beq a a).trans (decide_eq_true rfl)
/-- Runes of names. -/
def letterB (r : Nat) : Bool := (decide (97 ≤ r) && decide (r ≤ 122)) || (decide (65 ≤ r) && decide (r ≤ 90)) || (decide (191 < r) && r != 65533)
def laterB (r : Nat) : Bool := letterB r || (decide (48 ≤ r) && decide (r ≤ 57)) || r == 45
def nameL : List (Nat × Nat) → Bool
  | [] => false
  | p :: l => letterB p.2 && (p :: l).all (fun q => laterB q.2) && decide ((p :: l).length ≤ 24)
def nameOk (s : ByteArray) : Bool := nameL (runes s)
/-- A node of a job. -/
structure JN where
  uid : ByteArray
  kind : Int
  ins : List Int
  x : Ex
  n : Int
instance : Inhabited JN := ⟨⟨ByteArray.empty, 0, [], default, 0⟩⟩
def JN.nod (d : JN) : Nod := ⟨d.kind, d.x, d.n⟩
structure Jb where
  par : Int
  nodes : List JN
def exNone (x : Ex) : Bool := x.op == 0 && x.n == 0 && x.args.isEmpty
mutual
/-- Is there an acc in an expression? -/
def exAccs : Ex → Bool
  | .mk o _ l => o == 4 || exAccsL l
def exAccsL : List Ex → Bool
  | [] => false
  | x :: l => exAccs x || exAccsL l
end
theorem exAccsL_any : ∀ l : List Ex, exAccsL l = l.any exAccs
  | [] => by simp [exAccsL]
  | x :: l => by simp [exAccsL, exAccsL_any l]
/-- Its type and the error of its kind. -/
def kindA (x : Ex) (acc : Bool) : Int × Int :=
  if exMay 16 x = false then (0, 2) else if acc = false ∧ exAccs x = true then (0, 90) else if exTy 16 x = 0 then (0, 91) else (exTy 16 x, 0)
def exIs (x : Ex) (acc : Bool) (ty : Int) : Bool := (kindA x acc).2 == 0 && (kindA x acc).1 == ty
def goodIns (ins : List Int) (at_ : Nat) : Bool := decide ins.Nodup && ins.all fun k => decide (0 ≤ k) && decide (k < (at_ : Int))
def mayN (at_ : Nat) (d : JN) : Bool := mayP (nameOk d.uid) d.kind d.ins.length (goodIns d.ins at_) (exNone d.x) (fun acc ty => exIs d.x acc ty) d.n
def wayOf (W : List Int) (d : JN) : Int := if d.kind = 1 then 1 else (d.ins.map fun k => W.getD k.toNat 0).sum * (if d.kind = 4 then 4 else 1)
def waysL (nodes : List JN) : List Int := nodes.foldl (fun W d => W ++ [wayOf W d]) []
def readersN (nodes : List JN) (i : Nat) : Nat := nodes.countP fun d => d.ins.contains (i : Int)
def flatsN (nodes : List JN) (i : Nat) : Nat := (nodes.take (i + 1)).countP fun d => d.kind == 4
def shapeBad (nodes : List JN) (i : Nat) (d : JN) : Bool :=
  (decide (d.kind = 1) != decide (i = 0)) || (decide (d.kind = 9) != decide (i + 1 = nodes.length)) || (decide (readersN nodes i = 0) != decide (i + 1 = nodes.length)) ||
    decide (3 < readersN nodes i) || decide (2 < flatsN nodes i) || decide (64 < (waysL nodes).getD i 0)
def headBad (j : Jb) : Bool := decide (j.par < 1) || decide (4 < j.par) || decide (j.nodes.length < 2) || decide (12 < j.nodes.length) || decide (1000 < 1001 - cntL (j.nodes.map (·.x)) 1001)
def uidBad (nodes : List JN) (i : Nat) (d : JN) : Bool := decide (d.uid ∈ (nodes.take i).map fun e : JN => e.uid)
/-- A job may be. -/
def jobOk (j : Jb) : Bool := !headBad j && (List.range j.nodes.length).all fun i => mayN i (j.nodes.getD i default) && !uidBad j.nodes i (j.nodes.getD i default) && !shapeBad j.nodes i (j.nodes.getD i default)
theorem jobOk_get {j : Jb} (h : jobOk j = true) : headBad j = false ∧ ∀ i d, j.nodes[i]? = some d → mayN i d = true ∧ uidBad j.nodes i d = false ∧ shapeBad j.nodes i d = false := by
  unfold jobOk at h
  rw [Bool.and_eq_true, List.all_eq_true] at h
  refine ⟨by simpa using h.1, fun i d hd => ?_⟩
  have hi : i < j.nodes.length := (List.getElem?_eq_some_iff.1 hd).1
  have := h.2 i (List.mem_range.2 hi)
  rw [List.getD_eq_getElem?_getD, hd] at this
  simpa [and_assoc] using this
theorem jobOk_mk {j : Jb} (h0 : headBad j = false) (h : ∀ i d, j.nodes[i]? = some d → mayN i d = true ∧ uidBad j.nodes i d = false ∧ shapeBad j.nodes i d = false) : jobOk j = true := by
  unfold jobOk
  rw [Bool.and_eq_true, List.all_eq_true]
  refine ⟨by simp [h0], fun i hi => ?_⟩
  have hi := List.mem_range.1 hi
  have := h i _ (List.getElem?_eq_getElem hi)
  rw [List.getD_eq_getElem?_getD, List.getElem?_eq_getElem hi]
  simpa [and_assoc] using this
def stateful (k : Int) : Bool := k == 6 || k == 7
def findJ (nodes : List JN) (uid : ByteArray) : Int := match nodes.findIdx? (fun d => decide (d.uid = uid)) with | some i => (i : Int) | none => -1
/-! ### Ideals -/
abbrev Tabs := List (Option Tab)
abbrev St := ByteArray × ByteArray
def fitsCell (kind n : Int) (c : Cell) : Bool := !(decide (kind = 6) && decide (0 < c.2.length)) && !(decide (kind = 7) && (decide (c.1 ≠ 0) || decide (c.2.length < 1) || decide (n ≤ (c.2.length : Int))))
def fitsP (kind n : Int) (T : Tab) : Bool := stateful kind && T.all fun p => fitsCell kind n p.2
def feedStep (nodes : List JN) (r : Rec) (st : List (List Rec) × Tabs) (i : Nat) : List (List Rec) × Tabs :=
  (st.1 ++ [(doNode (nodes.getD i default).nod ((st.2.getD i none).getD []) (if i = 0 then [r] else getsL (nodes.getD i default).kind ((nodes.getD i default).ins.map fun k => st.1.getD k.toNat []))).1],
   st.2.set i ((st.2.getD i none).map fun _ => (doNode (nodes.getD i default).nod ((st.2.getD i none).getD []) (if i = 0 then [r] else getsL (nodes.getD i default).kind ((nodes.getD i default).ins.map fun k => st.1.getD k.toNat []))).2))
def feedK (nodes : List JN) (r : Rec) (Ts : Tabs) : Nat → List (List Rec) × Tabs
  | 0 => ([], Ts)
  | k + 1 => feedStep nodes r (feedK nodes r Ts k) k
/-- What comes out of a record, and the tables behind it. -/
def feedP (nodes : List JN) (Ts : Tabs) (key val : Int) : List Rec × Tabs :=
  (smerge ((feedK nodes ⟨1, key, val⟩ Ts nodes.length).1.getD (nodes.length - 1) []), (feedK nodes ⟨1, key, val⟩ Ts nodes.length).2)
def fillL (nodes : List JN) (Ts : Tabs) : Tabs := List.zipWith (fun (d : JN) (t : Option Tab) => if t.isNone && stateful d.kind then some [] else t) nodes Ts
end Go.Proofs.YtglbkodmmogomaaGreatDoor
/-
  slices.Contains, Index at ints and strings; job: twice, Stateful.
-/
namespace Go.Proofs.YtglbkodmmogomaaGreatDoor
open Go Go.RowKit
def IdxQ (w : World) (l : List Int) (g : Int) (e : Ending) (w' : World) : Prop := ∃ n : Int, e = .returned (.int .i64 n) ∧ (0 ≤ n ↔ g ∈ l) ∧ w = w'
set_option maxRecDepth 100000 in
set_option maxHeartbeats 1000000 in
theorem indexI_any (v : Value) (l : List Int) (g : Int) (w : World) (h : Reads w 1 v (ints l)) : Calls Tryz.prog 168 #[v, .int .i64 g] w (IdxQ w l g) := by
  obtain ⟨pa, ca, rfl, a1, a2, a3⟩ := h.at
  unfold maxLen at a2
  have A3 := Lib.hid a3
  clear h a3
  go_enter Tryz.func168, Tryz.ntmps168
  go_wp2_with fail
  go_loopw [8] (fun i wr => ∃ k : Nat, k ≤ l.length ∧ i = .int .i64 (k : Int) ∧ g ∉ l.take k ∧ wr = w) (fun i _ => l.length - (intOf i).toNat)
  case atStart => exact ⟨0, by omega, rfl, by simp, rfl⟩
  case round =>
    obtain ⟨k, hk, rfl, ht, rfl⟩ := hrel
    have HT := Lib.hid ht
    clear ht
    by_cases hlt : k < l.length
    · obtain ⟨y, hy⟩ : ∃ y, l[k]? = some y := ⟨_, List.getElem?_eq_getElem hlt⟩
      obtain ⟨b, off, rfl, hc⟩ := A3.out.resolve_left (fun h => by rw [h] at hlt; simp at hlt)
      have y0 := hc k y hy
      have HY := Lib.hid hy
      clear hc hy A3
      by_cases he : g = y
      · subst he
        go_wp2_with fail
        go_ret
        exact ⟨k, rfl, ⟨fun _ => List.mem_of_getElem? HY.out, fun _ => by omega⟩, rfl⟩
      · go_wp2_with fail
        go_roundw
        case rel =>
          refine ⟨k + 1, by omega, by go_num, ?_, by first | trivial | rfl⟩
          rw [List.take_add_one, HY.out]
          simp [HT.out, he]
        case measure => simp [intOf]; omega
    · have hE : g ∉ l := by have := HT.out; rwa [List.take_of_length_le (by omega)] at this
      have HE := Lib.hid hE
      have e1 : k = l.length := by omega
      subst e1
      go_wp2_with fail
      go_ret
      exact ⟨-1, rfl, ⟨fun h => absurd h (by decide), fun h => absurd h HE.out⟩, rfl⟩
set_option maxRecDepth 100000 in
theorem containsI_any (v : Value) (l : List Int) (g : Int) (w : World) (h : Reads w 1 v (ints l)) : Calls Tryz.prog 134 #[v, .int .i64 g] w (fun e w' => e = .returned (.bool (decide (g ∈ l))) ∧ w = w') := by
  have c := indexI_any v l g w h
  obtain ⟨pa, ca, rfl, a1, a2, a3⟩ := h.at
  clear h a3
  go_enter Tryz.func134, Tryz.ntmps134
  go_wp2_with fail
  refine c.mono ?_
  rintro e w2 ⟨n, rfl, hn, rfl⟩
  have F := Lib.hid (show decide (g ∈ l) = decide (0 ≤ n) from decide_eq_decide.2 hn.symm)
  clear hn
  go_wp2_with fail
  go_ret
  exact ⟨ret_bool (by rw [F.out]), rfl⟩
theorem str_eq (a b : ByteArray) : (a.toList == b.toList) = decide (a = b) := by rw [← beq_toListBytes, ba_beq]
def IdxSQ (w : World) (l : List ByteArray) (g : ByteArray) (e : Ending) (w' : World) : Prop := ∃ n : Int, e = .returned (.int .i64 n) ∧ (0 ≤ n ↔ g ∈ l) ∧ w = w'
set_option maxRecDepth 100000 in
set_option maxHeartbeats 1000000 in
theorem indexS_any (v : Value) (l : List ByteArray) (g : ByteArray) (w : World) (h : Reads w 1 v (strs l)) : Calls Tryz.prog 167 #[v, .string g] w (IdxSQ w l g) := by
  obtain ⟨pa, ca, rfl, a1, a2, a3⟩ := h.atS
  unfold maxLen at a2
  have A3 := Lib.hid a3
  clear h a3
  go_enter Tryz.func167, Tryz.ntmps167
  go_wp2_with fail
  go_loopw [8] (fun i wr => ∃ k : Nat, k ≤ l.length ∧ i = .int .i64 (k : Int) ∧ g ∉ l.take k ∧ wr = w) (fun i _ => l.length - (intOf i).toNat)
  case atStart => exact ⟨0, by omega, rfl, by simp, rfl⟩
  case round =>
    obtain ⟨k, hk, rfl, ht, rfl⟩ := hrel
    have HT := Lib.hid ht
    clear ht
    by_cases hlt : k < l.length
    · obtain ⟨y, hy⟩ : ∃ y, l[k]? = some y := ⟨_, List.getElem?_eq_getElem hlt⟩
      obtain ⟨b, off, rfl, hc⟩ := A3.out.resolve_left (fun h => by rw [h] at hlt; simp at hlt)
      have y0 := hc k y hy
      have HY := Lib.hid hy
      clear hc hy A3
      by_cases he : g = y
      · subst he
        have hse : (g.toList == g.toList) = true := by simp
        go_wp2_with fail
        go_ret
        exact ⟨k, rfl, ⟨fun _ => List.mem_of_getElem? HY.out, fun _ => by omega⟩, rfl⟩
      · have hse : (g.toList == y.toList) = false := by rw [str_eq, decide_eq_false he]
        go_wp2_with fail
        go_roundw
        case rel =>
          refine ⟨k + 1, by omega, by go_num, ?_, by first | trivial | rfl⟩
          rw [List.take_add_one, HY.out]
          simp [HT.out, he]
        case measure => simp [intOf]; omega
    · have hE : g ∉ l := by have := HT.out; rwa [List.take_of_length_le (by omega)] at this
      have HE := Lib.hid hE
      have e1 : k = l.length := by omega
      subst e1
      go_wp2_with fail
      go_ret
      exact ⟨-1, rfl, ⟨fun h => absurd h (by decide), fun h => absurd h HE.out⟩, rfl⟩
set_option maxRecDepth 100000 in
theorem containsS_any (v : Value) (l : List ByteArray) (g : ByteArray) (w : World) (h : Reads w 1 v (strs l)) : Calls Tryz.prog 133 #[v, .string g] w (fun e w' => e = .returned (.bool (decide (g ∈ l))) ∧ w = w') := by
  have c := indexS_any v l g w h
  obtain ⟨pa, ca, rfl, a1, a2, a3⟩ := h.atS
  clear h a3
  go_enter Tryz.func133, Tryz.ntmps133
  go_wp2_with fail
  refine c.mono ?_
  rintro e w2 ⟨n, rfl, hn, rfl⟩
  have F := Lib.hid (show decide (g ∈ l) = decide (0 ≤ n) from decide_eq_decide.2 hn.symm)
  clear hn
  go_wp2_with fail
  go_ret
  exact ⟨ret_bool (by rw [F.out]), rfl⟩

theorem size3 (w : World) : (sizeOf 3).run Tryz.prog w = .ok 1 w := by kernel_rfl
theorem size9 (w : World) : (sizeOf 9).run Tryz.prog w = .ok 1 w := by kernel_rfl
theorem nodup_take {α : Type} [DecidableEq α] {l : List α} {k : Nat} {x : α} (hx : l[k]? = some x) : (l.take (k + 1)).Nodup ↔ (l.take k).Nodup ∧ x ∉ l.take k := by
  rw [List.take_add_one, hx]
  simp only [Option.toList_some]
  rw [List.nodup_append]
  constructor
  · rintro ⟨h1, _, h2⟩
    exact ⟨h1, fun h => h2 x h x (by simp) rfl⟩
  · rintro ⟨h1, h2⟩
    exact ⟨h1, by simp, fun a ha b hb e => h2 (by rw [List.mem_singleton] at hb; rw [← hb, ← e]; exact ha)⟩
theorem not_nodup {α : Type} {l : List α} {k : Nat} {x : α} (hx : l[k]? = some x) (h : x ∈ l.take k) : ¬ l.Nodup := by
  intro hn
  have h2 := hn.sublist (List.take_sublist (k + 1) l)
  rw [List.take_add_one, hx, Option.toList_some, List.nodup_append] at h2
  exact h2.2.2 x h x (by simp) rfl
set_option maxRecDepth 100000 in
set_option maxHeartbeats 1000000 in
theorem twiceI_any (v : Value) (l : List Int) (w : World) (h : Reads w 1 v (ints l)) : Calls Tryz.prog 128 #[v] w (fun e w' => e = .returned (.bool (!decide l.Nodup)) ∧ w = w') := by
  have hR := h
  obtain ⟨pa, ca, rfl, a1, a2, a3⟩ := h.at
  have A3 := Lib.hid (And.intro a3 hR)
  clear a3 hR
  have hlen : l.length ≤ 9223372036854775807 := by unfold maxLen at a2; omega
  go_enter Tryz.func128, Tryz.ntmps128
  go_wp2_with fail
  go_loopg [7] l.length (fun m vk wr => ∃ k : Nat, k ≤ l.length ∧ m = l.length - k ∧ vk = .int .i64 (k : Int) ∧ (l.take k).Nodup ∧ wr = w)
  case atStart => exact ⟨0, Nat.zero_le _, rfl, rfl, by simp, rfl⟩
  case round =>
    obtain ⟨k, hk, hm, rfl, ht, rfl⟩ := hrel
    have HT := Lib.hid (And.intro ht hm)
    clear ht hm
    by_cases hlt : k < l.length
    · obtain ⟨y, hy⟩ : ∃ y, l[k]? = some y := ⟨_, List.getElem?_eq_getElem hlt⟩
      obtain ⟨b, off, rfl, hc⟩ := A3.out.1.resolve_left (fun h => by rw [h] at hlt; simp at hlt)
      have y0 := hc k y hy
      have hsl := run_slice_to (P := Tryz.prog) (w := wr) (a := some ⟨b, off, none⟩) (n := l.length) (cap := ca) (i := k) Tryz.underlying37 (size3 wr) (by omega) a1
      have hrd := Reads.take A3.out.2 (i := k) (by omega)
      have hrd' : Reads wr 1 (.slice (some ⟨b, off, none⟩) k ca) (ints (l.take k)) := by
        have : (ints l).take (k * 1) = ints (l.take k) := by rw [Nat.mul_one]; unfold ints; rw [List.map_take]
        rwa [this] at hrd
      have cc := containsI_any _ (l.take k) y wr hrd'
      have HY := Lib.hid hy
      clear hc hy A3 hrd hrd'
      by_cases hm : y ∈ l.take k
      · have e1 : decide (y ∈ l.take k) = true := decide_eq_true hm
        rw [e1] at cc
        have F := Lib.hid (not_nodup HY.out hm)
        clear hm e1
        go_wp2_with (go_at_call 134; refine cc.mono ?_; rintro e w' ⟨rfl, rfl⟩)
        go_ret
        exact ⟨ret_bool (by rw [decide_eq_false F.out]; rfl), rfl⟩
      · have e1 : decide (y ∈ l.take k) = false := decide_eq_false hm
        rw [e1] at cc
        have F := Lib.hid ((nodup_take HY.out).2 ⟨HT.out.1, hm⟩)
        clear hm e1
        go_wp2_with (go_at_call 134; refine cc.mono ?_; rintro e w' ⟨rfl, rfl⟩)
        go_roundg (l.length - (k + 1))
        case rel => exact ⟨k + 1, by omega, rfl, by go_num, F.out, rfl⟩
        case measure => have := HT.out.2; omega
    · have e1 : k = l.length := by omega
      subst e1
      have F := Lib.hid (show l.Nodup by have := HT.out.1; rwa [List.take_length] at this)
      clear HT
      go_wp2_with fail
      go_ret
      exact ⟨ret_bool (by rw [decide_eq_true F.out]; rfl), rfl⟩
set_option maxRecDepth 100000 in
theorem stateful_any (k : Int) (w : World) : Calls Tryz.prog 59 #[.int .u8 k] w fun e w' => e = .returned (.bool (stateful k)) ∧ w = w' := by
  have hs : stateful k = (k == 6 || k == 7) := rfl
  by_cases h6 : k = 6
  · subst h6
    go_enter Tryz.func59, Tryz.ntmps59
    go_wp2
    go_ret
    exact ⟨rfl, rfl⟩
  · have h6' : (k == 6) = false := by simp [h6]
    rw [h6', Bool.false_or] at hs
    go_enter Tryz.func59, Tryz.ntmps59
    go_wp2
    go_ret
    exact ⟨ret_bool hs.symm, rfl⟩
end Go.Proofs.YtglbkodmmogomaaGreatDoor
