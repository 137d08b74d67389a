/-
  names: letters, names, of any text.
-/
import Derived.Test.YtglbkodmmogomaaGreatDoorProg
import Derived.Test.YtglbkodmmogomaaGreatDoorF20
import Derived.Test.YtglbkodmmogomaaGreatDoorF01
import Derived.Deep.LoopGhost
import Derived.Test.YtglbkodmmogomaaGreatDoorF03
set_option linter.unusedVariables false
set_option linter.unusedSimpArgs false
namespace Go.Proofs.YtglbkodmmogomaaGreatDoor
open Go Go.RowKit
theorem rbool' {a b : Bool} (h : a = b) : Ending.returned (.bool a) = .returned (.bool b) := by rw [h]
theorem letterB_iff (r : Nat) : letterB r = true ↔ (97 ≤ (r : Int) ∧ (r : Int) ≤ 122) ∨ (65 ≤ (r : Int) ∧ (r : Int) ≤ 90) ∨ (191 < (r : Int) ∧ (r : Int) ≠ 65533) := by
  unfold letterB
  simp only [Bool.or_eq_true, Bool.and_eq_true, decide_eq_true_eq, bne_iff_ne, ne_eq]
  omega
theorem laterB_iff (r : Nat) : laterB r = true ↔ letterB r = true ∨ (48 ≤ (r : Int) ∧ (r : Int) ≤ 57) ∨ (r : Int) = 45 := by
  unfold laterB
  simp only [Bool.or_eq_true, Bool.and_eq_true, decide_eq_true_eq, beq_iff_eq]
  have e : r = 45 ↔ (r : Int) = 45 := by omega
  have e1 : 48 ≤ r ∧ r ≤ 57 ↔ 48 ≤ (r : Int) ∧ (r : Int) ≤ 57 := by omega
  rw [or_assoc, e, e1]
theorem name_end {s : ByteArray} (hd : ∀ q ∈ runes s, laterB q.2 = true) (hh : ∀ q, (runes s).head? = some q → letterB q.2 = true) :
    nameOk s = (decide (0 < ((runes s).length : Int)) && decide (((runes s).length : Int) ≤ 24)) := by
  unfold nameOk
  cases e : runes s with
  | nil => rfl
  | cons p l =>
    rw [e] at hd hh
    show (letterB p.2 && (p :: l).all (fun q => laterB q.2) && decide ((p :: l).length ≤ 24)) = _
    rw [hh p rfl, List.all_eq_true.2 hd, Bool.true_and, Bool.true_and, decide_eq_true (show 0 < ((p :: l).length : Int) by simp), Bool.true_and]
    exact decide_eq_decide.2 (by omega)
theorem name_no {s : ByteArray} {done left : List (Nat × Nat)} {p : Nat × Nat} (h : runes s = done ++ p :: left) (hp : (done = [] ∧ letterB p.2 = false) ∨ laterB p.2 = false) : nameOk s = false := by
  unfold nameOk
  rw [h]
  rcases hp with ⟨rfl, hp⟩ | hp
  · rw [List.nil_append, nameL, hp]; rfl
  · have : ∀ l : List (Nat × Nat), p ∈ l → nameL l = false := by
      intro l hl
      cases l with
      | nil => rfl
      | cons q l =>
        have : (q :: l).all (fun q => laterB q.2) = false := List.all_eq_false.2 ⟨p, hl, by simp [hp]⟩
        rw [nameL, this]; simp
    exact this _ (by simp)
set_option maxRecDepth 100000 in
theorem letter_any (r : Nat) (w : World) : Calls Tryz.prog 162 #[.int .i32 (r : Int)] w fun e w' => e = .returned (.bool (letterB r)) ∧ w = w' := by
  go_enter Tryz.func162, Tryz.ntmps162
  go_wp2
  all_goals
    go_ret
    refine ⟨rbool' ?_, rfl⟩
    rw [Bool.eq_iff_iff, letterB_iff]
    simp only [Bool.or_eq_true, decide_eq_true_eq, bne_iff_ne, ne_eq, Bool.false_eq_true, true_iff, false_iff]
    omega
set_option maxRecDepth 100000 in
theorem later_any (r : Nat) (w : World) : Calls Tryz.prog 163 #[.int .i32 (r : Int)] w fun e w' => e = .returned (.bool (laterB r)) ∧ w = w' := by
  have hr := laterB_iff r
  go_enter Tryz.func163, Tryz.ntmps163
  go_wp2_with (go_at_call 162; refine (letter_any _ _).mono ?_; rintro e w' ⟨rfl, rfl⟩)
  all_goals
    go_ret
    refine ⟨rbool' ?_, rfl⟩
    rw [Bool.eq_iff_iff, hr]
    simp only [Bool.or_eq_true, decide_eq_true_eq, beq_iff_eq, Bool.false_eq_true, true_or, false_or, true_and, *]
    try omega
set_option maxRecDepth 100000 in
set_option maxHeartbeats 1000000 in
theorem name_any (s : ByteArray) (hs : s.size ≤ maxLen) (w : World) : Calls Tryz.prog 126 #[.string s] w fun e w' => e = .returned (.bool (nameOk s)) ∧ Kept none' w w' := by
  obtain ⟨w0, hrun, hit, hk0, hs0⟩ := run_range_str (P := Tryz.prog) w 9 s Tryz.underlying9
  have hlen := runes_length s
  have H := Lib.hid (And.intro hit (And.intro hk0 hs0))
  clear hit hk0 hs0
  unfold maxLen at hs
  go_enter Tryz.func126, Tryz.ntmps126
  go_wp2
  go_loopg [3] (runes s).length (fun k i wr => ∃ left done, RunAt wr w.heap.size s left ∧ runes s = done ++ left ∧ left.length = k ∧ i = .int .i64 ((done.length : Nat) : Int) ∧ (∀ q ∈ done, laterB q.2 = true) ∧ (∀ q, done.head? = some q → letterB q.2 = true) ∧ Kept none' w wr)
  case atStart => exact ⟨runes s, [], H.out.1, rfl, rfl, rfl, by simp, by simp, H.out.2.1⟩
  case round =>
    obtain ⟨left, done, hit, hall, hk, rfl, hd, hh, hk1⟩ := hrel
    have A := Lib.hid (And.intro hall (And.intro hd (And.intro hh (And.intro hk hk1))))
    clear hall hd hh hk hk1
    rcases hit.next (P := Tryz.prog) 0 with ⟨rfl, hrun⟩ | ⟨p, left', w2, hp, hrun, hit2, hk2, hs2⟩
    · clear hit
      obtain ⟨h1, h2, h3, h4, h5⟩ := A.out
      rw [List.append_nil] at h1
      subst h1
      have F := Lib.hid (name_end h2 h3)
      clear h2 h3 A
      go_wp2
      all_goals
        go_ret
        refine ⟨rbool' ?_, h5⟩
        rw [F.out, Bool.eq_iff_iff]
        simp only [Bool.and_eq_true, decide_eq_true_eq, Bool.false_eq_true, false_iff, iff_and_self, *]
        try omega
    · clear hit
      have hk3 : Kept none' w w2 := A.out.2.2.2.2.new hk2 (fun i hi e => by unfold one at e; omega)
      have hl : runes s = done ++ p :: left' := by rw [A.out.1, hp]
      have hstep : laterB p.2 = true → (done = [] → letterB p.2 = true) → (∀ q ∈ done ++ [p], laterB q.2 = true) ∧ (∀ q, (done ++ [p]).head? = some q → letterB q.2 = true) := fun g1 g2 => by
        refine ⟨fun q hq => ?_, fun q hq => ?_⟩
        · rcases List.mem_append.1 hq with hq | hq
          · exact A.out.2.1 q hq
          · rw [List.mem_singleton.1 hq]; exact g1
        · cases done with
          | nil => simp at hq; subst hq; exact g2 rfl
          | cons x d => exact A.out.2.2.1 q (by simpa using hq)
      have hm : left'.length < gk := by have := A.out.2.2.2.1; rw [hp] at this; simp at this; omega
      have G := Lib.hid (And.intro hit2 (And.intro hk3 (And.intro hl (And.intro hstep hm))))
      clear hit2 hk3 hl hstep hm hp hk2 hs2 A H hlen
      go_wp2_with (first | (go_at_call 162; refine (letter_any _ _).mono ?_; rintro e w' ⟨rfl, rfl⟩) | (go_at_call 163; refine (later_any _ _).mono ?_; rintro e w' ⟨rfl, rfl⟩))
      · rename_i h1 h2 h3
        go_ret
        exact ⟨rbool' (name_no G.out.2.2.1 (.inr (by simpa using h3))).symm, G.out.2.1⟩
      · rename_i h1 h2 h3
        go_roundg left'.length
        case rel =>
          obtain ⟨g1, g2⟩ := G.out.2.2.2.1 (by simpa using h3) (fun _ => h2)
          exact ⟨left', done ++ [p], G.out.1, by rw [G.out.2.2.1]; simp, rfl, by subst h1; rfl, g1, g2, G.out.2.1⟩
        case measure => exact G.out.2.2.2.2
      · rename_i h1 h2
        go_ret
        exact ⟨rbool' (name_no G.out.2.2.1 (.inl ⟨h1, by simpa using h2⟩)).symm, G.out.2.1⟩
      · rename_i h1 h3
        go_ret
        exact ⟨rbool' (name_no G.out.2.2.1 (.inr (by simpa using h3))).symm, G.out.2.1⟩
      · rename_i h1 h3
        have hlt : done.length < 9223372036854775807 := by
          have := runes_length s
          rw [G.out.2.2.1] at this
          simp at this
          omega
        go_roundg left'.length
        case rel =>
          obtain ⟨g1, g2⟩ := G.out.2.2.2.1 (by simpa using h3) (fun h => absurd h h1)
          exact ⟨left', done ++ [p], G.out.1, by rw [G.out.2.2.1]; simp, rfl, by rw [show wrap64 ((done.length : Int) + 1) = ((done.length + 1 : Nat) : Int) by unfold wrap64; omega, List.length_append]; rfl, g1, g2, G.out.2.1⟩
        case measure => exact G.out.2.2.2.2
end Go.Proofs.YtglbkodmmogomaaGreatDoor
/-
  Parts, words, numbers of lines: plain, and as the program finds them.
-/
namespace Go.Proofs.YtglbkodmmogomaaGreatDoor
open Go Go.RowKit
attribute [local irreducible] wpL
abbrev noneS : ByteArray := ByteArray.empty
/-- Ahead of the first colon, behind it; is there one? -/
def partsF (s : ByteArray) : List (Nat × Nat) → ByteArray × ByteArray × Bool
  | [] => (s, noneS, false)
  | p :: l => if p.2 = 58 then (s.extract 0 p.1, s.extract (p.1 + 1) s.size, true) else partsF s l
def partsP (s : ByteArray) : ByteArray × ByteArray × Bool := partsF s (runes s)
/-- Words; of what is refused: nothing. -/
def wordsF (s : ByteArray) : List (Nat × Nat) → Int → List ByteArray → Option (List ByteArray)
  | [], f, o => if 0 ≤ f then (if f ≤ s.size then some (o ++ [s.extract f.toNat s.size]) else none) else some o
  | p :: l, f, o =>
    if p.2 = 65533 ∨ p.2 < 32 ∧ p.2 ≠ 9 then none
    else if p.2 = 32 ∨ p.2 = 9 then (if 0 ≤ f then (if f ≤ p.1 then wordsF s l (-1) (o ++ [s.extract f.toNat p.1]) else none) else wordsF s l (-1) o)
    else if f < 0 then wordsF s l p.1 o else wordsF s l f o
def wordsP (s : ByteArray) : Option (List ByteArray) := if 400 < s.size then none else wordsF s (runes s) (-1) []
def digitB (r : Nat) : Bool := decide (48 ≤ r) && decide (r ≤ 57)
theorem wrapN {n : Nat} (h : n ≤ 9223372036854775807) : IntKind.i64.wrap ((n : Nat) : Int) = ((n : Nat) : Int) := by
  rw [IntKind.wrap_i64]; omega
theorem rv3 {a b a' b' : ByteArray} {c c' : Bool} (h1 : a = a') (h2 : b = b') (h3 : c = c') : Ending.returned (.tuple #[.string a, .string b, .bool c]) = .returned (.tuple #[.string a', .string b', .bool c']) := by rw [h1, h2, h3]
theorem partsF_skip (s : ByteArray) : ∀ (done left : List (Nat × Nat)), (∀ q ∈ done, q.2 ≠ 58) → partsF s (done ++ left) = partsF s left
  | [], _, _ => rfl
  | q :: done, left, h => by
    rw [List.cons_append, partsF, if_neg (h q (by simp))]
    exact partsF_skip s done left (fun x hx => h x (by simp [hx]))
set_option maxRecDepth 100000 in
set_option maxHeartbeats 1000000 in
theorem sparts_any (s : ByteArray) (hs : s.size ≤ maxLen) (w : World) : Calls Tryz.prog 155 #[.string s] w fun e w' => e = .returned (.tuple #[.string (partsP s).1, .string (partsP s).2.1, .bool (partsP s).2.2]) ∧ Kept none' w w' := by
  obtain ⟨w0, hrun, hit, hk0, hs0⟩ := run_range_str (P := Tryz.prog) w 9 s Tryz.underlying9
  have hlen := runes_length s
  have H := Lib.hid (And.intro hit (And.intro hk0 hs0))
  clear hit hk0 hs0
  unfold maxLen at hs
  go_enter Tryz.func155, Tryz.ntmps155
  go_wp2
  go_loopg [5] (runes s).length (fun k i wr => ∃ left done, RunAt wr w.heap.size s left ∧ runes s = done ++ left ∧ left.length = k ∧ (∀ q ∈ done, q.2 ≠ 58) ∧ Kept none' w wr)
  case atStart => exact ⟨runes s, [], H.out.1, rfl, rfl, by simp, H.out.2.1⟩
  case round =>
    obtain ⟨left, done, hit, hall, hk, hd, hk1⟩ := hrel
    have A := Lib.hid (And.intro hall (And.intro hd (And.intro hk hk1)))
    clear hall hd hk hk1
    rcases hit.next (P := Tryz.prog) 0 with ⟨rfl, hrun⟩ | ⟨p, left', w2, hp, hrun, hit2, hk2, hs2⟩
    · clear hit
      have F := Lib.hid (show partsP s = (s, noneS, false) by unfold partsP; rw [A.out.1, partsF_skip s done [] A.out.2.1]; rfl)
      go_wp2
      go_ret3
      exact ⟨by rw [F.out]; rfl, A.out.2.2.2⟩
    · clear hit
      have hk3 : Kept none' w w2 := A.out.2.2.2.new hk2 (fun i hi e => by unfold one at e; omega)
      have hl : runes s = done ++ p :: left' := by rw [A.out.1, hp]
      have hin := runes_in (s := s) (p := p) (by rw [hl]; simp)
      have hm : left'.length < gk := by have := A.out.2.2.1; rw [hp] at this; simp at this; omega
      obtain ⟨hp1, hp2⟩ := hin
      have G := Lib.hid (And.intro hit2 (And.intro hk3 (And.intro hl hm)))
      clear hit2 hk3 hl hm hp hk2 hs2 H hlen
      by_cases hc : p.2 = 58
      · have F := Lib.hid (show partsP s = (s.extract 0 p.1, s.extract (p.1 + 1) s.size, true) by unfold partsP; rw [G.out.2.2.1, partsF_skip s done _ A.out.2.1, partsF, if_pos hc])
        have hc2 : (p.2 : Int) = 58 := by omega
        have hp3 : (p.1 : Int) + 1 ≤ s.size := by omega
        have hp4 : p.1 ≤ s.size := by omega
        have hp5 : p.1 + 1 ≤ s.size := by omega
        have hw1 : IntKind.i64.wrap ((p.1 : Int) + 1) = ((p.1 + 1 : Nat) : Int) := wrapN (n := p.1 + 1) (by omega)
        clear A
        go_wp2_with fail
        refine wp_region_eager [0, 1, 2, 3, 4, 5, 6, 7, 8, 9] (fun _ => True) (by kernel_rfl) (by kernel_rfl) rfl trivial ?_
        simp only [List.map_cons, List.map_nil, List.getElem?_toArray, List.getElem?_cons_zero, List.getElem?_cons_succ, Option.getD_some]
        iterate 10 (apply wpL_float rfl rfl; (intro W hW; go_simp; rfl); go_frame)
        refine wpL_nil (fun _ => trivial) ?_
        go_wp2_with fail
        go_ret3
        exact ⟨by rw [F.out]; exact rv3 rfl rfl rfl, G.out.2.1.drew⟩
      · have hc2 : ¬ (p.2 : Int) = 58 := by omega
        go_wp2
        go_roundg left'.length
        case rel =>
          refine ⟨left', done ++ [p], G.out.1, by rw [G.out.2.2.1]; simp, rfl, fun q hq => ?_, G.out.2.1⟩
          rcases List.mem_append.1 hq with hq | hq
          · exact A.out.2.1 q hq
          · rw [List.mem_singleton.1 hq]; exact hc
        case measure => exact G.out.2.2.2
theorem ownBlk1 {w : World} {base e size n : Nat} {v : Value} {xs : List Value} (h : w.ownsRow base e size v n xs) {b : Nat} (hb : v.ownBlock = some b) : base ≤ b := by
  rcases h.2 with ⟨rfl, _⟩ | ⟨g, cap, cur, rfl, h1, _⟩
  · cases hb
  · cases hb; exact h1
theorem ownSl1 {w : World} {base e size n : Nat} {v : Value} {xs : List Value} (h : w.ownsRow base e size v n xs) : ∃ a c, v = .slice a n c := by
  rcases h.2 with ⟨rfl, h0⟩ | ⟨g, cap, cur, rfl, _⟩
  · exact ⟨_, _, by rw [h0]⟩
  · exact ⟨_, _, rfl⟩
/-- One more behind a row of the call's own. -/
theorem push1 {T E bytes : Nat} {z x : Value} {i : TypeInfo} (hT : Tryz.prog.underlying T = some (.slice E)) (hi : Tryz.prog.info? E = some i) (hz : i.zero = some z) (hs : i.size = 1) (hb : i.bytes = bytes) (hzc : z.cells.size = 1) (hx : x.oneCell' = true)
    {wr : World} {base m : Nat} {v : Value} {xs : List Value} (hown : wr.ownsRow base E 1 v m xs) (hm : m ≤ 100000) (hbb : bytes ≤ 1000) (hbase : base ≤ wr.heap.size) (ty : TypeId) :
    ∃ v' w', (Builtin.append_ #[T, T] ty #[v, .slice (some ⟨wr.heap.size, 0, none⟩) 1 1]).run Tryz.prog (wr.alloc (.cells #[x] E)) = .ok v' w' ∧ w'.ownsRow base E 1 v' (m + 1) (xs ++ [x]) ∧ Kept (fun k => base ≤ k) wr w' := by
  have kA : Kept none' wr (wr.alloc (.cells #[x] E)) := (Kept.refl _ _).alloc _
  have hr := Reads.lit wr [x] E 1 1 rfl (by unfold maxLen; omega)
  obtain ⟨v', n', w', b1, b2, b3, b4, _⟩ := run_append_reads (P := Tryz.prog) base T ty E i z 1 bytes hT hi hz hs hb hzc (by omega) (kA.owns hown (fun _ _ h => h)) hr (by intro y hy; rw [List.mem_singleton.1 hy]; exact hx)
    (by
      simp only [List.length_singleton, Nat.mul_one]
      calc (m + 1) * bytes ≤ 100001 * 1000 := Nat.mul_le_mul (by omega) hbb
        _ ≤ 140737488355328 := by decide) (by simp; unfold maxLen; omega) (by have := kA.size; omega)
  have hn : n' = m + 1 := by simpa using b3
  subst hn
  exact ⟨v', w', b1, b2, kA.pure.trans (Kept.grown b4 (fun k hk _ => ownBlk1 hown hk))⟩
theorem Tryz.info9 : ∃ i z, Tryz.prog.info? 9 = some i ∧ i.zero = some z ∧ i.size = 1 ∧ i.bytes = 16 ∧ z.cells.size = 1 := by
  have h : (Tryz.prog.info? 9).map (fun i => (i.zero, i.size, i.bytes)) = some (some (.string ByteArray.empty), 1, 16) := by kernel_rfl
  obtain ⟨i, hi, hzz⟩ := Option.map_eq_some_iff.1 h
  simp only [Prod.mk.injEq] at hzz
  exact ⟨i, _, hi, hzz.1, hzz.2.1, hzz.2.2, rfl⟩
theorem push_str {w : World} {base n : Nat} {va : Value} {l : List ByteArray} (h : w.ownsRow base 9 1 va n (strs l)) (u : ByteArray) (hb : base ≤ w.heap.size) (hn : n ≤ 100000) :
    ∃ va' w', (Builtin.append_ #[163, 163] 163 #[va, .slice (some ⟨w.heap.size, 0, none⟩) 1 1]).run Tryz.prog (w.alloc (.cells #[.string u] 9)) = .ok va' w' ∧ w'.ownsRow base 9 1 va' (n + 1) (strs (l ++ [u])) ∧ Kept (fun j => base ≤ j) w w' := by
  obtain ⟨i, z, hi, hz, hs, hby, hzs⟩ := Tryz.info9
  have := push1 Tryz.underlying163 hi hz hs hby hzs (x := .string u) rfl h hn (by omega) hb 163
  rwa [show strs (l ++ [u]) = strs l ++ [.string u] by unfold strs; rw [List.map_append]; rfl]
/-- append, its run known. -/
theorem wpList_app1 {P : Program} {w w' : World} {ops : Array Oper} {rest : List Oper} {o : Oper} {a : Act} {Q : Exit → Act → World → Prop} (hgd : o.guard = none) (s x : Operand) (t : TypeId)
    (ho : o.op = .call { callee := .builtin .append, args := #[s, x], argTypes := #[t, t] }) (v u v' : Value) (hs : a.eval s = v) (hx : a.eval x = u) (hr : (Builtin.append_ #[t, t] o.type #[v, u]).run P w = .ok v' w')
    (h : wpList P ops Q rest (a.put o.dst v') w') : wpList P ops Q (o :: rest) a w :=
  wpList_plain hgd fun K hK => by
    unfold Oper.wp execOp
    simp only [ho, resolve, invoke, builtin, Sem.run_bind, Sem.run_pure, Result.andThen_ok, List.map_toArray, List.map_cons, List.map_nil, hs, hx, hr]
    exact hK _ _ h
/-- What Words answers. -/
def WordsQ (w : World) (l : List ByteArray) (e : Ending) (w' : World) : Prop := ∃ v, e = .returned (.tuple #[v, .int .i64 0]) ∧ w'.ownsRow w.heap.size 9 1 v l.length (strs l) ∧ Kept none' w w'
theorem wordsF_len (s : ByteArray) : ∀ (l : List (Nat × Nat)) (f : Int) (o out : List ByteArray), wordsF s l f o = some out → o.length ≤ out.length ∧ out.length ≤ o.length + l.length + 1
  | [], f, o, out, h => by
    unfold wordsF at h
    split at h
    · split at h
      · injection h with h; subst h; simp
      · cases h
    · injection h with h; subst h; simp
  | p :: l, f, o, out, h => by
    unfold wordsF at h
    split at h
    · cases h
    · split at h
      · split at h
        · split at h
          · have := wordsF_len s l _ _ _ h
            simp only [List.length_append, List.length_cons, List.length_nil] at this ⊢
            omega
          · cases h
        · have := wordsF_len s l _ _ _ h
          simp only [List.length_cons]; omega
      · split at h
        · have := wordsF_len s l _ _ _ h
          simp only [List.length_cons]; omega
        · have := wordsF_len s l _ _ _ h
          simp only [List.length_cons]; omega
set_option maxRecDepth 100000 in
set_option maxHeartbeats 1000000 in
theorem words_any (s : ByteArray) (out : List ByteArray) (hok : wordsP s = some out) (w : World) : Calls Tryz.prog 156 #[.string s] w (WordsQ w out) := by
  obtain ⟨w0, hrun, hit, hk0, hs0⟩ := run_range_str (P := Tryz.prog) w 9 s Tryz.underlying9
  have hlen := runes_length s
  unfold wordsP at hok
  have hs4 : ¬ 400 < s.size := fun h => by rw [if_pos h] at hok; cases hok
  rw [if_neg hs4] at hok
  have hs5 : ¬ (400 : Int) < s.size := by omega
  have H := Lib.hid (And.intro hit (And.intro hk0 (And.intro hs0 hok)))
  clear hit hk0 hs0 hok
  go_enter Tryz.func156, Tryz.ntmps156
  go_wp2
  go_loopg [4, 5] (runes s).length (fun k vo vf wr => ∃ left f o, RunAt wr w.heap.size s left ∧ (∀ q ∈ left, q.1 < s.size ∧ q.2 ≤ 2147483647) ∧ left.length = k ∧ vf = .int .i64 f ∧ -1 ≤ f ∧ f ≤ s.size ∧ wordsF s left f o = some out ∧ wr.ownsRow (w.heap.size + 1) 9 1 vo o.length (strs o) ∧ Kept none' w wr ∧ w.heap.size + 1 ≤ wr.heap.size)
  case atStart => exact ⟨runes s, -1, [], H.out.1, fun q hq => runes_in hq, rfl, rfl, by omega, by omega, H.out.2.2.2, World.ownsRow_nil _ _ _ _, H.out.2.1, by have := H.out.2.2.1; omega⟩
  case round =>
    obtain ⟨left, f, o, hit, hin, hk, rfl, hf0, hf1, hwf, hown, hk1, hsz⟩ := hrel
    obtain ⟨wo, rfl⟩ : ∃ wo : World, wo = wr := ⟨_, rfl⟩
    obtain ⟨ova, ovc, rfl⟩ := ownSl1 hown
    have hol : o.length ≤ 1000 := by
      have := (wordsF_len s left f o out hwf).1
      have := (wordsF_len s (runes s) (-1) [] out H.out.2.2.2).2
      simp at this
      omega
    have A := Lib.hid (And.intro hin (And.intro hk (And.intro hwf (And.intro hown (And.intro hk1 hsz)))))
    clear hin hk hwf hown hk1 hsz
    rcases hit.next (P := Tryz.prog) 0 with ⟨rfl, hrun⟩ | ⟨p, left', w2, hp, hrun, hit2, hk2, hs2⟩
    · clear hit
      have hw := A.out.2.2.1
      unfold wordsF at hw
      by_cases hf : 0 ≤ f
      · rw [if_pos hf, if_pos hf1] at hw
        injection hw with hw
        obtain ⟨va', w', g1, g2, g3⟩ := push_str A.out.2.2.2.1 (s.extract f.toNat s.size) A.out.2.2.2.2.2 (by omega)
        have e1 : o.length + 1 = out.length := by rw [← hw]; simp
        rw [hw, e1] at g2
        have F := Lib.hid (show WordsQ w out (.returned (.tuple #[va', .int .i64 0])) w' from ⟨va', rfl, owns_base g2 (Nat.le_succ _), A.out.2.2.2.2.1.new g3 (fun q hq hs => by omega)⟩)
        obtain ⟨a2, c2, rfl⟩ := owns_slice g2
        have G := Lib.hid g1
        clear g1 g2 g3 hw e1 H
        go_wp2_with (at_builtin; refine wpList_app1 rfl (.tmp 50) (.tmp 54) 163 rfl _ _ _ rfl rfl G.out ?_)
        go_ret2
        exact F.out
      · rw [if_neg hf] at hw
        injection hw with hw
        subst hw
        have F := Lib.hid (show WordsQ w o (.returned (.tuple #[.slice ova o.length ovc, .int .i64 0])) wo from ⟨_, rfl, owns_base A.out.2.2.2.1 (Nat.le_succ _), A.out.2.2.2.2.1⟩)
        clear H
        go_wp2_with fail
        go_ret2
        exact F.out
    · clear hit
      have hin := A.out.1
      rw [hp] at hin
      obtain ⟨hp1, hp2⟩ := hin p (by simp)
      have hinl : ∀ q ∈ left', q.1 < s.size ∧ q.2 ≤ 2147483647 := fun q hq => hin q (by simp [hq])
      have hw := A.out.2.2.1
      rw [hp] at hw
      unfold wordsF at hw
      have hbad : ¬ (p.2 = 65533 ∨ p.2 < 32 ∧ p.2 ≠ 9) := fun h => by rw [if_pos h] at hw; cases hw
      rw [if_neg hbad] at hw
      have hm : left'.length < gk := by have := A.out.2.1; rw [hp] at this; simp at this; omega
      have hk3 : Kept none' w w2 := A.out.2.2.2.2.1.new hk2 (fun i hi e => by unfold one at e; omega)
      have hsz2 : w.heap.size + 1 ≤ w2.heap.size := by rw [hs2]; exact A.out.2.2.2.2.2
      have hown2 : w2.ownsRow (w.heap.size + 1) 9 1 (.slice ova o.length ovc) o.length (strs o) := hk2.owns A.out.2.2.2.1 (fun q hq hs => by have := ownBlk1 A.out.2.2.2.1 hq; unfold one at hs; omega)
      have b1 : ¬ (p.2 : Int) = 65533 := by omega
      have b2 : ¬ ((p.2 : Int) < 32 ∧ (p.2 : Int) ≠ 9) := by omega
      have G := Lib.hid (And.intro hit2 (And.intro hinl (And.intro hm (And.intro hk3 (And.intro hsz2 hown2)))))
      clear hit2 hk3 hm hp hk2 hs2 hin hinl hsz2 hown2 H A hlen hbad
      by_cases hsp : p.2 = 32 ∨ p.2 = 9
      · rw [if_pos hsp] at hw
        have c1 : (p.2 : Int) = 32 ∨ (p.2 : Int) = 9 := by omega
        by_cases hf : 0 ≤ f
        · rw [if_pos hf] at hw
          have hfp : f ≤ p.1 := by
            by_cases h : f ≤ p.1
            · exact h
            · rw [if_neg h] at hw; cases hw
          rw [if_pos hfp] at hw
          obtain ⟨va', w', g1, g2, g3⟩ := push_str G.out.2.2.2.2.2 (s.extract f.toNat p.1) G.out.2.2.2.2.1 (by omega)
          obtain ⟨a2, c2, rfl⟩ := owns_slice g2
          have k3 := G.out.2.2.2.1.new g3 (fun q hq hs => by omega)
          have hit3 := G.out.1.kept g3 (fun h => by omega)
          have hs3 : w.heap.size + 1 ≤ w'.heap.size := Nat.le_trans G.out.2.2.2.2.1 g3.size
          have Z := Lib.hid (And.intro g1 (And.intro g2 (And.intro k3 (And.intro hit3 (And.intro hs3 hw)))))
          clear g1 g2 g3 k3 hit3 hs3 hw hsp
          rcases c1 with c1 | c1
          · go_wp2_with (at_builtin; refine wpList_app1 rfl (.tmp 37) (.tmp 42) 163 rfl _ _ _ rfl rfl Z.out.1 ?_)
            go_roundg left'.length
            case rel => exact ⟨left', -1, o ++ [s.extract f.toNat p.1], Z.out.2.2.2.1, G.out.2.1, rfl, rfl, by omega, by omega, Z.out.2.2.2.2.2, by rw [List.length_append]; exact Z.out.2.1, Z.out.2.2.1, Z.out.2.2.2.2.1⟩
            case measure => exact G.out.2.2.1
          · go_wp2_with (at_builtin; refine wpList_app1 rfl (.tmp 37) (.tmp 42) 163 rfl _ _ _ rfl rfl Z.out.1 ?_)
            go_roundg left'.length
            case rel => exact ⟨left', -1, o ++ [s.extract f.toNat p.1], Z.out.2.2.2.1, G.out.2.1, rfl, rfl, by omega, by omega, Z.out.2.2.2.2.2, by rw [List.length_append]; exact Z.out.2.1, Z.out.2.2.1, Z.out.2.2.2.2.1⟩
            case measure => exact G.out.2.2.1
        · rw [if_neg hf] at hw
          have Z := Lib.hid hw
          clear hw hsp
          rcases c1 with c1 | c1
          · go_wp2
            go_roundg left'.length
            case rel => exact ⟨left', -1, o, G.out.1, G.out.2.1, rfl, rfl, by omega, by omega, Z.out, G.out.2.2.2.2.2, G.out.2.2.2.1, G.out.2.2.2.2.1⟩
            case measure => exact G.out.2.2.1
          · go_wp2
            go_roundg left'.length
            case rel => exact ⟨left', -1, o, G.out.1, G.out.2.1, rfl, rfl, by omega, by omega, Z.out, G.out.2.2.2.2.2, G.out.2.2.2.1, G.out.2.2.2.2.1⟩
            case measure => exact G.out.2.2.1
      · rw [if_neg hsp] at hw
        have c1 : ¬ (p.2 : Int) = 32 := by omega
        have c2 : ¬ (p.2 : Int) = 9 := by omega
        have c3 : ¬ (p.2 : Int) < 32 := by omega
        have d1 : ¬ p.2 = 32 := by omega
        have d2 : ¬ p.2 = 9 := by omega
        have d3 : ¬ p.2 < 32 := by omega
        have d4 : ¬ p.2 = 65533 := by omega
        have e1 : ((p.2 : Int) == 32) = false := by simpa using c1
        have e2 : ((p.2 : Int) == 9) = false := by simpa using c2
        clear hsp b2
        by_cases hf : f < 0
        · rw [if_pos hf] at hw
          have Z := Lib.hid hw
          clear hw
          go_wp2
          go_roundg left'.length
          case rel => exact ⟨left', p.1, o, G.out.1, G.out.2.1, rfl, rfl, by omega, by omega, Z.out, G.out.2.2.2.2.2, G.out.2.2.2.1, G.out.2.2.2.2.1⟩
          case measure => exact G.out.2.2.1
        · rw [if_neg hf] at hw
          have Z := Lib.hid hw
          clear hw
          go_wp2
          go_roundg left'.length
          case rel => exact ⟨left', f, o, G.out.1, G.out.2.1, rfl, rfl, by omega, by omega, Z.out, G.out.2.2.2.2.2, G.out.2.2.2.1, G.out.2.2.2.2.1⟩
          case measure => exact G.out.2.2.1
theorem has_any (k : Int) (w : World) : Calls Tryz.prog 159 #[.int .u8 k] w fun e w' => e = .returned (.bool (decide (2 ≤ k) && decide (k ≤ 6))) ∧ w = w' := by
  go_enter Tryz.func159, Tryz.ntmps159
  go_wp2
  all_goals
    go_ret
    refine ⟨rbool' ?_, rfl⟩
    rw [Bool.eq_iff_iff]
    simp only [Bool.and_eq_true, decide_eq_true_eq, Bool.false_eq_true, false_iff, true_and, *]
    try omega
end Go.Proofs.YtglbkodmmogomaaGreatDoor
