/-
  Expressions, nodes, rows of records that came in.
-/
import Derived.Test.YtopeleenlcnkkaaGreatDoorK18
import Derived.Test.YtopeleenlcnkkaaGreatDoorK22
import Derived.Test.YtopeleenlcnkkaaGreatDoorK02
import Derived.Test.YtopeleenlcnkkaaGreatDoorK04
namespace Go.Proofs.YtopeleenlcnkkaaGreatDoor
open Go Go.RowKit Go.ChangeShapes Go.WideShapes Go.ChangeAt Go.Deep
theorem u8_of_wf {n : Int} (h : (Lit.int .u8 n).wf = true) : 0 ≤ n ∧ n ≤ 255 := by
  simp [Lit.wf, IntKind.min, IntKind.max, IntKind.signed, IntKind.bits] at h
  omega
section
variable {H : Type} {enc : TypeId × Value → H} {P : Program} {w : World}
/-- A slice that came in, with its data. -/
theorem open_readsF {t e : TypeId} {k fuel n cap : Nat} {a : Option Addr} {x : DataW H × List MemPlace} (ht : P.underlying t = some (.slice e)) (hk : P.cellsOf e = k) (hk0 : 0 < k)
    (h : DataW.trod enc P w 0 (fun _ => true) true fuel t [.slice a n cap] = some x) :
    ∃ (f : Nat) (cs : List Value) (ds : List (DataW H)), fuel = f + 1 ∧ cs.length = n * k ∧ Reads w k (.slice a n cap) cs ∧ ds.length = n ∧ ((∃ rest, x.1 = .slice ds rest) ∨ n = 0) ∧
      ∀ i, i < n → ∃ d p, ds[i]? = some d ∧ DataW.trod enc P w 0 (fun _ => true) true f e ((cs.drop (i * k)).take k) = some (d, p) := by
  obtain ⟨cs, hl, hr, _⟩ := open_reads ht hk hk0 h
  rcases DataW.trod_slice ht h with ⟨h0, hx⟩ | ⟨a', len, cap', elems, rest, f, rfl, h0, rfl, hb, hle, hm, hel, hbind, _, _⟩
  · injection h0 with h0 _
    injection h0 with h1 h2 h3
    subst h1 h2 h3
    cases fuel with
    | zero => simp [DataW.trod] at h
    | succ f => exact ⟨f, cs, [], rfl, hl, hr, rfl, .inr rfl, fun i hi => by omega⟩
  · injection h0 with h0 _
    injection h0 with h1 h2 h3
    subst h1 h2 h3
    refine ⟨f, cs, elems.map (·.1), rfl, hl, hr, by simpa using hel, .inl ⟨_, rfl⟩, fun i hi => ?_⟩
    have h1 := hbind i hi
    rw [hk] at h1
    obtain ⟨y, hy⟩ : ∃ y, elems[i]? = some y := ⟨_, List.getElem?_eq_getElem (by omega)⟩
    rw [hy] at h1
    obtain ⟨ci, hci, hti⟩ := Option.bind_eq_some_iff.1 h1
    obtain ⟨_, hlen, hcell⟩ := World.cells?_some hci
    refine ⟨y.1, y.2, by rw [List.getElem?_map, hy]; rfl, ?_⟩
    have e1 : (cs.drop (i * k)).take k = ci := by
      obtain ⟨a2, n2, cap2, e, _, _, _, hcl⟩ := hr
      cases e
      have hin : i * k + k ≤ n * k := by rw [← Nat.succ_mul]; exact Nat.mul_le_mul_right k hi
      rcases hcl with hcl | ⟨b, off, e, hcl⟩
      · rw [hcl] at hl
        simp at hl
        omega
      · cases e
        apply List.ext_getElem?
        intro j
        by_cases hj : j < k
        · rw [List.getElem?_take, if_pos hj, List.getElem?_drop]
          have h3 := hcell j hj
          rw [add_add, Addr.add_lit] at h3
          have h4 := hcl (i * k + j) (cs[i * k + j]'(by omega)) (by rw [List.getElem?_eq_getElem])
          rw [h4] at h3
          rw [List.getElem?_eq_getElem (by omega)]
          exact h3
        · rw [List.getElem?_take, if_neg hj, List.getElem?_eq_none (by omega)]
    rw [e1]; exact hti
end
section
variable {H : Type} {enc : TypeId × Value → H} {w : World}
set_option maxRecDepth 100000 in
/-- AN EXPRESSION THAT CAME IN. -/
theorem open_expr (fuel : Nat) : ∀ (cs : List Value) (x : DataW H × List MemPlace), DataW.trod enc Tryz.prog w 0 (fun _ => true) true fuel 95 cs = some x → ∃ ex : Ex, ExAt w cs.toArray ex := by
  induction fuel using Nat.strongRecOn with
  | ind fuel ih =>
    intro cs x h
    obtain ⟨xs, n, rfl, _, hl, hxl, hf⟩ := DataW.trod_struct Tryz.underlying95 h
    rw [show Tryz.prog.cellsOf 95 = 3 by kernel_rfl] at hl
    match cs, hl with
    | [c0, c1, c2], _ =>
      have g0 : DataW.trod enc Tryz.prog w 0 (fun _ => true) true n 5 ([c0, c1, c2].drop 0 |>.take (Tryz.prog.cellsOf 5)) = xs[0]? := hf 0 _ rfl
      have g1 : DataW.trod enc Tryz.prog w 0 (fun _ => true) true n 2 ([c0, c1, c2].drop 1 |>.take (Tryz.prog.cellsOf 2)) = xs[1]? := hf 1 _ rfl
      have g2 : DataW.trod enc Tryz.prog w 0 (fun _ => true) true n 93 ([c0, c1, c2].drop 2 |>.take (Tryz.prog.cellsOf 93)) = xs[2]? := hf 2 _ rfl
      rw [show Tryz.prog.cellsOf 5 = 1 by kernel_rfl] at g0
      rw [show Tryz.prog.cellsOf 2 = 1 by kernel_rfl] at g1
      rw [show Tryz.prog.cellsOf 93 = 1 by kernel_rfl] at g2
      simp only [List.drop_succ_cons, List.drop_zero, List.take_succ_cons, List.take_zero] at g0 g1 g2
      match xs, hxl with
      | [x0, x1, x2], _ =>
        obtain ⟨z0, hz0, _, hw0⟩ := DataW.trod_int Tryz.underlying5 g0
        obtain ⟨z1, hz1, _, hw1⟩ := DataW.trod_int Tryz.underlying2 g1
        injection hz0 with hz0 _
        injection hz1 with hz1 _
        subst hz0 hz1
        obtain ⟨sa, sn, sc, hs⟩ : ∃ sa sn sc, c2 = .slice sa sn sc := by
          rcases DataW.trod_slice Tryz.underlying93 g2 with ⟨e, _⟩ | ⟨_, _, _, _, _, _, _, e, _⟩
          · injection e with e _; exact ⟨_, _, _, e⟩
          · injection e with e _; exact ⟨_, _, _, e⟩
        subst hs
        obtain ⟨f, es, ds, rfl, hel, hre, _, _, heach⟩ := open_readsF (k := 3) Tryz.underlying93 (by kernel_rfl) (by omega) g2
        have each : ∀ i, i < sn → ∃ ex : Ex, ExAt w ((es.drop (i * 3)).take 3).toArray ex := by
          intro i hi
          obtain ⟨d, p, _, hd⟩ := heach i hi
          exact ih f (by omega) _ _ hd
        obtain ⟨X, hX⟩ := choose_lt each
        refine ⟨.mk z0 z1 ((List.range sn).map X), .mk (u8_of_wf hw0).1 (u8_of_wf hw0).2 (.of_wf hw1) hre (by simpa using hel) (fun i y hy => ?_)⟩
        rw [List.getElem?_map] at hy
        obtain ⟨i', hi', rfl⟩ := Option.map_eq_some_iff.1 hy
        obtain ⟨hlt, rfl⟩ := List.getElem?_eq_some_iff.1 hi'
        simp only [List.length_range] at hlt
        simpa using hX i hlt
set_option maxRecDepth 100000 in
/-- A NODE THAT CAME IN. -/
theorem open_node {fuel : Nat} {cs : List Value} {x : DataW H × List MemPlace} (h : DataW.trod enc Tryz.prog w 0 (fun _ => true) true fuel 97 cs = some x) : ∃ nd : Nod, NodAt w cs.toArray nd := by
  obtain ⟨xs, n, rfl, _, hl, hxl, hf⟩ := DataW.trod_struct Tryz.underlying97 h
  rw [show Tryz.prog.cellsOf 97 = 7 by kernel_rfl] at hl
  match cs, hl with
  | [c0, c1, c2, c3, c4, c5, c6], _ =>
    have g0 : DataW.trod enc Tryz.prog w 0 (fun _ => true) true n 9 ([c0, c1, c2, c3, c4, c5, c6].drop 0 |>.take (Tryz.prog.cellsOf 9)) = xs[0]? := hf 0 _ rfl
    have g1 : DataW.trod enc Tryz.prog w 0 (fun _ => true) true n 5 ([c0, c1, c2, c3, c4, c5, c6].drop 1 |>.take (Tryz.prog.cellsOf 5)) = xs[1]? := hf 1 _ rfl
    have g3 : DataW.trod enc Tryz.prog w 0 (fun _ => true) true n 95 ([c0, c1, c2, c3, c4, c5, c6].drop 3 |>.take (Tryz.prog.cellsOf 95)) = xs[3]? := hf 3 _ rfl
    have g4 : DataW.trod enc Tryz.prog w 0 (fun _ => true) true n 3 ([c0, c1, c2, c3, c4, c5, c6].drop 6 |>.take (Tryz.prog.cellsOf 3)) = xs[4]? := hf 4 _ rfl
    rw [show Tryz.prog.cellsOf 9 = 1 by kernel_rfl] at g0
    rw [show Tryz.prog.cellsOf 5 = 1 by kernel_rfl] at g1
    rw [show Tryz.prog.cellsOf 95 = 3 by kernel_rfl] at g3
    rw [show Tryz.prog.cellsOf 3 = 1 by kernel_rfl] at g4
    simp only [List.drop_succ_cons, List.drop_zero, List.take_succ_cons, List.take_zero] at g0 g1 g3 g4
    match xs, hxl with
    | [x0, x1, x2, x3, x4], _ =>
      obtain ⟨s, hs, _, _⟩ := DataW.trod_string Tryz.underlying9 g0
      obtain ⟨z1, hz1, _, hw1⟩ := DataW.trod_int Tryz.underlying5 g1
      obtain ⟨z4, hz4, _, hw4⟩ := DataW.trod_int Tryz.underlying3 g4
      injection hs with hs _
      injection hz1 with hz1 _
      injection hz4 with hz4 _
      subst hs hz1 hz4
      obtain ⟨ex, hex⟩ := open_expr n _ _ g3
      obtain ⟨p, cap, he, _⟩ := hex.parts
      have he' : [c3, c4, c5].toArray = #[.int .u8 ex.op, .int .i64 ex.n, .slice p ex.args.length cap] := he
      injection he' with he'
      injection he' with e3 he'
      injection he' with e4 he'
      injection he' with e5 he'
      subst e3 e4 e5
      exact ⟨⟨z1, ex, z4⟩, s, c2, p, cap, rfl, hex, (u8_of_wf hw1).1, (u8_of_wf hw1).2, .of_wf hw4⟩
end
end Go.Proofs.YtopeleenlcnkkaaGreatDoor
/-
  A slice's first and last elements; strings in a slice.
-/
namespace Go.Proofs.YtopeleenlcnkkaaGreatDoor
open Go Go.RowKit
section
variable {P : Program} {w : World} {a : Option Addr} {n cap k i : Nat} {cs : List Value} {T E : TypeId}
theorem run_slice_to (hT : P.underlying T = some (.slice E)) (hs : (sizeOf E).run P w = .ok k w) (hi : i ≤ n) (hc : n ≤ cap) : (Instr.slice T (.slice a n cap) none (some (.int .i64 (i : Int))) none).run P w = .ok (.slice a i cap) w := by
  have hb : (Instr.sliceBounds true n cap none (some (.int .i64 (i : Int))) none).run P w = .ok (0, i, cap) w := by
    simp [Instr.sliceBounds, Instr.sliceBound, asIntOf]
    intro h; omega
  simp only [Instr.slice, Sem.run_bind, run_underlying hT, Result.andThen_ok, hb, hs, Sem.run_pure]
  cases a with
  | none => simp
  | some a => simp [Addr.add]
theorem Reads.take (h : Reads w k (.slice a n cap) cs) (hi : i ≤ n) : Reads w k (.slice a i cap) (cs.take (i * k)) := by
  obtain ⟨a', n', cap', e, h1, h2, h3, h4⟩ := h
  cases e
  refine ⟨a, i, cap, rfl, by omega, h2, ?_, ?_⟩
  · rw [List.length_take, h3]
    exact Nat.min_eq_left (Nat.mul_le_mul_right k hi)
  · rcases h4 with h4 | ⟨b, off, rfl, h4⟩
    · left; rw [h4]; simp
    · right
      refine ⟨b, off, rfl, fun j x hx => h4 j x ?_⟩
      rw [List.getElem?_take] at hx
      split at hx
      · exact hx
      · cases hx
theorem run_slice_from (hT : P.underlying T = some (.slice E)) (hs : (sizeOf E).run P w = .ok k w) (hi : i ≤ n) (hc : n ≤ cap) :
    (Instr.slice T (.slice a n cap) (some (.int .i64 (i : Int))) none none).run P w = .ok (.slice (if cap = i then a else a.map (·.add (i * k))) (n - i) (cap - i)) w := by
  have hb : (Instr.sliceBounds true n cap (some (.int .i64 (i : Int))) none none).run P w = .ok (i, n, cap) w := by
    simp [Instr.sliceBounds, Instr.sliceBound, asIntOf]
    intro h; omega
  simp only [Instr.slice, Sem.run_bind, run_underlying hT, Result.andThen_ok, hb, hs, Sem.run_pure]
theorem Reads.drop (h : Reads w k (.slice a n cap) cs) (hi : i ≤ n) : Reads w k (.slice (if cap = i then a else a.map (·.add (i * k))) (n - i) (cap - i)) (cs.drop (i * k)) := by
  obtain ⟨a', n', cap', e, h1, h2, h3, h4⟩ := h
  cases e
  refine ⟨_, n - i, cap - i, rfl, by omega, by omega, by rw [List.length_drop, h3, Nat.sub_mul], ?_⟩
  rcases h4 with h4 | ⟨b, off, rfl, h4⟩
  · left; rw [h4]; simp
  · by_cases hc : cap = i
    · left
      exact List.drop_eq_nil_of_le (by rw [h3]; exact Nat.mul_le_mul_right k (by omega))
    · right
      refine ⟨b, off + i * k, by rw [if_neg hc]; simp only [Option.map_some]; rw [Addr.add_lit], fun j x hx => ?_⟩
      rw [Nat.add_assoc]
      rw [List.getElem?_drop] at hx
      exact h4 (i * k + j) x hx
end
def strs (l : List ByteArray) : List Value := l.map Value.string
@[simp] theorem strs_length (l : List ByteArray) : (strs l).length = l.length := by simp [strs]
theorem strs_one (l : List ByteArray) : ∀ x ∈ strs l, x.oneCell' = true := by
  intro x hx
  obtain ⟨n, _, rfl⟩ := List.mem_map.1 hx
  rfl
theorem Reads.atS {w : World} {v : Value} {l : List ByteArray} (h : Reads w 1 v (strs l)) : ∃ a cap, v = .slice a l.length cap ∧ l.length ≤ cap ∧ cap ≤ maxLen ∧ (l = [] ∨ ∃ b off, a = some ⟨b, off, none⟩ ∧ ∀ i x, l[i]? = some x → w.cell? ⟨b, off + i, none⟩ = some (.string x)) := by
  obtain ⟨a, n, cap, rfl, h1, h2, h3, h4⟩ := h
  have hn : n = l.length := by simpa using h3.symm
  subst hn
  refine ⟨a, cap, rfl, h1, h2, ?_⟩
  rcases h4 with h4 | ⟨b, off, rfl, h4⟩
  · left
    have : (strs l).length = 0 := by rw [h4]; rfl
    rw [strs_length] at this
    exact List.eq_nil_of_length_eq_zero this
  · exact .inr ⟨b, off, rfl, fun i x hx => h4 i _ (by simp [strs, hx])⟩
end Go.Proofs.YtopeleenlcnkkaaGreatDoor
/-
  The plain law of a job: how many parts its expressions have, told in two ways.
-/
namespace Go.Proofs.YtopeleenlcnkkaaGreatDoor
mutual
/-- How many expressions one has, itself too. -/
def exSize : Ex → Nat
  | .mk _ _ l => 1 + exSizes l
def exSizes : List Ex → Nat
  | [] => 0
  | x :: l => exSize x + exSizes l
end
mutual
/-- The document's count: no more than so many are told. -/
def partsR : Ex → Nat → Nat
  | .mk _ _ l, most => partsL l 1 most
def partsL : List Ex → Nat → Nat → Nat
  | [], n, _ => n
  | x :: l, n, most => if n < most then partsL l (n + partsR x (most - n)) most else n
end
mutual
/-- The program's count: what is left. -/
def cntR : Ex → Nat → Nat
  | .mk _ _ l, left => if 0 < left then cntL l (left - 1) else left
def cntL : List Ex → Nat → Nat
  | [], left => left
  | x :: l, left => cntL l (cntR x left)
end
mutual
theorem partsR_eq : ∀ (x : Ex) (most : Nat), 1 ≤ most → partsR x most = min (exSize x) most
  | .mk o n l, most, h => by
    unfold partsR exSize
    rw [partsL_eq l 1 most h]
theorem partsL_eq : ∀ (l : List Ex) (n most : Nat), n ≤ most → partsL l n most = min (n + exSizes l) most
  | [], n, most, h => by unfold partsL exSizes; omega
  | x :: l, n, most, h => by
    unfold partsL exSizes
    by_cases hn : n < most
    · rw [if_pos hn, partsR_eq x (most - n) (by omega), partsL_eq l _ most (by omega)]
      omega
    · rw [if_neg hn]; omega
end
mutual
theorem cntR_eq : ∀ (x : Ex) (left : Nat), cntR x left = left - exSize x
  | .mk o n l, left => by
    unfold cntR exSize
    by_cases h : 0 < left
    · rw [if_pos h, cntL_eq l]; omega
    · rw [if_neg h]; omega
theorem cntL_eq : ∀ (l : List Ex) (left : Nat), cntL l left = left - exSizes l
  | [], left => by unfold cntL exSizes; omega
  | x :: l, left => by
    unfold cntL exSizes
    rw [cntL_eq l, cntR_eq x]
    omega
end
/-- Both counts of a job's expressions go beyond the thousand alike. -/
theorem parts_agree (xs : List Ex) : 1000 < 1001 - cntL xs 1001 ↔ 1000 < (xs.map fun x => partsR x 1001).sum := by
  rw [cntL_eq]
  have h : ∀ xs : List Ex, min (exSizes xs) 1001 = min (xs.map fun x => partsR x 1001).sum 1001 := by
    intro xs
    induction xs with
    | nil => simp [exSizes]
    | cons x l ih =>
      unfold exSizes
      rw [List.map_cons, List.sum_cons, partsR_eq x 1001 (by omega)]
      omega
  have := h xs
  omega
/-- What a kind asks for. -/
def jLeast (k : Int) : Nat := if k = 1 then 0 else if k = 8 then 2 else 1
def jMost (k : Int) : Nat := if k = 1 then 0 else if k = 8 then 3 else 1
def jTy (k : Int) : Int := if k = 3 then 2 else if k = 2 ∨ k = 4 ∨ k = 5 ∨ k = 6 then 1 else 0
def jAcc (k : Int) : Bool := k == 6
def jN (k : Int) : Int := if k = 7 then 16 else 0
/-- The program's rule of a node: of its name, its kind, how many it reads, whether these may be read, whether it has no expression, its expression's type, its number. -/
def mayP (name : Bool) (k : Int) (ins : Nat) (good : Bool) (none : Bool) (ty : Bool → Int → Bool) (n : Int) : Bool :=
  if name = false ∨ k < 1 ∨ 9 < k then false
  else if ins < jLeast k ∨ jMost k < ins ∨ good = false then false
  else if n < min (jN k) 1 ∨ jN k < n then false
  else if jTy k = 0 then none else ty (jAcc k) (jTy k)
/-- The document's. -/
def mayD (name : Bool) (k : Int) (ins : Nat) (good : Bool) (none : Bool) (ty : Bool → Int → Bool) (n : Int) : Bool :=
  if name = false then false
  else if good = false then false
  else if k = 1 then decide (ins = 0) && none && decide (n = 0)
  else if k = 2 ∨ k = 4 ∨ k = 5 then decide (ins = 1) && ty false 1 && decide (n = 0)
  else if k = 3 then decide (ins = 1) && ty false 2 && decide (n = 0)
  else if k = 6 then decide (ins = 1) && ty true 1 && decide (n = 0)
  else if k = 7 then decide (ins = 1) && none && decide (1 ≤ n ∧ n ≤ 16)
  else if k = 8 then decide (ins = 2 ∨ ins = 3) && none && decide (n = 0)
  else if k = 9 then decide (ins = 1) && none && decide (n = 0)
  else false
theorem may_agree (name : Bool) (k : Int) (ins : Nat) (good : Bool) (none : Bool) (ty : Bool → Int → Bool) (n : Int) : mayP name k ins good none ty n = mayD name k ins good none ty n := by
  unfold mayP mayD
  cases name
  · simp
  cases good
  · simp
  by_cases h : k < 1 ∨ 9 < k
  · rw [if_pos (.inr h), if_neg (by decide), if_neg (by decide), if_neg (by omega), if_neg (by omega), if_neg (by omega), if_neg (by omega), if_neg (by omega), if_neg (by omega), if_neg (by omega)]
  · rw [if_neg (by simp; omega)]
    have hk : k = 1 ∨ k = 2 ∨ k = 3 ∨ k = 4 ∨ k = 5 ∨ k = 6 ∨ k = 7 ∨ k = 8 ∨ k = 9 := by omega
    have key : ∀ (L M : Nat) (N : Int) (t : Bool) (p q : Prop) [Decidable p] [Decidable q], ((L ≤ ins ∧ ins ≤ M) ↔ p) → ((min N 1 ≤ n ∧ n ≤ N) ↔ q) →
        (if ins < L ∨ M < ins ∨ true = false then false else if n < min N 1 ∨ N < n then false else t) = (decide p && t && decide q) := by
      intro L M N t p q _ _ hp hq
      by_cases h1 : L ≤ ins ∧ ins ≤ M
      · rw [if_neg (by simp; omega), decide_eq_true (hp.1 h1)]
        by_cases h2 : min N 1 ≤ n ∧ n ≤ N
        · rw [if_neg (by omega), decide_eq_true (hq.1 h2)]; simp
        · rw [if_pos (by omega), decide_eq_false (fun h => h2 (hq.2 h))]; simp
      · rw [if_pos (by omega), decide_eq_false (fun h => h1 (hp.2 h))]; simp
    rcases hk with rfl | rfl | rfl | rfl | rfl | rfl | rfl | rfl | rfl
    · exact key 0 0 0 none (ins = 0) (n = 0) (by omega) (by omega)
    · exact key 1 1 0 (ty false 1) (ins = 1) (n = 0) (by omega) (by omega)
    · exact key 1 1 0 (ty false 2) (ins = 1) (n = 0) (by omega) (by omega)
    · exact key 1 1 0 (ty false 1) (ins = 1) (n = 0) (by omega) (by omega)
    · exact key 1 1 0 (ty false 1) (ins = 1) (n = 0) (by omega) (by omega)
    · exact key 1 1 0 (ty true 1) (ins = 1) (n = 0) (by omega) (by omega)
    · exact key 1 1 16 none (ins = 1) (1 ≤ n ∧ n ≤ 16) (by omega) (by omega)
    · exact key 2 3 0 none (ins = 2 ∨ ins = 3) (n = 0) (by omega) (by omega)
    · exact key 1 1 0 none (ins = 1) (n = 0) (by omega) (by omega)
/-- A node's shape is refused, told in both ways: its kind, whether it is the first or the last one, how many read it. -/
theorem shape_agree (k : Int) (first last : Bool) (m flats : Nat) (ways : Int) :
    ((decide (k = 1) != first) || (decide (k = 9) != last) || (decide (m = 0) != last) || decide (3 < m) || decide (2 < flats) || decide (64 < ways)) =
    ((first && decide (k ≠ 1)) || (!first && decide (k = 1)) || (last && (decide (k ≠ 9) || decide (0 < m))) || (!last && (decide (k = 9) || decide (m < 1) || decide (3 < m))) || decide (2 < flats) || decide (64 < ways)) := by
  have e1 : decide (k ≠ 1) = !decide (k = 1) := by simp
  have e2 : decide (k ≠ 9) = !decide (k = 9) := by simp
  have e3 : decide (0 < m) = !decide (m = 0) := by rw [← decide_not]; exact decide_eq_decide.2 (by omega)
  have e4 : decide (m < 1) = decide (m = 0) := decide_eq_decide.2 (by omega)
  have e5 : decide (m = 0) = true → decide (3 < m) = false := fun h => decide_eq_false (by have := of_decide_eq_true h; omega)
  rw [e1, e2, e3, e4]
  revert e5
  generalize decide (k = 1) = a
  generalize decide (k = 9) = b
  generalize decide (m = 0) = c
  generalize decide (3 < m) = d
  generalize decide (2 < flats) = e
  generalize decide (64 < ways) = f
  intro e5
  cases a <;> cases b <;> cases c <;> cases d <;> cases first <;> cases last <;> simp_all
end Go.Proofs.YtopeleenlcnkkaaGreatDoor
