/-
  PLAIN WORDS, no program in sight: numbers and tables as bytes, put and taken.
-/
import Derived.Test.YtopeleenlcnkkaaGreatDoorK04
import Derived.Test.YtopeleenlcnkkaaGreatDoorK20
set_option linter.unusedVariables false
set_option linter.unusedSimpArgs false
namespace Go.Proofs.YtopeleenlcnkkaaGreatDoor
open Go Go.RowKit
def turnN (n : Int) : Nat := if 0 ≤ n then (2 * n).toNat else (-2 * n - 1).toNat
def digs (u : Nat) : List UInt8 := if u < 128 then [UInt8.ofNat u] else UInt8.ofNat (u % 128 + 128) :: digs (u / 128)
termination_by u
decreasing_by omega
theorem digs_small {u : Nat} (h : u < 128) : digs u = [UInt8.ofNat u] := by rw [digs, if_pos h]
theorem digs_big {u : Nat} (h : ¬ u < 128) : digs u = UInt8.ofNat (u % 128 + 128) :: digs (u / 128) := by rw [digs, if_neg h]
def putL (l : List Int) : List UInt8 := l.flatMap fun n => digs (turnN n)
def rowL (p : Int × Cell) : List Int := p.1 :: p.2.1 :: (p.2.2.length : Int) :: p.2.2
def tabL (T : Tab) : List Int := (T.length : Int) :: T.flatMap rowL
theorem putL_append (l m : List Int) : putL (l ++ m) = putL l ++ putL m := by unfold putL; rw [List.flatMap_append]
def backN (u : Nat) : Int := if u % 2 = 0 then ((u / 2 : Nat) : Int) else -((u / 2 : Nat) : Int) - 1
def tkFrom (i u : Nat) : List UInt8 → Int × Nat × Int
 | [] => (0, 0, 20)
 | c :: r =>
  if i = 9 ∧ 1 < c.toNat then (0, 0, 21)
  else if 128 ≤ c.toNat then tkFrom (i + 1) (u + c.toNat % 128 * 128 ^ i) r
  else if c.toNat = 0 ∧ 0 < i then (0, 0, 21)
  else (backN (u + c.toNat % 128 * 128 ^ i), i + 1, 0)
def tk (l : List UInt8) : Int × Nat × Int := tkFrom 0 0 l
theorem pow9 : 128 ^ 9 = 9223372036854775808 := by decide
inductive Rd (α : Type) where
 | ok (a : α) (r : List UInt8)
 | err (e : Int)
def Rd.bind {α β : Type} (x : Rd α) (f : α → List UInt8 → Rd β) : Rd β := match x with | .ok a r => f a r | .err e => .err e
def num (lo hi : Int) (l : List UInt8) : Rd Int :=
 if (tk l).2.2 ≠ 0 then .err (tk l).2.2 else if (tk l).1 < lo ∨ hi < (tk l).1 then .err 21 else .ok (tk l).1 (l.drop (tk l).2.1)
def lo64 : Int := -9223372036854775808
def hi64 : Int := 9223372036854775807
def nums : Nat → List UInt8 → Rd (List Int)
 | 0, l => .ok [] l
 | k + 1, l => (num lo64 hi64 l).bind fun n r => (nums k r).bind fun ns r => .ok (n :: ns) r
def row (l : List UInt8) : Rd (Int × Cell) :=
 (num lo64 hi64 l).bind fun key r => (num lo64 hi64 r).bind fun acc r => (num 0 16 r).bind fun n r => (nums n.toNat r).bind fun ns r => .ok (key, (acc, ns)) r
def mayRow (T : Tab) (key : Int) : Bool := (match T.getLast? with | some p => lessB p.1 key | none => true) && decide (tmany T (grp key) < 40)
def rowsR : Nat → Tab → List UInt8 → Rd Tab
 | 0, T, l => .ok T l
 | k + 1, T, l => (row l).bind fun p r => if mayRow T p.1 then rowsR k (T ++ [p]) r else .err 21
def takeR (l : List UInt8) : Rd Tab := (num 0 320 l).bind fun n r => (rowsR n.toNat [] r).bind fun T r => if r = [] then .ok T [] else .err 21
theorem num_err {lo hi : Int} {l : List UInt8} {f : Int} (h : num lo hi l = .err f) : f ≠ 0 := by
 unfold num at h
 split at h
 ·rename_i h0; injection h with h; subst h; exact h0
 ·split at h
  ·injection h with h; subst h; decide
  ·cases h
theorem turnN_backN {u : Nat} : turnN (backN u) = u := by
 unfold backN turnN
 split <;> split <;> omega
theorem backN_R64 {u : Nat} (h : u < 18446744073709551616) : R64 (backN u) := by
 unfold backN R64
 split <;> omega
theorem tkFrom_ok : ∀ (l : List UInt8) (i u : Nat) (n : Int) (z : Nat), i ≤ 9 → u < 128 ^ i → tkFrom i u l = (n, z, 0) →
  ∃ v, i < z ∧ z - i ≤ l.length ∧ l.take (z - i) = digs v ∧ n = backN (u + v * 128 ^ i) ∧ u + v * 128 ^ i < 18446744073709551616 ∧ (0 < i → 0 < v)
 | [], i, u, n, z, _, _, h => by simp [tkFrom] at h
 | c :: r, i, u, n, z, hi, hu, h => by
  have hc := c.toNat_lt
  unfold tkFrom at h
  split at h
  ·simp at h
  ·rename_i h9
   split at h
   ·rename_i hbig
    have hi9 : i ≠ 9 := by rintro rfl; exact h9 ⟨rfl, by omega⟩
    have hu' : u + c.toNat % 128 * 128 ^ i < 128 ^ (i + 1) := by
     have h1 : c.toNat % 128 ≤ 127 := by omega
     have h2 : c.toNat % 128 * 128 ^ i ≤ 127 * 128 ^ i := Nat.mul_le_mul_right _ h1
     rw [Nat.pow_succ]; omega
    obtain ⟨v, h1, h2, h3, h4, h5, h6⟩ := tkFrom_ok r (i + 1) _ n z (by omega) hu' h
    have h6' := h6 (by omega)
    have hd : ¬ (c.toNat % 128 + 128 * v) < 128 := by omega
    have e2 : (c.toNat % 128 + 128 * v) * 128 ^ i = c.toNat % 128 * 128 ^ i + v * 128 ^ (i + 1) := by
     rw [Nat.pow_succ, Nat.add_mul, Nat.mul_comm 128 v, Nat.mul_assoc, Nat.mul_comm 128 (128 ^ i)]
    refine ⟨c.toNat % 128 + 128 * v, by omega, by rw [List.length_cons]; omega, ?_, by rw [h4, e2]; congr 1; omega, by rw [e2]; omega, fun _ => by omega⟩
    rw [digs_big hd]
    have e1 : z - i = (z - (i + 1)) + 1 := by omega
    rw [e1, List.take_succ_cons, h3, show (c.toNat % 128 + 128 * v) / 128 = v by omega, show (c.toNat % 128 + 128 * v) % 128 + 128 = c.toNat by omega, UInt8.ofNat_toNat]
   ·rename_i hsm
    split at h
    ·simp at h
    ·rename_i h0
     injection h with h1 h2
     injection h2 with h2 h3
     subst h1 h2
     have e1 : i + 1 - i = 1 := by omega
     refine ⟨c.toNat, by omega, by rw [e1, List.length_cons]; omega, ?_, by rw [Nat.mod_eq_of_lt (by omega)], ?_, fun h => by omega⟩
     ·rw [e1, List.take_succ_cons, List.take_zero, digs_small (by omega), UInt8.ofNat_toNat]
     ·have hp : i = 9 ∨ i ≤ 8 := by omega
      rcases hp with rfl | hp
      ·have : c.toNat ≤ 1 := by have := fun h => h9 ⟨rfl, h⟩; omega
       rw [pow9] at *
       have : c.toNat * 9223372036854775808 ≤ 1 * 9223372036854775808 := Nat.mul_le_mul_right _ this
       omega
      ·have h1 : 128 ^ i ≤ 128 ^ 8 := Nat.pow_le_pow_right (by omega) hp
       have h2 : c.toNat * 128 ^ i ≤ 127 * 128 ^ i := Nat.mul_le_mul_right _ (by omega)
       have h3 : (128 : Nat) ^ 8 = 72057594037927936 := by decide
       omega
theorem tk_ok {l : List UInt8} {n : Int} {z : Nat} (h : tk l = (n, z, 0)) : 0 < z ∧ z ≤ l.length ∧ l.take z = digs (turnN n) ∧ R64 n := by
 obtain ⟨v, h1, h2, h3, h4, h5, _⟩ := tkFrom_ok l 0 0 n z (by omega) (by simp) h
 simp only [Nat.pow_zero, Nat.mul_one, Nat.zero_add, Nat.sub_zero] at *
 refine ⟨h1, h2, ?_, ?_⟩
 ·rw [h3, h4, turnN_backN]
 ·rw [h4]; exact backN_R64 h5
/-! ### Tables -/
theorem num_ok {n lo hi : Int} {l r : List UInt8} (h : num lo hi l = .ok n r) : l = digs (turnN n) ++ r ∧ R64 n ∧ lo ≤ n ∧ n ≤ hi := by
 unfold num at h
 split at h
 ·cases h
 ·rename_i h0
  split at h
  ·cases h
  ·rename_i h1
   injection h with h2 h3
   have hh : tk l = (n, (tk l).2.1, 0) := by
    rw [← h2]
    have : (tk l).2.2 = 0 := by omega
    rw [← this]
   obtain ⟨_, _, h4, h5⟩ := tk_ok hh
   refine ⟨?_, h5, by omega, by omega⟩
   rw [← h4, ← h3, List.take_append_drop]
theorem R64.in {n : Int} (h : R64 n) : lo64 ≤ n ∧ n ≤ hi64 := h
theorem nums_ok : ∀ (k : Nat) (l : List UInt8) (ns : List Int) (r : List UInt8), nums k l = .ok ns r → l = putL ns ++ r ∧ (∀ n ∈ ns, R64 n) ∧ ns.length = k
 | 0, l, ns, r, h => by
  injection h with h1 h2
  subst h1 h2
  simp [putL]
 | k + 1, l, ns, r, h => by
  unfold nums at h
  cases h1 : num lo64 hi64 l with
  | err e => rw [h1] at h; cases h
  | ok n r1 =>
   rw [h1] at h
   simp only [Rd.bind] at h
   cases h2 : nums k r1 with
   | err e => rw [h2] at h; cases h
   | ok ms r2 =>
    rw [h2] at h
    injection h with h3 h4
    subst h3 h4
    obtain ⟨a1, a2, _⟩ := num_ok h1
    obtain ⟨b1, b2, b3⟩ := nums_ok k r1 ms r2 h2
    refine ⟨?_, fun m hm => ?_, by simp [b3]⟩
    ·rw [a1, b1]; unfold putL; rw [List.flatMap_cons, List.append_assoc]
    ·rcases List.mem_cons.1 hm with rfl | hm
     ·exact a2
     ·exact b2 m hm
theorem row_ok {l r : List UInt8} {p : Int × Cell} (h : row l = .ok p r) : l = putL (rowL p) ++ r ∧ R64 p.1 ∧ COk p.2 := by
 unfold row at h
 cases h1 : num lo64 hi64 l with
 | err e => rw [h1] at h; cases h
 | ok key r1 =>
  rw [h1] at h
  simp only [Rd.bind] at h
  cases h2 : num lo64 hi64 r1 with
  | err e => rw [h2] at h; cases h
  | ok acc r2 =>
   rw [h2] at h
   simp only at h
   cases h3 : num 0 16 r2 with
   | err e => rw [h3] at h; cases h
   | ok n r3 =>
    rw [h3] at h
    simp only at h
    cases h4 : nums n.toNat r3 with
    | err e => rw [h4] at h; cases h
    | ok ns r4 =>
     rw [h4] at h
     injection h with h5 h6
     subst h5 h6
     obtain ⟨a1, a2, _⟩ := num_ok h1
     obtain ⟨b1, b2, _⟩ := num_ok h2
     obtain ⟨c1, c2, c3, c4⟩ := num_ok h3
     obtain ⟨d1, d2, d3⟩ := nums_ok _ _ _ _ h4
     refine ⟨?_, a2, b2, d2, by show ns.length ≤ 16; omega⟩
     rw [a1, b1, c1, d1]
     have e : (ns.length : Int) = n := by omega
     unfold rowL putL; simp only [List.flatMap_cons, List.append_assoc, e]
theorem Rises.snoc {T : Tab} {p : Int × Cell} (h : Rises (T ++ [p])) : Rises T ∧ mayRow T p.1 = decide (tmany T (grp p.1) < 40) := by
 unfold Rises at h ⊢
 rw [List.pairwise_append] at h
 refine ⟨h.1, ?_⟩
 unfold mayRow
 cases hl : T.getLast? with
 | none => simp
 | some q =>
  have := h.2.2 q (List.mem_of_getLast? hl) p (by simp)
  simp only [this, Bool.true_and]
theorem Rises.push {T : Tab} {p : Int × Cell} (h : Rises T) (hm : mayRow T p.1 = true) : Rises (T ++ [p]) := by
 unfold mayRow at hm
 unfold Rises at h ⊢
 rw [List.pairwise_append]
 refine ⟨h, by simp, fun a ha b hb => ?_⟩
 cases List.mem_singleton.1 hb
 rw [Bool.and_eq_true] at hm
 cases hl : T.getLast? with
 | none => rw [List.getLast?_eq_none_iff] at hl; subst hl; cases ha
 | some q =>
  have hq : lessB q.1 p.1 = true := by have := hm.1; rw [hl] at this; exact this
  obtain ⟨ys, rfl⟩ : ∃ ys, T = ys ++ [q] := List.getLast?_eq_some_iff.1 hl
  rcases List.mem_append.1 ha with ha | ha
  ·rw [List.pairwise_append] at h
   exact lessB_trans (h.2.2 a ha q (by simp)) hq
  ·cases List.mem_singleton.1 ha; exact hq
theorem tmany_snoc (T : Tab) (p : Int × Cell) (g : Int) : tmany (T ++ [p]) g = tmany T g + if grp p.1 = g then 1 else 0 := by
 unfold tmany
 rw [List.countP_append]
 simp [List.countP_cons]
theorem TOk.push {T : Tab} {p : Int × Cell} (h : TOk T) (h1 : R64 p.1) (h2 : COk p.2) (hm : mayRow T p.1 = true) : TOk (T ++ [p]) := by
 refine ⟨h.rises.push hm, fun q hq => ?_, fun q hq => ?_, fun g => ?_⟩
 ·rcases List.mem_append.1 hq with hq | hq
  ·exact h.key q hq
  ·cases List.mem_singleton.1 hq; exact h1
 ·rcases List.mem_append.1 hq with hq | hq
  ·exact h.cell q hq
  ·cases List.mem_singleton.1 hq; exact h2
 ·rw [tmany_snoc]
  unfold mayRow at hm
  rw [Bool.and_eq_true] at hm
  have := of_decide_eq_true hm.2
  split
  ·rename_i e; subst e; omega
  ·have := h.many g; omega
theorem rowsR_ok : ∀ (k : Nat) (T : Tab) (l : List UInt8) (V : Tab) (r : List UInt8), TOk T → rowsR k T l = .ok V r → TOk V ∧ ∃ U, V = T ++ U ∧ U.length = k ∧ l = putL (U.flatMap rowL) ++ r
 | 0, T, l, V, r, hT, h => by
  injection h with h1 h2
  subst h1 h2
  exact ⟨hT, [], by simp, rfl, by simp [putL]⟩
 | k + 1, T, l, V, r, hT, h => by
  unfold rowsR at h
  cases h1 : row l with
  | err e => rw [h1] at h; cases h
  | ok p r1 =>
   rw [h1] at h
   simp only [Rd.bind] at h
   split at h
   ·rename_i hm
    obtain ⟨a1, a2, a3⟩ := row_ok h1
    obtain ⟨b1, U, b2, b3, b4⟩ := rowsR_ok k _ _ _ _ (hT.push a2 a3 hm) h
    refine ⟨b1, p :: U, by rw [b2]; simp, by simp [b3], ?_⟩
    rw [a1, b4, List.flatMap_cons, putL_append, List.append_assoc]
   ·cases h
theorem TOk.nil : TOk [] := ⟨by simp [Rises], by simp, by simp, fun g => by simp [tmany]⟩
theorem takeR_ok {l r : List UInt8} {T : Tab} (h : takeR l = .ok T r) : TOk T ∧ l = putL (tabL T) := by
 unfold takeR at h
 cases h1 : num 0 320 l with
 | err e => rw [h1] at h; cases h
 | ok n r1 =>
  rw [h1] at h
  simp only [Rd.bind] at h
  cases h2 : rowsR n.toNat [] r1 with
  | err e => rw [h2] at h; cases h
  | ok V r2 =>
   rw [h2] at h
   simp only at h
   split at h
   ·rename_i hr
    injection h with h3 h4
    subst h3
    obtain ⟨a1, a2, a3, a4⟩ := num_ok h1
    obtain ⟨b1, U, b2, b3, b4⟩ := rowsR_ok _ _ _ _ _ TOk.nil h2
    refine ⟨b1, ?_⟩
    rw [List.nil_append] at b2
    subst b2
    rw [a1, b4, hr]
    have e : (V.length : Int) = n := by omega
    unfold tabL putL; rw [List.flatMap_cons, List.append_nil, e]
   ·cases h
end Go.Proofs.YtopeleenlcnkkaaGreatDoor
/-
 IDEALS IN PLAIN WORDS: what is loaded, which states there are; what was told may be loaded.
-/
namespace Go.Proofs.YtopeleenlcnkkaaGreatDoor
open Go Go.RowKit
def nodeAt (nodes : List JN) (i : Int) : JN := nodes.getD i.toNat default
def loadL (nodes : List JN) : List St → Tabs → Except Int Tabs
 | [], Ts => .ok Ts
 | s :: l, Ts =>
  if findJ nodes s.1 < 0 ∨ stateful (nodeAt nodes (findJ nodes s.1)).kind = false ∨ (Ts.getD (findJ nodes s.1).toNat none).isSome = true then .error 180
  else match takeR s.2.data.toList with
   | .err e => .error e
   | .ok T _ => if fitsP (nodeAt nodes (findJ nodes s.1)).kind (nodeAt nodes (findJ nodes s.1)).n T = true then loadL nodes l (Ts.set (findJ nodes s.1).toNat (some T)) else .error 181
def noTabs (nodes : List JN) : Tabs := List.replicate nodes.length none
def loadP (j : Jb) (l : List St) : Except Int Tabs :=
 if jobOk j = true then (match loadL j.nodes l (noTabs j.nodes) with | .ok Ts => .ok (fillL j.nodes Ts) | .error e => .error e) else .error 2
structure TabsOk (nodes : List JN) (Ts : Tabs) : Prop where
 len : Ts.length = nodes.length
 has : ∀ (i : Nat) (d : JN), nodes[i]? = some d → stateful d.kind = true → ∃ T, Ts[i]? = some (some T) ∧ TOk T ∧ fitsP d.kind d.n T = true
 not : ∀ (i : Nat) (d : JN), nodes[i]? = some d → stateful d.kind = false → Ts[i]? = some none
structure TabsIn (nodes : List JN) (Ts : Tabs) : Prop where
 len : Ts.length = nodes.length
 has : ∀ (i : Nat) (d : JN) (T : Tab), nodes[i]? = some d → Ts[i]? = some (some T) → stateful d.kind = true ∧ TOk T ∧ fitsP d.kind d.n T = true
theorem findJ_cases (nodes : List JN) (uid : ByteArray) : (findJ nodes uid = -1 ∧ ∀ d ∈ nodes, d.uid ≠ uid) ∨
  ∃ i d, findJ nodes uid = ((i : Nat) : Int) ∧ nodes[i]? = some d ∧ d.uid = uid ∧ nodeAt nodes (findJ nodes uid) = d ∧ ∀ (k : Nat) (e : JN), k < i → nodes[k]? = some e → e.uid ≠ uid := by
 unfold findJ
 cases h : nodes.findIdx? (fun d => decide (d.uid = uid)) with
 | none =>
  left
  rw [List.findIdx?_eq_none_iff] at h
  exact ⟨rfl, fun d hd => by simpa using h d hd⟩
 | some i =>
  right
  obtain ⟨hi, h1, h2⟩ := List.findIdx?_eq_some_iff_getElem.1 h
  refine ⟨i, nodes[i], rfl, List.getElem?_eq_getElem hi, by simpa using h1, ?_, fun k e hk he => ?_⟩
  ·unfold nodeAt; simp [List.getD_eq_getElem?_getD, hi]
  ·obtain ⟨hk', rfl⟩ := List.getElem?_eq_some_iff.1 he
   simpa using h2 k hk
theorem noTabs_in (nodes : List JN) : TabsIn nodes (noTabs nodes) := ⟨by simp [noTabs], fun i d T _ h => by
 unfold noTabs at h
 rw [List.getElem?_replicate] at h
 split at h <;> simp at h⟩
theorem TabsIn.set {nodes : List JN} {Ts : Tabs} (h : TabsIn nodes Ts) {i : Nat} {d : JN} {T : Tab} (hd : nodes[i]? = some d) (hs : stateful d.kind = true) (hT : TOk T) (hf : fitsP d.kind d.n T = true) : TabsIn nodes (Ts.set i (some T)) := by
 refine ⟨by simpa using h.len, fun k e U he hU => ?_⟩
 rw [List.getElem?_set] at hU
 split at hU
 ·rename_i hik
  subst hik
  split at hU
  ·injection hU with hU; injection hU with hU; subst hU
   rw [hd] at he; injection he with he; subst he
   exact ⟨hs, hT, hf⟩
  ·cases hU
 ·exact h.has k e U he hU
theorem loadL_in {nodes : List JN} : ∀ {l : List St} {Ts Us : Tabs}, TabsIn nodes Ts → loadL nodes l Ts = .ok Us → TabsIn nodes Us
 | [], Ts, Us, h, e => by injection e with e; subst e; exact h
 | s :: l, Ts, Us, h, e => by
  unfold loadL at e
  split at e
  ·cases e
  ·rename_i hno
   simp only [not_or, Bool.not_eq_false, Bool.not_eq_true] at hno
   obtain ⟨h1, h2, h3⟩ := hno
   rcases findJ_cases nodes s.1 with ⟨h4, _⟩ | ⟨i, d, h4, h5, _, h6, _⟩
   ·omega
   rw [h6] at h2 e
   split at e
   ·cases e
   ·rename_i T r ht
    split at e
    ·rename_i hf
     refine loadL_in (h.set (i := (findJ nodes s.1).toNat) (d := d) ?_ h2 (takeR_ok ht).1 hf) e
     rw [h4]; exact h5
    ·cases e
theorem fillL_get (nodes : List JN) (Ts : Tabs) (i : Nat) {d : JN} {t : Option Tab} (hd : nodes[i]? = some d) (ht : Ts[i]? = some t) : (fillL nodes Ts)[i]? = some (if t.isNone && stateful d.kind then some [] else t) := by
 unfold fillL
 rw [List.getElem?_zipWith, hd, ht]
theorem fillL_len (nodes : List JN) (Ts : Tabs) (h : Ts.length = nodes.length) : (fillL nodes Ts).length = nodes.length := by unfold fillL; simp [h]
theorem fits_nil {kind n : Int} (h : stateful kind = true) : fitsP kind n [] = true := by unfold fitsP; simp [h]
theorem TabsIn.fill {nodes : List JN} {Ts : Tabs} (h : TabsIn nodes Ts) : TabsOk nodes (fillL nodes Ts) := by
 have get : ∀ (i : Nat) (d : JN), nodes[i]? = some d → ∃ t, Ts[i]? = some t := fun i d hd => by
  have := (List.getElem?_eq_some_iff.1 hd).1
  exact ⟨_, List.getElem?_eq_getElem (by rw [h.len]; exact this)⟩
 refine ⟨fillL_len _ _ h.len, fun i d hd hs => ?_, fun i d hd hs => ?_⟩
 ·obtain ⟨t, ht⟩ := get i d hd
  rw [fillL_get nodes Ts i hd ht, hs]
  cases t with
  | none => exact ⟨[], rfl, TOk.nil, fits_nil hs⟩
  | some T => exact ⟨T, rfl, (h.has i d T hd ht).2⟩
 ·obtain ⟨t, ht⟩ := get i d hd
  rw [fillL_get nodes Ts i hd ht, hs]
  cases t with
  | none => rfl
  | some T => have := (h.has i d T hd ht).1; rw [hs] at this; cases this
theorem load_ok {j : Jb} {l : List St} {Ts : Tabs} (h : loadP j l = .ok Ts) : jobOk j = true ∧ TabsOk j.nodes Ts := by
 unfold loadP at h
 split at h
 ·rename_i hj
  cases e : loadL j.nodes l (noTabs j.nodes) with
  | error f => rw [e] at h; cases h
  | ok Us => rw [e] at h; injection h with h; subst h; exact ⟨hj, (loadL_in (noTabs_in _) e).fill⟩
 ·cases h
end Go.Proofs.YtopeleenlcnkkaaGreatDoor
