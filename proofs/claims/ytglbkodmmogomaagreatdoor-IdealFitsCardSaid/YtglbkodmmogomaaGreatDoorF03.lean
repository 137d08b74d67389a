/-
  append to a slice of the call's own, whatever slice is appended.
-/
import Derived.Test.YtglbkodmmogomaaGreatDoorF02
import Derived.Test.YtglbkodmmogomaaGreatDoorProg
import Derived.Test.YtglbkodmmogomaaGreatDoorF01
set_option linter.unusedVariables false
set_option linter.unusedSimpArgs false
namespace Go.Proofs.YtglbkodmmogomaaGreatDoor
open Go Go.RowKit
section
variable {P : Program} {w : World}
theorem run_append_reads (base : Nat) (t ty e : TypeId) (i : TypeInfo) (z : Value) (size bytes : Nat) (ht : P.underlying t = some (.slice e)) (hi : P.info? e = some i) (hz : i.zero = some z)
    (hsize : i.size = size) (hby : i.bytes = bytes) (hzs : z.cells.size = size) (hsz : 0 < size)
    {v : Value} {n : Nat} {xs : List Value} (hown : w.ownsRow base e size v n xs) {u : Value} {cs : List Value} (hr : Reads w size u cs) (h1 : ∀ x ∈ cs, x.oneCell' = true)
    (hmax : (n * size + cs.length) * bytes ≤ 140737488355328) (hbig : n * size + cs.length ≤ maxLen) (hbase : base ≤ w.heap.size) :
    ∃ v' n' w', (Builtin.append_ #[t, t] ty #[v, u]).run P w = .ok v' w' ∧ w'.ownsRow base e size v' n' (xs ++ cs) ∧ n' * size = n * size + cs.length ∧ w.grownBy w' v.ownBlock ∧
      (v' = .slice none 0 0 ↔ v = .slice none 0 0 ∧ cs = []) := by
  obtain ⟨a, m, cap, rfl, hm1, hm2, hlen, hcells⟩ := hr
  have hnm : n + m ≤ n * size + cs.length := by
    rw [hlen, ← Nat.add_mul]; exact Nat.le_mul_of_pos_right _ hsz
  by_cases hc : cs = []
  · subst hc
    have hm : m = 0 := by
      rcases Nat.eq_zero_or_pos m with h | h
      · exact h
      · have := Nat.mul_pos h hsz; simp at hlen; omega
    subst hm
    have hf : ∀ W, (Builtin.firstCells size 0 (.slice a 0 cap)).run P W = .ok #[] W := fun W => by
      cases a <;> simp [Builtin.firstCells, loadCells, loadCellsFrom]
    refine ⟨v, n, w, ?_, by simpa using hown, by simp, ⟨rfl, rfl, rfl, Nat.le_refl _, fun _ _ _ => rfl⟩, by simp⟩
    rcases hown.2 with ⟨rfl, rfl⟩ | ⟨g, vcap, cur, rfl, hbg, hg, hnc, hcm, hcs, htake⟩
    · subst hsize
      simp [Builtin.append_, run_underlying ht, sizeOf, typeInfo, hi, Builtin.lenOf, hf]
    · subst hsize
      simp [Builtin.append_, run_underlying ht, sizeOf, typeInfo, hi, Builtin.lenOf, hf, hnc, storeCells]
  · obtain ⟨b, off, rfl, hcl⟩ := hcells.resolve_left hc
    have hadd : ∀ j, (⟨b, off, none⟩ : Addr).add j = ⟨b, off + j, none⟩ := fun j => Addr.add_lit b off j
    obtain ⟨v', w', g1, g2, g3, g4⟩ := run_append_own (P := P) w base t ty e i z size bytes ht hi hz hsize hby hzs hsz v n xs hown ⟨b, off, none⟩ m cap cs hlen
      (fun j x hx => by rw [hadd]; exact hcl j x hx) h1 (Nat.le_trans hnm hbig) (Nat.le_trans (Nat.mul_le_mul_right _ hnm) hmax) hbase
    refine ⟨v', n + m, w', g1, g2, by rw [Nat.add_mul, hlen], g3, ?_⟩
    rw [g4]
    constructor
    · rintro ⟨h, rfl⟩; exact ⟨h, absurd (List.eq_nil_of_length_eq_zero (by simpa using hlen)) hc⟩
    · rintro ⟨h, h'⟩; exact absurd h' hc
theorem wp_append_reads {o : Oper} {a : Act} {K : Act → World → Prop} {Q : Exit → Act → World → Prop} (s x : Operand) (t : TypeId)
    (ho : o.op = .call { callee := .builtin .append, args := #[s, x], argTypes := #[t, t] })
    (base e : Nat) (i : TypeInfo) (z : Value) (size bytes : Nat) (ht : P.underlying t = some (.slice e)) (hi : P.info? e = some i) (hz : i.zero = some z)
    (hsize : i.size = size) (hby : i.bytes = bytes) (hzs : z.cells.size = size) (hsz : 0 < size)
    (v : Value) (n : Nat) (xs : List Value) (hs : a.eval s = v) (hown : w.ownsRow base e size v n xs) (u : Value) (cs : List Value) (hx : a.eval x = u) (hr : Reads w size u cs) (h1 : ∀ x ∈ cs, x.oneCell' = true)
    (hmax : (n * size + cs.length) * bytes ≤ 140737488355328) (hbig : n * size + cs.length ≤ maxLen) (hbase : base ≤ w.heap.size)
    (h : ∀ v' n' w', w'.ownsRow base e size v' n' (xs ++ cs) → n' * size = n * size + cs.length → w.grownBy w' v.ownBlock → (v' = .slice none 0 0 ↔ v = .slice none 0 0 ∧ cs = []) → K (a.put o.dst v') w') : o.wp P a w K Q := by
  obtain ⟨v', n', w', g1, g2, g3, g4, g5⟩ := run_append_reads (P := P) base t o.type e i z size bytes ht hi hz hsize hby hzs hsz hown hr h1 hmax hbig hbase
  unfold Oper.wp execOp
  simp only [ho, resolve, invoke, builtin, Sem.run_bind, Sem.run_pure, Result.andThen_ok, List.map_toArray, List.map_cons, List.map_nil, hs, hx, g1]
  exact h v' n' w' g2 g3 g4 g5
theorem wpList_append_reads {ops : Array Oper} {rest : List Oper} {o : Oper} {a : Act} {Q : Exit → Act → World → Prop} (hgd : o.guard = none) (s x : Operand) (t : TypeId)
    (ho : o.op = .call { callee := .builtin .append, args := #[s, x], argTypes := #[t, t] })
    (base e : Nat) (i : TypeInfo) (z : Value) (size bytes : Nat) (ht : P.underlying t = some (.slice e)) (hi : P.info? e = some i) (hz : i.zero = some z)
    (hsize : i.size = size) (hby : i.bytes = bytes) (hzs : z.cells.size = size) (hsz : 0 < size)
    (v : Value) (n : Nat) (xs : List Value) (hs : a.eval s = v) (hown : w.ownsRow base e size v n xs) (u : Value) (cs : List Value) (hx : a.eval x = u) (hr : Reads w size u cs) (h1 : ∀ x ∈ cs, x.oneCell' = true)
    (hmax : (n * size + cs.length) * bytes ≤ 140737488355328) (hbig : n * size + cs.length ≤ maxLen) (hbase : base ≤ w.heap.size)
    (h : ∀ v' n' w', w'.ownsRow base e size v' n' (xs ++ cs) → n' * size = n * size + cs.length → w.grownBy w' v.ownBlock → (v' = .slice none 0 0 ↔ v = .slice none 0 0 ∧ cs = []) → wpList P ops Q rest (a.put o.dst v') w') :
    wpList P ops Q (o :: rest) a w :=
  wpList_plain hgd fun _ hK => wp_append_reads s x t ho base e i z size bytes ht hi hz hsize hby hzs hsz v n xs hs hown u cs hx hr h1 hmax hbig hbase (fun v' n' w' g1 g2 g3 g4 => hK _ _ (h v' n' w' g1 g2 g3 g4))
/-- What a slice has, known by its parts. -/
theorem Reads.slice {k : Nat} {v : Value} {cs : List Value} (h : Reads w k v cs) : ∃ a n cap, v = .slice a n cap ∧ n ≤ cap ∧ cap ≤ maxLen ∧ cs.length = n * k ∧ (n = 0 ∨ k = 0 ∨ ∃ b off, a = some ⟨b, off, none⟩) ∧
    (∀ b off, a = some ⟨b, off, none⟩ → ∀ i x, cs[i]? = some x → w.cell? ⟨b, off + i, none⟩ = some x) := by
  obtain ⟨a, n, cap, rfl, h1, h2, h3, h4⟩ := h
  refine ⟨a, n, cap, rfl, h1, h2, h3, ?_, ?_⟩
  · rcases h4 with rfl | ⟨b, off, rfl, h4⟩
    · have h3' : n * k = 0 := by rw [← h3]; rfl
      rcases Nat.mul_eq_zero.1 h3' with h5 | h5
      · exact .inl h5
      · exact .inr (.inl h5)
    · exact .inr (.inr ⟨b, off, rfl⟩)
  · rcases h4 with rfl | ⟨b, off, rfl, h4⟩
    · intro b off _ i x hx; simp at hx
    · rintro b' off' e i x hx
      cases e
      exact h4 i x hx
end
end Go.Proofs.YtglbkodmmogomaaGreatDoor
/-
  What tables are, in plain words: rows in order of group and key.
-/
namespace Go.Proofs.YtglbkodmmogomaaGreatDoor
/-- A number that fits. -/
def R64 (n : Int) : Prop := -9223372036854775808 ≤ n ∧ n ≤ 9223372036854775807
def grp (k : Int) : Int := k % 8
theorem grp_lo (k : Int) : 0 ≤ grp k := by unfold grp; omega
theorem grp_hi (k : Int) : grp k < 8 := by unfold grp; omega
abbrev Cell := Int × List Int
abbrev Tab := List (Int × Cell)
def lessB (a b : Int) : Bool := decide (grp a < grp b) || (decide (grp a = grp b) && decide (a < b))
theorem lessB_iff {a b : Int} : lessB a b = true ↔ grp a < grp b ∨ grp a = grp b ∧ a < b := by simp [lessB]
theorem lessB_irrefl (a : Int) : lessB a a = false := by simp [lessB]
theorem lessB_trans {a b c : Int} (h : lessB a b = true) (k : lessB b c = true) : lessB a c = true := by
  rw [lessB_iff] at *; omega
theorem lessB_total {a b : Int} (h : a ≠ b) : lessB a b = true ∨ lessB b a = true := by
  rw [lessB_iff, lessB_iff]; omega
theorem lessB_asymm {a b : Int} (h : lessB a b = true) : lessB b a = false := by
  cases h' : lessB b a
  · rfl
  · have := lessB_trans h h'; rw [lessB_irrefl] at this; cases this
/-- Rising. -/
def Rises (T : Tab) : Prop := T.Pairwise fun p q => lessB p.1 q.1 = true
def tget (T : Tab) (k : Int) : Option Cell := (T.find? fun p => k == p.1).map (·.2)
def tmany (T : Tab) (g : Int) : Nat := T.countP fun p => grp p.1 == g
def tput (k : Int) (c : Cell) : Tab → Tab
  | [] => [(k, c)]
  | p :: r => if lessB p.1 k then p :: tput k c r else if p.1 = k then (k, c) :: r else (k, c) :: p :: r
def tdrop (k : Int) (T : Tab) : Tab := T.filter fun p => k != p.1
def tkeys (T : Tab) : List Int := T.map (·.1)
def COk (c : Cell) : Prop := R64 c.1 ∧ (∀ x ∈ c.2, R64 x) ∧ c.2.length ≤ 16
structure TOk (T : Tab) : Prop where
  rises : Rises T
  key : ∀ p ∈ T, R64 p.1
  cell : ∀ p ∈ T, COk p.2
  many : ∀ g, tmany T g ≤ 40
theorem Rises.nodup {T : Tab} (h : Rises T) : (tkeys T).Nodup := by
  unfold tkeys
  rw [List.Nodup, List.pairwise_map]
  exact h.imp fun {a b} hab e => by rw [e, lessB_irrefl] at hab; cases hab
theorem mem_tput {k : Int} {c : Cell} : ∀ {T : Tab}, Rises T → ∀ {p : Int × Cell}, p ∈ tput k c T ↔ p = (k, c) ∨ (p ∈ T ∧ p.1 ≠ k)
  | [], _, p => by simp [tput]
  | q :: r, h, p => by
    obtain ⟨h1, h2⟩ := List.pairwise_cons.1 h
    unfold tput
    split
    · rename_i hl
      have hne : q.1 ≠ k := fun e => by rw [e, lessB_irrefl] at hl; cases hl
      rw [List.mem_cons, mem_tput h2, List.mem_cons]
      constructor
      · rintro (rfl | h | h)
        · exact .inr ⟨.inl rfl, hne⟩
        · exact .inl h
        · exact .inr ⟨.inr h.1, h.2⟩
      · rintro (h | ⟨rfl | h, h'⟩)
        · exact .inr (.inl h)
        · exact .inl rfl
        · exact .inr (.inr ⟨h, h'⟩)
    · rename_i hl
      split
      · rename_i he
        rw [List.mem_cons, List.mem_cons]
        constructor
        · rintro (h | h)
          · exact .inl h
          · refine .inr ⟨.inr h, fun e => ?_⟩
            have := h1 p h
            rw [e, he, lessB_irrefl] at this; cases this
        · rintro (h | ⟨rfl | h, h'⟩)
          · exact .inl h
          · exact absurd he h'
          · exact .inr h
      · rename_i he
        have hkq : lessB k q.1 = true := (lessB_total he).resolve_left hl
        rw [List.mem_cons]
        constructor
        · rintro (h | h)
          · exact .inl h
          · refine .inr ⟨h, fun e => ?_⟩
            rcases List.mem_cons.1 h with rfl | h
            · exact he e
            · have := lessB_trans hkq (h1 p h)
              rw [e, lessB_irrefl] at this; cases this
        · rintro (h | ⟨h, _⟩)
          · exact .inl h
          · exact .inr h
theorem Rises.tput {k : Int} {c : Cell} : ∀ {T : Tab}, Rises T → Rises (tput k c T)
  | [], _ => by simp [Rises, Go.Proofs.YtglbkodmmogomaaGreatDoor.tput]
  | q :: r, h => by
    obtain ⟨h1, h2⟩ := List.pairwise_cons.1 h
    unfold Go.Proofs.YtglbkodmmogomaaGreatDoor.tput
    split
    · rename_i hl
      refine List.pairwise_cons.2 ⟨fun p hp => ?_, Rises.tput h2⟩
      rcases (mem_tput h2).1 hp with rfl | ⟨hp, _⟩
      · exact hl
      · exact h1 p hp
    · rename_i hl
      split
      · rename_i he
        exact List.pairwise_cons.2 ⟨fun p hp => by have := h1 p hp; rw [he] at this; exact this, h2⟩
      · rename_i he
        have hkq : lessB k q.1 = true := (lessB_total he).resolve_left hl
        refine List.pairwise_cons.2 ⟨fun p hp => ?_, h⟩
        rcases List.mem_cons.1 hp with rfl | hp
        · exact hkq
        · exact lessB_trans hkq (h1 p hp)
theorem tget_some {T : Tab} (h : Rises T) {k : Int} {c : Cell} : tget T k = some c ↔ (k, c) ∈ T := by
  induction T with
  | nil => simp [tget]
  | cons q r ih =>
    obtain ⟨h1, h2⟩ := List.pairwise_cons.1 h
    unfold tget at *
    rw [List.find?_cons]
    by_cases he : k = q.1
    · subst he
      simp
      constructor
      · intro h; exact .inl (by rw [← h])
      · rintro (h | h)
        · rw [← h]
        · have := h1 _ h; simp [lessB_irrefl] at this
    · have : (k == q.1) = false := by simp [he]
      rw [this]
      simp only [List.mem_cons]
      rw [ih h2]
      constructor
      · exact .inr
      · rintro (h | h)
        · rw [← h] at he; exact absurd rfl he
        · exact h
theorem tget_none {T : Tab} {k : Int} : tget T k = none ↔ k ∉ tkeys T := by
  unfold tget tkeys
  simp
  constructor
  · intro h a b hc; exact h _ _ _ hc rfl
  · intro h a b l hab e; subst e; exact h _ _ hab
/-- Two rising tables of the same rows are one. -/
theorem Rises.ext : ∀ {T U : Tab}, Rises T → Rises U → (∀ p, p ∈ T ↔ p ∈ U) → T = U
  | [], [], _, _, _ => rfl
  | [], q :: r, _, _, h => by have := (h q).2 (by simp); cases this
  | q :: r, [], _, _, h => by have := (h q).1 (by simp); cases this
  | p :: r, q :: s, hT, hU, h => by
    obtain ⟨a1, a2⟩ := List.pairwise_cons.1 hT
    obtain ⟨b1, b2⟩ := List.pairwise_cons.1 hU
    have hpq : p = q := by
      rcases List.mem_cons.1 ((h p).1 (by simp)) with e | e
      · exact e
      · rcases List.mem_cons.1 ((h q).2 (by simp)) with e' | e'
        · exact e'.symm
        · have h1 := b1 p e
          have h2 := a1 q e'
          rw [lessB_asymm h1] at h2; cases h2
    subst hpq
    congr 1
    refine Rises.ext a2 b2 fun x => ⟨fun hx => ?_, fun hx => ?_⟩
    · rcases List.mem_cons.1 ((h x).1 (by simp [hx])) with e | e
      · subst e; have := a1 x hx; rw [lessB_irrefl] at this; cases this
      · exact e
    · rcases List.mem_cons.1 ((h x).2 (by simp [hx])) with e | e
      · subst e; have := b1 x hx; rw [lessB_irrefl] at this; cases this
      · exact e
theorem mem_tdrop {k : Int} {T : Tab} {p : Int × Cell} : p ∈ tdrop k T ↔ p ∈ T ∧ p.1 ≠ k := by
  unfold tdrop; simp; intro _; exact ⟨fun h e => h e.symm, fun h e => h e.symm⟩
theorem Rises.tdrop {k : Int} {T : Tab} (h : Rises T) : Rises (tdrop k T) := h.sublist List.filter_sublist
end Go.Proofs.YtglbkodmmogomaaGreatDoor
/-
  Small functions: the group of a key, cmp, slices.Clone of numbers, table.own.
-/
namespace Go.Proofs.YtglbkodmmogomaaGreatDoor
open Go Go.RowKit
theorem ret_int {k : IntKind} {a b : Int} (h : a = b) : Ending.returned (.int k a) = .returned (.int k b) := by rw [h]

theorem tmod8 (k : Int) : k.tmod 8 = if 0 ≤ k then k % 8 else -((-k) % 8) := tmod_eq_if k 8
set_option maxHeartbeats 400000 in
theorem of_any (k : Int) (w : World) :
    Calls Tryz.prog 52 #[.int .i64 k] w fun e w' => e = .returned (.int .i64 (grp k)) ∧ w = w' := by
  have h1 := tmod8 k
  have H := Lib.hid h1
  clear h1
  go_enter Tryz.func52, Tryz.ntmps52
  go_wp2
  · rename_i hlt
    go_ret
    refine ⟨ret_int ?_, rfl⟩
    have e := H.out
    unfold grp
    show wrap64 (k.tmod 8 + 8) = k % 8
    rw [IntWalk.wrap64_in _ ⟨by split at e <;> omega, by split at e <;> omega⟩]
    split at e <;> omega
  · rename_i hge
    go_ret
    refine ⟨ret_int ?_, rfl⟩
    have e := H.out
    unfold grp
    show k.tmod 8 = k % 8
    split at e <;> omega

/-- In memory of its own, the cells cs. -/
def OwnsNew (w : World) (E k : Nat) (cs : List Value) (e : Ending) (w' : World) : Prop :=
  ∃ v' n', e = .returned v' ∧ w'.ownsRow w.heap.size E k v' n' cs ∧ n' * k = cs.length ∧ Kept none' w w'

theorem Tryz.info2 : (Tryz.prog.info? 2).map (fun i => (i.zero, i.size, i.bytes)) = some (some (.int .i64 0), 1, 8) := by kernel_rfl
set_option maxRecDepth 100000 in
set_option maxHeartbeats 400000 in
theorem clone_int (v : Value) (cs : List Value) (w : World) (hr : Reads w 1 v cs) (h1 : ∀ x ∈ cs, x.oneCell' = true) (hlen : cs.length ≤ 17592186044416) :
    Calls Tryz.prog 142 #[v] w (OwnsNew w 2 1 cs) := by
  obtain ⟨i0, hi, hz0, hz1, hz2⟩ := info_parts Tryz.info2
  obtain ⟨a, n, cap, rfl, hn, hc, hl, hp, hcell⟩ := hr.slice
  have hnil := fun (w : World) a n c => Lib.run_eql_slice_nil (P := Tryz.prog) w 97 2 a n c 0 0 Tryz.underlying97
  cases a with
  | none =>
    have hcs : cs = [] := by
      rcases hp with rfl | h | ⟨b, off, h⟩
      · exact List.eq_nil_of_length_eq_zero (by simpa using hl)
      · cases h
      · cases h
    subst hcs
    clear hcell hp h1 hr
    go_enter Tryz.func142, Tryz.ntmps142
    go_wp2
    go_ret
    exact ⟨_, 0, rfl, World.ownsRow_nil _ _ _ _, rfl, Kept.refl _ _⟩
  | some ad =>
    have H := Lib.hid hr
    have HH := Lib.hid hl
    have HC := Lib.hid hlen
    clear hcell hp hr hl hlen
    go_enter Tryz.func142, Tryz.ntmps142
    have hnew : (w.alloc (.cells #[] 2)).ownsRow w.heap.size 2 1 (.slice (some ⟨w.heap.size, 0, none⟩) 0 0) 0 [] := World.ownsRow_made w #[] 0 (Nat.le_refl _) (Nat.zero_le _) rfl
    have hrd := H.out.pure ((Kept.refl none' w).alloc (.cells #[] 2))
    have N1 := Lib.hid hnew
    have N2 := Lib.hid hrd
    clear hnew hrd
    have B1 : Hid ((0 * 1 + cs.length) * 8 ≤ 140737488355328) := by have := HC.out; show (0 * 1 + cs.length) * 8 ≤ 140737488355328; omega
    have B2 : Hid (0 * 1 + cs.length ≤ maxLen) := by have := HC.out; show 0 * 1 + cs.length ≤ maxLen; unfold maxLen; omega
    go_wp2_with (at_builtin; (refine wpList_append_reads rfl (.tmp 5) (.tmp 6) 97 rfl w.heap.size 2 i0 (.int .i64 0) 1 8 Tryz.underlying97 hi hz0 hz1 hz2 rfl (by decide) _ 0 [] rfl N1.out _ cs rfl N2.out h1 B1.out B2.out (by simp) ?_); intro v' n' w' g1 g2 g3 g4)
    go_ret
    refine ⟨v', n', rfl, g1, by simpa using g2, ?_⟩
    exact ((Kept.refl none' w).alloc _).new (Kept.grown (S := one w.heap.size) g3 (fun k hk _ => by cases hk; rfl)) (fun k hk e => by unfold one at e; omega)

theorem owns_base {w : World} {base base' e size n : Nat} {v : Value} {xs : List Value} (h : w.ownsRow base e size v n xs) (hb : base' ≤ base) : w.ownsRow base' e size v n xs := by
  refine ⟨h.1, ?_⟩
  rcases h.2 with h2 | ⟨g, cap, cur, h1, h2, h3⟩
  · exact .inl h2
  · exact .inr ⟨g, cap, cur, h1, Nat.le_trans hb h2, h3⟩
theorem owns_slice {w : World} {base e size n : Nat} {v : Value} {xs : List Value} (h : w.ownsRow base e size v n xs) : ∃ a cap, v = .slice a n cap := by
  rcases h.2 with ⟨rfl, rfl⟩ | ⟨g, cap, cur, rfl, _⟩
  · exact ⟨_, _, rfl⟩
  · exact ⟨_, _, rfl⟩
/-- A cell whose row is in memory of its own. -/
def CellNew (w : World) (acc : Int) (cs : List Value) (e : Ending) (w' : World) : Prop :=
  ∃ v' n', e = .returned (.agg #[.int .i64 acc, v']) ∧ w'.ownsRow w.heap.size 2 1 v' n' cs ∧ n' * 1 = cs.length ∧ Kept none' w w'
set_option maxRecDepth 100000 in
set_option maxHeartbeats 400000 in
theorem own_any (acc : Int) (v : Value) (cs : List Value) (w : World) (hr : Reads w 1 v cs) (h1 : ∀ x ∈ cs, x.oneCell' = true) (hlen : cs.length ≤ 17592186044416) :
    Calls Tryz.prog 101 #[.agg #[.int .i64 acc, v]] w (CellNew w acc cs) := by
  obtain ⟨a, n, cap, rfl, hn, hc, hl, hp, hcell⟩ := hr.slice
  clear hcell hp hl
  have H := Lib.hid hr
  clear hr
  go_enter Tryz.func101, Tryz.ntmps101
  go_wp2_with fail
  obtain ⟨W0, hW0⟩ : ∃ W0, ((w.alloc (Obj.cells #[Value.int IntKind.i64 acc, Value.slice a n cap] 109)).alloc (Obj.cells #[Value.int IntKind.i64 0, Value.slice none 0 0] 109)) = W0 := ⟨_, rfl⟩
  have c0 : W0.cell? ⟨w.heap.size, 0, none⟩ = some (.int .i64 acc) := by rw [← hW0]; simp
  have c1 : W0.cell? ⟨w.heap.size, 1, none⟩ = some (.slice a n cap) := by rw [← hW0]; simp
  have c2 : W0.cell? ⟨w.heap.size + 1, 0, none⟩ = some (.int .i64 0) := by rw [← hW0]; simp
  have c3 : W0.cell? ⟨w.heap.size + 1, 1, none⟩ = some (.slice none 0 0) := by rw [← hW0]; simp
  have f2 : W0.frozen? ⟨w.heap.size + 1, 0, none⟩ = false := by rw [← hW0]; simp
  have f3 : W0.frozen? ⟨w.heap.size + 1, 1, none⟩ = false := by rw [← hW0]; simp
  have hs : W0.heap.size = w.heap.size + 2 := by rw [← hW0]; simp
  have hk0 : Kept none' w W0 := by rw [← hW0]; exact ((Kept.refl _ _).alloc _).alloc _
  rw [hW0]; clear hW0
  refine wp_region_eager [0, 1, 2, 3, 4, 5, 6] (fun W => Kept none' W0 W) (by kernel_rfl) (by kernel_rfl) rfl (Kept.refl _ _).drew ?_
  simp only [List.map_cons, List.map_nil, List.getElem?_toArray, List.getElem?_cons_zero, List.getElem?_cons_succ, Option.getD_some]
  iterate 4 (apply wpL_float rfl rfl; (intro W hW; have hc := hW.cq; go_simp; rfl); go_frame)
  apply wpL_loud rfl rfl
  intro K hK
  go_wp2_with fail
  refine (clone_int _ cs _ (H.out.pure (hk0.drew)) h1 hlen).mono ?_
  rintro e w1 ⟨v', n', rfl, g1, g2, g3⟩
  obtain ⟨a', cap', rfl⟩ := owns_slice g1
  have k1 : Kept none' W0 w1 := g3.drew_left
  go_wp2_with fail
  refine hK _ _ (fun _ => k1) ?_
  apply wpL_float rfl rfl
  · intro W hW; have hc := hW.cq; go_simp; rfl
  go_frame
  apply wpL_loud rfl rfl
  intro K2 hK2
  have hc := k1.cq
  have hf := k1.fq
  go_wp2_with fail
  refine hK2 _ _ (fun h => absurd rfl h) (wpL_bar (by kernel_rfl) ?_)
  go_wp2_with fail
  have hs1 : W0.heap.size ≤ w1.heap.size := k1.size
  have q0 := k1.cell (p := ⟨w.heap.size + 1, 0, none⟩) (fun h => h) c2
  have q1 := k1.cell (p := ⟨w.heap.size + 1, 1, none⟩) (fun h => h) c3
  refine bodyPost_ret (v := .agg #[.int .i64 acc, .slice a' n' cap']) (by simp [results, Tryz.results101, go_sem, q0, q1]) rfl ⟨_, n', rfl, ?_, g2, ?_⟩
  · refine owns_base (base := W0.heap.size) ?_ (by omega)
    exact (((Kept.refl (fun k => k < W0.heap.size) w1).setCell (p := ⟨w.heap.size + 1, 0, none⟩) (.inl (by simp; omega)) _).setCell (p := ⟨w.heap.size + 1, 1, none⟩) (.inl (by simp; omega)) _).owns g1
      (fun k hk h => by have := (g1.lt k hk).1; simp at this; omega)
  · exact ((hk0.trans k1).setCell (p := ⟨w.heap.size + 1, 0, none⟩) (.inr (by simp)) _).setCell (p := ⟨w.heap.size + 1, 1, none⟩) (.inr (by simp)) _
end Go.Proofs.YtglbkodmmogomaaGreatDoor
