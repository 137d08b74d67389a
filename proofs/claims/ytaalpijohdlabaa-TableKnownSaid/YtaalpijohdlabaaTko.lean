/-
  Tables out of bytes: what is read (plain); Take's closure(75), which reads a number.
-/
import Derived.Test.YtaalpijohdlabaaTkw
import Derived.Test.YtaalpijohdlabaaTab3
import Derived.OneCell
import Derived.Lib.IndexBytes
import Derived.Test.YtaalpijohdlabaaTab8
import Derived.Test.YtaalpijohdlabaaApp
namespace Go.Proofs.Ytaalpijohdlabaa
open Go Go.RowKit
/-- What is read: a thing and the rest, or an error. -/
inductive Rd (α : Type) where
  | ok (a : α) (r : List UInt8)
  | err (e : Int)
def Rd.bind {α β : Type} (x : Rd α) (f : α → List UInt8 → Rd β) : Rd β := match x with | .ok a r => f a r | .err e => .err e
def num (lo hi : Int) (l : List UInt8) : Rd Int :=
  if (tk l).2.2 ≠ 0 then .err (tk l).2.2 else if (tk l).1 < lo ∨ hi < (tk l).1 then .err 21 else .ok (tk l).1 (l.drop (tk l).2.1)
def lo64 : Int := -9223372036854775808
def hi64 : Int := 9223372036854775807
def nums : Nat → List UInt8 → Rd (List Int)
  | 0, l => .ok [] l
  | k + 1, l => (num lo64 hi64 l).bind fun n r => (nums k r).bind fun ns r => .ok (n :: ns) r
def row (l : List UInt8) : Rd (Int × Cell) :=
  (num lo64 hi64 l).bind fun key r => (num lo64 hi64 r).bind fun acc r => (num 0 16 r).bind fun n r => (nums n.toNat r).bind fun ns r => .ok (key, (acc, ns)) r
/-- May the row stand behind those? -/
def mayRow (T : Tab) (key : Int) : Bool := (match T.getLast? with | some p => lessB p.1 key | none => true) && decide (tmany T (grp key) < 40)
def rowsR : Nat → Tab → List UInt8 → Rd Tab
  | 0, T, l => .ok T l
  | k + 1, T, l => (row l).bind fun p r => if mayRow T p.1 then rowsR k (T ++ [p]) r else .err 21
def takeR (l : List UInt8) : Rd Tab := (num 0 320 l).bind fun n r => (rowsR n.toNat [] r).bind fun T r => if r = [] then .ok T [] else .err 21
theorem num_err {lo hi : Int} {l : List UInt8} {f : Int} (h : num lo hi l = .err f) : f ≠ 0 := by
  unfold num at h
  split at h
  · rename_i h0; injection h with h; subst h; exact h0
  · split at h
    · injection h with h; subst h; decide
    · cases h
/-- How far the reading has come: the error's cell E and the cell S of the bytes that are left. -/
def StAt {α : Type} (w : World) (E S : Nat) : Rd α → Prop
  | .ok _ r => w.heap[E]? = some (.cells #[.int .i64 0] 26 (0, 0)) ∧ ∃ s : ByteArray, w.heap[S]? = some (.cells #[.string s] 9 (0, 0)) ∧ s.data.toList = r ∧ s.size ≤ maxLen
  | .err f => w.heap[E]? = some (.cells #[.int .i64 f] 26 (0, 0)) ∧ f ≠ 0 ∧ ∃ s : ByteArray, w.heap[S]? = some (.cells #[.string s] 9 (0, 0))
def twoB (a b : Nat) : Nat → Prop := fun k => k = a ∨ k = b
def numAt {α : Type} (lo hi : Int) (x : Rd α) : Rd Int := x.bind fun _ r => num lo hi r
def valAt (lo : Int) : Rd Int → Int
  | .ok n _ => n
  | .err _ => lo
def NumQ {α : Type} (w : World) (E S : Nat) (lo hi : Int) (x : Rd α) (e : Ending) (w' : World) : Prop :=
  e = .returned (.int .i64 (valAt lo (numAt lo hi x))) ∧ StAt w' E S (numAt lo hi x) ∧ Kept (twoB E S) w w'
theorem tkFrom_len : ∀ (l : List UInt8) (i u : Nat), (tkFrom i u l).2.1 ≤ i + l.length
  | [], _, _ => Nat.zero_le _
  | c :: r, i, u => by
    have h := tkFrom_len r (i + 1) (u + c.toNat % 128 * 128 ^ i)
    unfold tkFrom
    rw [List.length_cons]
    split
    · exact Nat.zero_le _
    · split
      · omega
      · split
        · exact Nat.zero_le _
        · show i + 1 ≤ _; omega
theorem tk_len (l : List UInt8) : (tk l).2.1 ≤ l.length := by have := tkFrom_len l 0 0; unfold tk; omega
theorem StAt.set {w : World} {E S : Nat} {a u : Value} {f : Int} {s : ByteArray} (hES : E ≠ S) (h1 : w.heap[E]? = some (.cells #[a] 26 (0, 0))) (h2 : w.heap[S]? = some (.cells #[u] 9 (0, 0))) (hu : u = .string s) :
    (w.setCell ⟨E, 0, none⟩ (.int .i64 f)).heap[E]? = some (.cells #[.int .i64 f] 26 (0, 0)) ∧ (w.setCell ⟨E, 0, none⟩ (.int .i64 f)).heap[S]? = some (.cells #[.string s] 9 (0, 0)) :=
  ⟨one_setCell h1, by rw [Below.heap_setCell _ _ _ _ (fun e => hES e.symm), h2, hu]⟩
theorem StAt.set2 {w : World} {E S : Nat} {a u : Value} {t : ByteArray} (hES : E ≠ S) (h1 : w.heap[E]? = some (.cells #[a] 26 (0, 0))) (h2 : w.heap[S]? = some (.cells #[u] 9 (0, 0))) :
    (w.setCell ⟨S, 0, none⟩ (.string t)).heap[E]? = some (.cells #[a] 26 (0, 0)) ∧ (w.setCell ⟨S, 0, none⟩ (.string t)).heap[S]? = some (.cells #[.string t] 9 (0, 0)) :=
  ⟨by rw [Below.heap_setCell _ _ _ _ hES, h1], one_setCell h2⟩
set_option maxRecDepth 100000 in
set_option maxHeartbeats 1000000 in
theorem number_any {α : Type} (lo hi : Int) (E S : Nat) (x : Rd α) (w : World) (hES : E ≠ S) (h : StAt w E S x) :
    Calls Try.prog 75 #[.int .i64 lo, .int .i64 hi, .pointer (some ⟨E, 0, none⟩), .pointer (some ⟨S, 0, none⟩)] w (NumQ w E S lo hi x) := by
  cases x with
  | err f =>
    obtain ⟨h1, h2, s, h3⟩ := h
    have c0 := cell_of_one h1
    have F : NumQ (α := α) w E S lo hi (.err f) (.returned (.int .i64 lo)) w := ⟨rfl, ⟨h1, h2, s, h3⟩, Kept.refl _ _⟩
    have FF := Lib.hid F
    have hf : (f != 0) = true := bne_iff_ne.2 h2
    clear F h1 h2 h3
    go_enter Try.func75, Try.ntmps75
    go_wp2_with fail
    go_ret
    exact FF.out
  | ok a r =>
    obtain ⟨h1, s, h2, rfl, h3⟩ := h
    have c0 := cell_of_one h1
    have c1 := cell_of_one h2
    have f0 := free_of_one h1
    have f1 := free_of_one h2
    have hE := lt_of_block h1
    have hS := lt_of_block h2
    have hb := btake_any s h3
    obtain ⟨x, hx⟩ : ∃ x, tk s.data.toList = x := ⟨_, rfl⟩
    rw [hx] at hb
    obtain ⟨n, z, f⟩ := x
    have HX := Lib.hid (And.intro hx (And.intro h1 (And.intro h2 h3)))
    have HB := Lib.hid hb
    clear hx h1 h2 h3 hb
    by_cases hf : f = 0
    · subst hf
      have hz : z ≤ s.size := by
        have := tk_len s.data.toList
        rw [HX.out.1] at this
        exact this
      have hzi : ¬ (s.size : Int) < (z : Int) := by omega
      have hE0 := fun (f : Int) => StAt.set (w := w) (f := f) hES HX.out.2.1 HX.out.2.2.1 rfl
      have hst : ∀ f : Int, ((((w.setCell ⟨E, 0, none⟩ (.int .i64 0)).setCell ⟨S, 0, none⟩ (.string (s.extract z s.size))).setCell ⟨E, 0, none⟩ (.int .i64 f)).heap[E]? = some (.cells #[.int .i64 f] 26 (0, 0)) ∧ (((w.setCell ⟨E, 0, none⟩ (.int .i64 0)).setCell ⟨S, 0, none⟩ (.string (s.extract z s.size))).setCell ⟨E, 0, none⟩ (.int .i64 f)).heap[S]? = some (.cells #[.string (s.extract z s.size)] 9 (0, 0))) := fun f =>
        have h2 := StAt.set2 (t := s.extract z s.size) hES (hE0 0).1 (hE0 0).2
        StAt.set (f := f) hES h2.1 h2.2 rfl
      have h2 := StAt.set2 (t := s.extract z s.size) hES (hE0 0).1 (hE0 0).2
      have hk2 : Kept (twoB E S) w ((w.setCell ⟨E, 0, none⟩ (.int .i64 0)).setCell ⟨S, 0, none⟩ (.string (s.extract z s.size))) := ((Kept.refl _ _).setCell (.inl (.inl rfl)) _).setCell (.inl (.inr rfl)) _
      have hsz : (s.extract z s.size).size ≤ maxLen := by have := HX.out.2.2.2; simp; omega
      have ST := Lib.hid (And.intro hst (And.intro h2 (And.intro hk2 hsz)))
      have hnum : num lo hi s.data.toList = if n < lo ∨ hi < n then .err 21 else .ok n (s.data.toList.drop z) := by
        unfold num; rw [HX.out.1]; simp
      have HN := Lib.hid hnum
      clear hE0 hst h2 hk2 hsz hnum
      have ways : n < lo ∨ (¬ n < lo ∧ hi < n) ∨ (¬ n < lo ∧ ¬ hi < n) := by omega
      rcases ways with w1 | ⟨w1, w2⟩ | ⟨w1, w2⟩
      · have hn : numAt lo hi (Rd.ok a s.data.toList) = .err 21 := by show num lo hi _ = _; rw [HN.out, if_pos (.inl w1)]
        have F : Hid (NumQ w E S lo hi (.ok a s.data.toList) (.returned (.int .i64 lo)) (((w.setCell ⟨E, 0, none⟩ (.int .i64 0)).setCell ⟨S, 0, none⟩ (.string (s.extract z s.size))).setCell ⟨E, 0, none⟩ (.int .i64 21))) := by
          unfold NumQ
          rw [hn]
          exact ⟨rfl, ⟨(ST.out.1 21).1, by decide, _, (ST.out.1 21).2⟩, ST.out.2.2.1.setCell (.inl (.inl rfl)) _⟩
        clear hn
        go_enter Try.func75, Try.ntmps75
        go_wp2_with fail
        (with_reducible refine (HB.out _).mono ?_)
        rintro e w' ⟨rfl, rfl⟩
        go_wp2_with fail
        go_ret
        exact F.out
      · have hn : numAt lo hi (Rd.ok a s.data.toList) = .err 21 := by show num lo hi _ = _; rw [HN.out, if_pos (.inr w2)]
        have F : Hid (NumQ w E S lo hi (.ok a s.data.toList) (.returned (.int .i64 lo)) (((w.setCell ⟨E, 0, none⟩ (.int .i64 0)).setCell ⟨S, 0, none⟩ (.string (s.extract z s.size))).setCell ⟨E, 0, none⟩ (.int .i64 21))) := by
          unfold NumQ
          rw [hn]
          exact ⟨rfl, ⟨(ST.out.1 21).1, by decide, _, (ST.out.1 21).2⟩, ST.out.2.2.1.setCell (.inl (.inl rfl)) _⟩
        clear hn
        go_enter Try.func75, Try.ntmps75
        go_wp2_with fail
        (with_reducible refine (HB.out _).mono ?_)
        rintro e w' ⟨rfl, rfl⟩
        go_wp2_with fail
        go_ret
        exact F.out
      · have hn : numAt lo hi (Rd.ok a s.data.toList) = .ok n (s.data.toList.drop z) := by show num lo hi _ = _; rw [HN.out, if_neg (by omega)]
        have F : Hid (NumQ w E S lo hi (.ok a s.data.toList) (.returned (.int .i64 n)) ((w.setCell ⟨E, 0, none⟩ (.int .i64 0)).setCell ⟨S, 0, none⟩ (.string (s.extract z s.size)))) := by
          unfold NumQ
          rw [hn]
          exact ⟨rfl, ⟨ST.out.2.1.1, _, ST.out.2.1.2, Lib.extract_to_end s z, ST.out.2.2.2⟩, ST.out.2.2.1⟩
        clear hn
        go_enter Try.func75, Try.ntmps75
        go_wp2_with fail
        (with_reducible refine (HB.out _).mono ?_)
        rintro e w' ⟨rfl, rfl⟩
        go_wp2_with fail
        go_ret
        exact F.out
    · have hfb : (f != 0) = true := bne_iff_ne.2 hf
      go_enter Try.func75, Try.ntmps75
      go_wp2_with fail
      (with_reducible refine (HB.out _).mono ?_)
      rintro e w1 ⟨rfl, rfl⟩
      have F : Hid (NumQ w E S lo hi (.ok a s.data.toList) (.returned (.int .i64 lo)) (w.setCell ⟨E, 0, none⟩ (.int .i64 f))) := by
        have hn : numAt lo hi (Rd.ok a s.data.toList) = .err f := by
          show num lo hi _ = _
          unfold num
          rw [HX.out.1, if_pos hf]
        unfold NumQ
        rw [hn]
        have hs := StAt.set (f := f) hES HX.out.2.1 HX.out.2.2.1 rfl
        exact ⟨rfl, ⟨hs.1, hf, s, hs.2⟩, (Kept.refl _ _).setCell (.inl (.inl rfl)) _⟩
      go_wp2_with fail
      go_ret
      exact F.out
end Go.Proofs.Ytaalpijohdlabaa
/-
  'm[k] = v' beside another assignment: mapEntry and entryStore, at a key that is new.
-/
namespace Go.Proofs.Ytaalpijohdlabaa
open Go Go.RowKit
theorem modify_last {α : Type} (a : α) (f : α → α) : ∀ l : List α, (l ++ [a]).modify l.length f = l ++ [f a]
  | [] => rfl
  | b :: l => by simp [modify_last a f l]
section
variable {P : Program} {w : World} {m : Nat} {l : List (Int × Value)} {T K E : TypeId} {q : IntKind}
theorem MapL.entry (h : MapL w m l) (hT : P.underlying T = some (.map K E)) (hK : P.underlying K = some (.int q)) {key : Int} (hn : key ∉ l.map (·.1)) {z : Value} (hz : (zeroValue E).run P w = .ok z w) :
    ∃ (w1 : World) (born : Int), (Instr.mapEntry T (.map (some m)) (.int .i64 key)).run P w = .ok (.tuple #[z, .int .i64 born]) w1 ∧ Kept (one m) w w1 ∧ w1.heap.size = w.heap.size ∧
      ∀ v : Value, ∃ w2, (Instr.entryStore T (.map (some m)) (.int .i64 born) v).run P w1 = .ok () w2 ∧ MapL w2 m (upd key v l) ∧ Kept (one m) w w2 ∧ w2.heap.size = w.heap.size := by
  obtain ⟨L, clock, h, rfl⟩ := h
  have hf : fnd key L 0 = none := by
    cases hf : fnd key L 0 with
    | none => rfl
    | some x =>
      exfalso
      have h1 := fnd_look key L 0
      rw [hf] at h1
      obtain ⟨j, y⟩ := x
      have := look_mem (l := L.map kv) (key := key) (v := y) (by rw [← h1]; rfl)
      exact hn (List.mem_map.2 ⟨_, this, rfl⟩)
  have hno := fnd_none hf
  refine ⟨World.setMap w m (((L ++ [(key, z, clock)]).map ent).toArray) (clock + 1), (clock : Int), ?_, setMap_kept _ _ _ _, by simp [World.setMap], fun v => ?_⟩
  · simp [Instr.mapEntry, run_underlying hT, run_getMap h.heap, run_checkKey hK, run_findKey hK, hf, run_setMap h.heap, ent, hz, goInt]
  · have hh := setMap_heap h.heap (((L ++ [(key, z, clock)]).map ent).toArray) (clock + 1)
    refine ⟨World.setMap w m (((L ++ [(key, v, clock)]).map ent).toArray) (clock + 1), ?_, ?_, setMap_kept _ _ _ _, by simp [World.setMap]⟩
    · have hidx : ((L ++ [(key, z, clock)]).map ent).toArray.findIdx? (fun e => (e.born : Int) == (clock : Int)) = some L.length := by
        rw [List.findIdx?_toArray, List.map_append, List.findIdx?_append]
        have h0 : (L.map ent).findIdx? (fun e => (e.born : Int) == (clock : Int)) = none := by
          rw [List.findIdx?_eq_none_iff]
          intro e he
          obtain ⟨t, ht, rfl⟩ := List.mem_map.1 he
          have := h.old t ht
          simp [ent]; omega
        rw [h0]
        simp [ent]
      have hmod : ((L ++ [(key, z, clock)]).map ent).toArray.modify L.length (fun e => { e with val := v }) = ((L ++ [(key, v, clock)]).map ent).toArray := by
        rw [List.modify_toArray, List.map_append, List.map_append]
        congr 1
        have e : (L.map ent).length = L.length := by simp
        rw [← e, List.map_cons, List.map_nil, modify_last]
        simp [ent]
      simp only [Instr.entryStore, Sem.run_bind, run_getMap hh, Result.andThen_ok, asInt, asIntOf, Sem.run_pure, hidx, hmod]
      rw [run_setMap hh]
      simp [World.setMap]
    · refine ⟨L ++ [(key, v, clock)], clock + 1, ⟨setMap_heap h.heap _ _, ?_, ?_, ?_⟩, ?_⟩
      · rw [List.map_append, List.nodup_append]
        refine ⟨h.keys, by simp, ?_⟩
        intro a ha b hb
        obtain ⟨t, ht, rfl⟩ := List.mem_map.1 ha
        simp at hb
        subst hb
        exact hno t ht
      · rw [List.map_append, List.nodup_append]
        refine ⟨h.born, by simp, ?_⟩
        intro a ha b hb
        obtain ⟨t, ht, rfl⟩ := List.mem_map.1 ha
        simp at hb
        subst hb
        exact Nat.ne_of_lt (h.old t ht)
      · intro t ht
        rcases List.mem_append.1 ht with ht | ht
        · exact Nat.lt_succ_of_lt (h.old t ht)
        · simp at ht; subst ht; exact Nat.lt_succ_self _
      · rw [List.map_append, upd_new]
        · rfl
        · intro p hp
          obtain ⟨t, ht, rfl⟩ := List.mem_map.1 hp
          exact hno t ht
end
end Go.Proofs.Ytaalpijohdlabaa
/-
  Tables out of bytes: the steps of the reading (plain).
-/
namespace Go.Proofs.Ytaalpijohdlabaa
open Go Go.RowKit
/-- The numbers of a row that have been read: their count, and j of them. -/
def numsAt (j : Nat) (x : Rd Int) : Rd (List Int) := x.bind fun _ r => nums j r
theorem nums_snoc : ∀ (k : Nat) (l : List UInt8), nums (k + 1) l = (nums k l).bind fun ns r => (num lo64 hi64 r).bind fun n r' => .ok (ns ++ [n]) r'
  | 0, l => rfl
  | k + 1, l => by
    rw [nums, nums]
    cases h1 : num lo64 hi64 l with
    | err e => rfl
    | ok n r =>
      simp only [Rd.bind]
      rw [nums_snoc k r]
      cases h2 : nums k r with
      | err e => rfl
      | ok ns r2 =>
        simp only [Rd.bind]
        cases h3 : num lo64 hi64 r2 with
        | err e => rfl
        | ok n' r3 => rfl
/-- One number more. -/
theorem numsAt_succ (j : Nat) (x : Rd Int) : numsAt (j + 1) x = (numsAt j x).bind fun ns r => (num lo64 hi64 r).bind fun n r' => .ok (ns ++ [n]) r' := by
  cases x with
  | err f => rfl
  | ok n r => exact nums_snoc j r
theorem StAt.same {α β : Type} {w : World} {E S : Nat} {x : Rd α} {y : Rd β} (h : StAt w E S x) (hok : ∀ a r, x = .ok a r → ∃ b, y = .ok b r) (herr : ∀ f, x = .err f → y = .err f) : StAt w E S y := by
  cases x with
  | ok a r =>
    obtain ⟨b, rfl⟩ := hok a r rfl
    exact h
  | err f =>
    rw [herr f rfl]
    exact h
theorem StAt.numsS {w : World} {E S j : Nat} {x : Rd Int} (h : StAt w E S (numAt lo64 hi64 (numsAt j x))) : StAt w E S (numsAt (j + 1) x) := by
  rw [numsAt_succ]
  refine h.same (fun a r e => ?_) (fun f e => ?_)
  · cases h1 : numsAt j x with
    | err f => rw [h1] at e; cases e
    | ok ns r1 =>
      rw [h1] at e
      have e : num lo64 hi64 r1 = .ok a r := e
      exact ⟨ns ++ [a], by simp only [Rd.bind]; rw [e]⟩
  · cases h1 : numsAt j x with
    | err f' =>
      rw [h1] at e
      have e : Rd.err f' = Rd.err f := e
      injection e with e
      rw [e]; rfl
    | ok ns r1 =>
      rw [h1] at e
      have e : num lo64 hi64 r1 = .err f := e
      simp only [Rd.bind]; rw [e]
theorem StAt.kept {α : Type} {w w' : World} {E S : Nat} {x : Rd α} {Q : Nat → Prop} (h : StAt w E S x) (hk : Kept Q w w') (hE : ¬ Q E) (hS : ¬ Q S) : StAt w' E S x := by
  cases x with
  | ok a r =>
    obtain ⟨h1, s, h2, h3⟩ := h
    exact ⟨hk.heap h1 hE, s, hk.heap h2 hS, h3⟩
  | err f =>
    obtain ⟨h1, h0, s, h2⟩ := h
    exact ⟨hk.heap h1 hE, h0, s, hk.heap h2 hS⟩
theorem StAt.lt {α : Type} {w : World} {E S : Nat} {x : Rd α} (h : StAt w E S x) : E < w.heap.size ∧ S < w.heap.size := by
  cases x with
  | ok a r => obtain ⟨h1, s, h2, h3⟩ := h; exact ⟨lt_of_block h1, lt_of_block h2⟩
  | err f => obtain ⟨h1, h0, s, h2⟩ := h; exact ⟨lt_of_block h1, lt_of_block h2⟩
/-- What the values are, where the row is whole. -/
theorem row_steps {l r : List UInt8} {p : Int × Cell} (h : row l = .ok p r) : ∃ (r1 r2 r3 : List UInt8) (n : Int),
    numAt lo64 hi64 (Rd.ok () l) = .ok p.1 r1 ∧ numAt lo64 hi64 (numAt lo64 hi64 (Rd.ok () l)) = .ok p.2.1 r2 ∧ numAt 0 16 (numAt lo64 hi64 (numAt lo64 hi64 (Rd.ok () l))) = .ok n r3 ∧ nums n.toNat r3 = .ok p.2.2 r := by
  unfold row at h
  cases h1 : num lo64 hi64 l with
  | err e => rw [h1] at h; cases h
  | ok key r1 =>
    rw [h1] at h
    simp only [Rd.bind] at h
    cases h2 : num lo64 hi64 r1 with
    | err e => rw [h2] at h; cases h
    | ok acc r2 =>
      rw [h2] at h
      simp only at h
      cases h3 : num 0 16 r2 with
      | err e => rw [h3] at h; cases h
      | ok n r3 =>
        rw [h3] at h
        simp only at h
        cases h4 : nums n.toNat r3 with
        | err e => rw [h4] at h; cases h
        | ok ns r4 =>
          rw [h4] at h
          injection h with h5 h6
          subst h5 h6
          have e1 : numAt lo64 hi64 (Rd.ok () l) = .ok key r1 := h1
          have e2 : numAt lo64 hi64 (Rd.ok key r1) = .ok acc r2 := h2
          have e3 : numAt 0 16 (Rd.ok acc r2) = .ok n r3 := h3
          exact ⟨r1, r2, r3, n, e1, by rw [e1, e2], by rw [e1, e2, e3], h4⟩
/-- The whole row, by its steps. -/
theorem row_eq (l : List UInt8) : row l = (numAt lo64 hi64 (Rd.ok () l)).bind fun key _ => (numAt lo64 hi64 (numAt lo64 hi64 (Rd.ok () l))).bind fun acc _ =>
    (numAt 0 16 (numAt lo64 hi64 (numAt lo64 hi64 (Rd.ok () l)))).bind fun n _ => (numsAt n.toNat (numAt 0 16 (numAt lo64 hi64 (numAt lo64 hi64 (Rd.ok () l))))).bind fun ns r => .ok (key, (acc, ns)) r := by
  unfold row
  cases h1 : num lo64 hi64 l with
  | err e => have e1 : numAt lo64 hi64 (Rd.ok () l) = .err e := h1
             rw [e1]; rfl
  | ok key r1 =>
    have e1 : numAt lo64 hi64 (Rd.ok () l) = .ok key r1 := h1
    rw [e1]
    simp only [Rd.bind]
    cases h2 : num lo64 hi64 r1 with
    | err e => have e2 : numAt lo64 hi64 (Rd.ok key r1) = .err e := h2
               rw [e2]
    | ok acc r2 =>
      have e2 : numAt lo64 hi64 (Rd.ok key r1) = .ok acc r2 := h2
      rw [e2]
      simp only
      cases h3 : num 0 16 r2 with
      | err e => have e3 : numAt 0 16 (Rd.ok acc r2) = .err e := h3
                 rw [e3]
      | ok n r3 =>
        have e3 : numAt 0 16 (Rd.ok acc r2) = .ok n r3 := h3
        rw [e3]
        rfl
theorem numAt_range {α : Type} {lo hi : Int} {x : Rd α} (h : lo ≤ hi) : lo ≤ valAt lo (numAt lo hi x) ∧ valAt lo (numAt lo hi x) ≤ hi := by
  cases x with
  | err f => exact ⟨Int.le_refl _, h⟩
  | ok a r =>
    show lo ≤ valAt lo (num lo hi r) ∧ valAt lo (num lo hi r) ≤ hi
    unfold num
    split
    · exact ⟨Int.le_refl _, h⟩
    · split
      · exact ⟨Int.le_refl _, h⟩
      · simp only [valAt]; omega
end Go.Proofs.Ytaalpijohdlabaa
/-
  Take(34): what holds within a row.
-/
namespace Go.Proofs.Ytaalpijohdlabaa
open Go Go.RowKit
def TakeQ (w : World) (l : List UInt8) (e : Ending) (w' : World) : Prop :=
  match takeR l with
  | .ok T _ => ∃ b m, e = .returned (.tuple #[.pointer (some ⟨b, 0, none⟩), .int .i64 0]) ∧ TabAt w' (up w.heap.size) b m T ∧ Kept none' w w'
  | .err f => e = .returned (.tuple #[.pointer none, .int .i64 f]) ∧ f ≠ 0 ∧ Kept none' w w'
def lastK (T : Tab) : Int := match T.getLast? with | some p => p.1 | none => 0
/-- From w on, but not E and S. -/
abbrev up2 (w : World) (E S : Nat) : Nat → Prop := fun k => w.heap.size ≤ k ∧ k ≠ E ∧ k ≠ S
/-- Within a row. -/
structure TkIn {α : Type} (w wr : World) (B : Nat → Prop) (E S b m : Nat) (T : Tab) (x : Rd α) : Prop where
  st : StAt wr E S x
  tab : TabAt wr B b m T
  kept : Kept none' w wr
theorem TkIn.num {α : Type} {w wr w' : World} {B : Nat → Prop} {E S b m : Nat} {T : Tab} {x : Rd α} {lo hi : Int} {e : Ending} (h : TkIn w wr B E S b m T x) (hB : ∀ k, B k → k ≠ E ∧ k ≠ S) (hE : w.heap.size ≤ E) (hS : w.heap.size ≤ S) (hq : NumQ wr E S lo hi x e w') : TkIn w w' B E S b m T (numAt lo hi x) :=
  ⟨hq.2.1, h.tab.kept hq.2.2 (fun k hk hb => by
      rcases hk with rfl | rfl
      · exact absurd rfl (hB _ hb).1
      · exact absurd rfl (hB _ hb).2) (fun hk => by
      rcases hk with e | e
      · exact (hB _ h.tab.hm).1 e
      · exact (hB _ h.tab.hm).2 e),
    h.kept.new hq.2.2 (fun i hi hk => by rcases hk with e | e <;> omega)⟩
theorem TkIn.pure {α : Type} {w wr w' : World} {B : Nat → Prop} {E S b m : Nat} {T : Tab} {x : Rd α} (h : TkIn w wr B E S b m T x) (hk : Kept none' wr w') : TkIn w w' B E S b m T x :=
  ⟨h.st.kept hk (fun h => h) (fun h => h), h.tab.pure hk, h.kept.trans hk⟩
/-- With the row's cell. -/
structure TkCell (w wr : World) (B : Nat → Prop) (E S C b m : Nat) (T : Tab) (v2 : Int) (x : Rd Int) (j : Nat) (lv : Value) (n : Nat) (L : List Int) : Prop where
  inn : TkIn w wr B E S b m T (numsAt j x)
  cell : wr.heap[C]? = some (.cells #[.int .i64 v2, lv] 29 (0, 0))
  own : wr.ownsRow (C + 1) 2 1 lv n (ints L)
  len : L.length = j
  val : ∀ ns r, numsAt j x = .ok ns r → L = ns
theorem two_cells {w : World} {C : Nat} {a u : Value} {E : TypeId} (h : w.heap[C]? = some (.cells #[a, u] E (0, 0))) : w.cell? ⟨C, 0, none⟩ = some a ∧ w.cell? ⟨C, 1, none⟩ = some u ∧ w.frozen? ⟨C, 1, none⟩ = false ∧ ∀ v, (w.setCell ⟨C, 1, none⟩ v).heap[C]? = some (.cells #[a, v] E (0, 0)) := by
  refine ⟨by simp [World.cell?, h], by simp [World.cell?, h], by simp [World.frozen?, h], fun v => ?_⟩
  have hlt := lt_of_block h
  have h' : w.heap[C] = .cells #[a, u] E (0, 0) := by simpa [Array.getElem?_eq_getElem hlt] using h
  show (w.heap.modify C _)[C]? = _
  rw [Array.getElem?_eq_getElem (by simpa using hlt), Array.getElem_modify_self, h']
  rfl
theorem owns_ownT {w : World} {base e size n : Nat} {v : Value} {xs : List Value} (h : w.ownsRow base e size v n xs) {b : Nat} (hb : v.ownBlock = some b) : base ≤ b ∧ b < w.heap.size := by
  rcases h.2 with ⟨rfl, _⟩ | ⟨g, cap, cur, rfl, h1, h2, _⟩
  · cases hb
  · cases hb; exact ⟨h1, (Array.getElem?_eq_some_iff.1 h2).1⟩
theorem wp_append_at {P : Program} {w w' : World} {o : Oper} {a : Act} {K : Act → World → Prop} {Q : Exit → Act → World → Prop} (s x : Operand) (t : TypeId)
    (ho : o.op = .call { callee := .builtin .append, args := #[s, x], argTypes := #[t, t] }) (v u v' : Value) (hs : a.eval s = v) (hx : a.eval x = u) (hr : (Builtin.append_ #[t, t] o.type #[v, u]).run P w = .ok v' w')
    (h : K (a.put o.dst v') w') : o.wp P a w K Q := by
  unfold Oper.wp execOp
  simp only [ho, resolve, invoke, builtin, Sem.run_bind, Sem.run_pure, Result.andThen_ok, List.map_toArray, List.map_cons, List.map_nil, hs, hx, hr]
  exact h
/-- What a row's region may turn. -/
def inRow (E S C : Nat) : Nat → Prop := fun k => k = E ∨ k = S ∨ C < k
set_option maxRecDepth 100000 in
theorem TkCell.step {w wr w3 : World} {B : Nat → Prop} {E S C b m : Nat} {T : Tab} {v2 : Int} {x : Rd Int} {j n : Nat} {lv : Value} {L : List Int} {e : Ending} (h : TkCell w wr B E S C b m T v2 x j lv n L) (hB : ∀ k, B k → k < C ∧ k ≠ E ∧ k ≠ S)
    (hE : w.heap.size ≤ E ∧ E < C) (hS : w.heap.size ≤ S ∧ S < C) (hj : j < 16) (hq : NumQ wr.drew E S lo64 hi64 (numsAt j x) e w3) :
    ∃ v7 n7 w7, (Builtin.append_ #[22, 22] 22 #[lv, .slice (some ⟨w3.heap.size, 0, none⟩) 1 1]).run Try.prog (w3.alloc (.cells #[.int .i64 (valAt lo64 (numAt lo64 hi64 (numsAt j x)))] 2)) = .ok v7 w7 ∧
      Kept (inRow E S C) wr w3 ∧ Kept (inRow E S C) wr w7 ∧ w7.cell? ⟨C, 1, none⟩ = some lv ∧ w7.frozen? ⟨C, 1, none⟩ = false ∧ (∃ a c, v7 = .slice a n7 c) ∧
      TkCell w (w7.setCell ⟨C, 1, none⟩ v7) B E S C b m T v2 x (j + 1) v7 n7 (L ++ [valAt lo64 (numAt lo64 hi64 (numsAt j x))]) := by
  have hCl := lt_of_block h.cell
  have k3 : Kept (inRow E S C) wr w3 := (hq.2.2.drew_left).mono (fun k _ hk => by rcases hk with h | h; exact .inl h; exact .inr (.inl h))
  have hnS : ¬ inRow E S C C := fun h => by rcases h with h | h | h <;> omega
  have hown3 : w3.ownsRow (C + 1) 2 1 lv n (ints L) := (hq.2.2.drew_left).owns h.own (fun k hk hs => by have := (owns_ownT h.own hk).1; rcases hs with h | h <;> omega)
  have kA : Kept none' w3 (w3.alloc (.cells #[.int .i64 (valAt lo64 (numAt lo64 hi64 (numsAt j x)))] 2)) := (Kept.refl _ _).alloc _
  obtain ⟨vv, hvv⟩ : ∃ vv, valAt lo64 (numAt lo64 hi64 (numsAt j x)) = vv := ⟨_, rfl⟩
  have hval : ∀ n r, numAt lo64 hi64 (numsAt j x) = .ok n r → vv = n := fun n r hn => by rw [← hvv, hn]; rfl
  rw [hvv] at kA ⊢
  clear hvv
  have hn : n = L.length := by have := hown3.1; simp [ints] at this; omega
  have hl := h.len
  obtain ⟨i2, hi2, hz2, hs2, hb2⟩ := info_parts Try.info2
  obtain ⟨v7, n7, w7, b1, b2, b3, b4, b5⟩ := run_append_reads (P := Try.prog) (C + 1) 22 22 2 i2 (.int .i64 0) 1 8 Try.underlying22 hi2 hz2 hs2 hb2 rfl (by omega) (kA.owns hown3 (fun _ _ h => h)) (Reads.lit w3 [.int .i64 vv] 2 1 1 rfl (by unfold maxLen; omega)) (ints_one [vv]) (by simp; omega) (by unfold maxLen; simp; omega) (by have := k3.size; simp; omega)
  have k7 : Kept (inRow E S C) wr w7 := k3.trans (kA.pure.trans (Kept.grown b4 (fun g hg _ => .inr (.inr (by have := (owns_ownT (kA.owns hown3 (fun _ _ h => h)) hg).1; omega)))))
  have k37 : Kept (fun k => C < k) w3 w7 := kA.pure.trans (Kept.grown b4 (fun g hg _ => by have := (owns_ownT (kA.owns hown3 (fun _ _ h => h)) hg).1; omega))
  have c7 := two_cells (k7.heap h.cell hnS)
  have k8 : Kept (one C) w7 (w7.setCell ⟨C, 1, none⟩ v7) := (Kept.refl (one C) w7).setCell (p := ⟨C, 1, none⟩) (.inl rfl) _
  refine ⟨v7, n7, w7, b1, k3, k7, c7.2.1, c7.2.2.1, owns_slice b2, ⟨⟨?_, ?_, ?_⟩, c7.2.2.2 v7, ?_, ?_, ?_⟩⟩
  · refine StAt.numsS ?_
    exact ((hq.2.1.kept k37 (fun h => by omega) (fun h => by omega)).kept k8 (fun h => by unfold one at h; omega) (fun h => by unfold one at h; omega))
  · have t3 := h.inn.tab.kept k7 (fun k hk hb => by
      exfalso
      have := hB k hb
      rcases hk with h | h | h
      · exact this.2.1 h
      · exact this.2.2 h
      · omega) (fun hk => by
      have := hB m h.inn.tab.hm
      rcases hk with h | h | h
      · exact this.2.1 h
      · exact this.2.2 h
      · omega)
    exact t3.kept k8 (fun k hk hb => by have := hB k hb; unfold one at hk; omega) (fun e => by have := hB m h.inn.tab.hm; unfold one at e; omega)
  · refine (h.inn.kept.new k7 (fun i hi hs => ?_)).new k8 (fun i hi hs => by unfold one at hs; omega)
    have := h.inn.kept.size
    rcases hs with h | h | h <;> omega
  · refine k8.owns ?_ (fun k hk e => by have := (owns_ownT b2 hk).1; unfold one at e; omega)
    unfold ints at b2 ⊢
    rw [List.map_append]
    exact b2
  · rw [List.length_append, hl]; rfl
  · intro ns r hnr
    rw [numsAt_succ] at hnr
    cases h1 : numsAt j x with
    | err f => rw [h1] at hnr; cases hnr
    | ok ms r1 =>
      rw [h1] at hnr
      simp only [Rd.bind] at hnr
      cases h2 : num lo64 hi64 r1 with
      | err f => rw [h2] at hnr; cases hnr
      | ok q r2 =>
        rw [h2] at hnr
        injection hnr with h3 h4
        rw [← h3, h.val ms r1 h1, hval q r2 (by rw [h1]; exact h2)]
end Go.Proofs.Ytaalpijohdlabaa
