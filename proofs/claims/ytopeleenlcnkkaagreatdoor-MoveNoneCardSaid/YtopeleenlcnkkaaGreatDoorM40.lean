/-
  IDEALS IN MEMORY: a map from nodes' places to tables, whose own maps are all unlike.
-/
import Derived.Test.YtopeleenlcnkkaaGreatDoorM39
import Derived.Test.YtopeleenlcnkkaaGreatDoorM14
import Derived.Test.YtopeleenlcnkkaaGreatDoorM17
import Derived.Test.YtopeleenlcnkkaaGreatDoorM23
import Derived.Test.YtopeleenlcnkkaaGreatDoorM15
import Derived.Test.YtopeleenlcnkkaaGreatDoorM08
set_option linter.unusedVariables false
set_option linter.unusedSimpArgs false
namespace Go.Proofs.YtopeleenlcnkkaaGreatDoor
open Go Go.RowKit
theorem look_upd (key : Int) (v : Value) (k : Int) : ∀ l : List (Int × Value), look (upd key v l) k = if k = key then some v else look l k
  | [] => by
    unfold upd look
    by_cases h : k = key
    · simp [h]
    · simp [h]
  | p :: r => by
    have ih := look_upd key v k r
    unfold look at ih ⊢
    unfold upd
    by_cases hp : key = p.1
    · rw [if_pos (by simpa using hp)]
      by_cases h : k = key
      · simp [h]
      · have : ¬ k = p.1 := fun e => h (e.trans hp.symm)
        simp [h, this]
    · rw [if_neg (by simpa using hp)]
      by_cases h : k = p.1
      · have : ¬ k = key := fun e => hp (e.symm.trans h)
        simp [h, this]
        intro e; exact absurd e.symm hp
      · rw [List.find?_cons_of_neg (by simpa using h), List.find?_cons_of_neg (by simpa using h)]
        exact ih
/-- The table of place i, as it stands in the map. -/
def ptrOf (pm : Nat → Nat × Nat) (i : Nat) : Option Tab → Option Value := fun t => t.map fun _ => .pointer (some ⟨(pm i).1, 0, none⟩)
/-- The tables of an ideal: map m; the table of place i is block (pm i).1, its map (pm i).2. -/
structure TabsAt (w : World) (m : Nat) (Ts : Tabs) (pm : Nat → Nat × Nat) : Prop where
  map : ∃ l, MapL w m l ∧ (∀ i : Nat, i < Ts.length → look l (i : Int) = ptrOf pm i (Ts.getD i none)) ∧ ∀ key : Int, (key < 0 ∨ (Ts.length : Int) ≤ key) → look l key = none
  tab : ∀ (i : Nat) (T : Tab), Ts[i]? = some (some T) → TabAt w AnyB (pm i).1 (pm i).2 T ∧ (pm i).2 ≠ m
  dist : ∀ (i k : Nat) (T U : Tab), i ≠ k → Ts[i]? = some (some T) → Ts[k]? = some (some U) → (pm i).2 ≠ (pm k).2
theorem TabsAt.lt {w : World} {m : Nat} {Ts : Tabs} {pm : Nat → Nat × Nat} (h : TabsAt w m Ts pm) : m < w.heap.size := by
  obtain ⟨l, h1, _⟩ := h.map
  exact h1.lt
theorem TabsAt.pure {w w' : World} {m : Nat} {Ts : Tabs} {pm : Nat → Nat × Nat} (h : TabsAt w m Ts pm) (hk : Kept none' w w') : TabsAt w' m Ts pm := by
  obtain ⟨⟨l, h1, h2, h3⟩, h4, h5⟩ := h
  exact ⟨⟨l, h1.kept hk (fun h => h), h2, h3⟩, fun i T hT => ⟨(h4 i T hT).1.pure hk, (h4 i T hT).2⟩, h5⟩
theorem TabsAt.made (w : World) (nodes : List JN) (pm : Nat → Nat × Nat) : TabsAt (w.alloc (.map #[] 0)) w.heap.size (noTabs nodes) pm := by
  refine ⟨⟨[], MapL.made w, fun i hi => ?_, fun _ _ => rfl⟩, fun i T hT => ?_, fun i k T U _ hT => ?_⟩
  · have : (noTabs nodes).getD i none = none := by
      unfold noTabs
      rw [List.getD_eq_getElem?_getD, List.getElem?_replicate]
      split <;> rfl
    rw [this]; rfl
  all_goals
    unfold noTabs at hT
    rw [List.getElem?_replicate] at hT
    split at hT <;> simp at hT
/-- What the map has at a node's place. -/
theorem TabsAt.lookup {w : World} {m : Nat} {Ts : Tabs} {pm : Nat → Nat × Nat} (h : TabsAt w m Ts pm) (i : Nat) (hi : i < Ts.length) :
    (Instr.lookup 99 (.map (some m)) (.int .i64 (i : Int)) true).run Tryz.prog w = .ok (.tuple #[(ptrOf pm i (Ts.getD i none)).getD (.pointer none), .bool (Ts.getD i none).isSome]) w := by
  obtain ⟨⟨l, h1, h2, _⟩, _, _⟩ := h
  have := h1.lookup (P := Tryz.prog) Tryz.underlying99 Tryz.underlying3 (i : Int) (Tryz.zeroValue61 w)
  rw [h2 i hi] at this
  rw [this]
  unfold ptrOf
  cases Ts.getD i none <;> rfl
theorem TabsAt.lookup1 {w : World} {m : Nat} {Ts : Tabs} {pm : Nat → Nat × Nat} (h : TabsAt w m Ts pm) (i : Nat) (hi : i < Ts.length) :
    (Instr.lookup 99 (.map (some m)) (.int .i64 (i : Int)) false).run Tryz.prog w = .ok ((ptrOf pm i (Ts.getD i none)).getD (.pointer none)) w := by
  obtain ⟨⟨l, h1, h2, _⟩, _, _⟩ := h
  have := h1.lookup1 (P := Tryz.prog) Tryz.underlying99 Tryz.underlying3 (i : Int) (Tryz.zeroValue61 w)
  rwa [h2 i hi] at this
theorem TabsAt.lookup_no {w : World} {m : Nat} {Ts : Tabs} {pm : Nat → Nat × Nat} (h : TabsAt w m Ts pm) (key : Int) (hi : key < 0 ∨ (Ts.length : Int) ≤ key) :
    (Instr.lookup 99 (.map (some m)) (.int .i64 key) true).run Tryz.prog w = .ok (.tuple #[.pointer none, .bool false]) w := by
  obtain ⟨⟨l, h1, _, h3⟩, _, _⟩ := h
  have := h1.lookup (P := Tryz.prog) Tryz.underlying99 Tryz.underlying3 key (Tryz.zeroValue61 w)
  rwa [h3 key hi] at this
/-- A table of its own laid where none was. -/
theorem TabsAt.lay {w w' : World} {m : Nat} {Ts : Tabs} {pm : Nat → Nat × Nat} (h : TabsAt w m Ts pm) {i : Nat} (hi : i < Ts.length) (hno : Ts.getD i none = none) {b tm : Nat} {T : Tab} (ht : TabAt w AnyB b tm T) (hm : tm ≠ m)
    (hd : ∀ (k : Nat) (U : Tab), Ts[k]? = some (some U) → (pm k).2 ≠ tm) {l' : List (Int × Value)} (hl : ∀ l, MapL w m l → l' = upd (i : Int) (.pointer (some ⟨b, 0, none⟩)) l → MapL w' m l') (hk : Kept (one m) w w')
    (he : ∃ l, MapL w m l ∧ (∀ i : Nat, i < Ts.length → look l (i : Int) = ptrOf pm i (Ts.getD i none)) ∧ (∀ key : Int, (key < 0 ∨ (Ts.length : Int) ≤ key) → look l key = none) ∧ l' = upd (i : Int) (.pointer (some ⟨b, 0, none⟩)) l) :
    TabsAt w' m (Ts.set i (some T)) (fun k => if k = i then (b, tm) else pm k) := by
  obtain ⟨l, h1, h2, h3, rfl⟩ := he
  have hmn : NoCells w (one m) AnyB := NoCells.map h1 _
  have hset : ∀ (k : Nat) (U : Tab), k ≠ i → (Ts.set i (some T))[k]? = some (some U) → Ts[k]? = some (some U) := fun k U hki h => by
    rwa [List.getElem?_set_ne (fun e => hki e.symm)] at h
  obtain ⟨_, h4, h5⟩ := h
  refine ⟨⟨_, hl l h1 rfl, fun k hkl => ?_, fun key hkey => ?_⟩, fun k U hU => ?_, fun k n U V hkn hU hV => ?_⟩
  · have hkl' : k < Ts.length := by simpa using hkl
    rw [look_upd]
    by_cases hki : k = i
    · subst hki
      rw [if_pos rfl, List.getD_eq_getElem?_getD, List.getElem?_set_self hi]
      simp [ptrOf]
    · rw [if_neg (by omega), h2 k hkl', List.getD_eq_getElem?_getD, List.getD_eq_getElem?_getD, List.getElem?_set_ne (fun e => hki e.symm)]
      simp [ptrOf, hki]
  · have hkey' : key < 0 ∨ (Ts.length : Int) ≤ key := by simpa using hkey
    rw [look_upd, if_neg (by omega)]
    exact h3 key hkey'
  · by_cases hki : k = i
    · subst hki
      rw [List.getElem?_set_self hi] at hU
      injection hU with hU
      injection hU with hU
      subst hU
      simp only [if_true]
      exact ⟨ht.kept hk hmn (fun e => hm e), hm⟩
    · simp only [if_neg hki]
      have hU' := hset k U hki hU
      exact ⟨(h4 k U hU').1.kept hk hmn (fun e => (h4 k U hU').2 e), (h4 k U hU').2⟩
  · by_cases hki : k = i
    · have hni : ¬ n = i := fun e => hkn (hki.trans e.symm)
      simp only [if_pos hki, if_neg hni]
      exact fun e => hd n V (hset n V hni hV) e.symm
    · simp only [if_neg hki]
      have hU' := hset k U hki hU
      by_cases hni : n = i
      · simp only [if_pos hni]
        exact hd k U hU'
      · simp only [if_neg hni]
        exact h5 k n U V hkn hU' (hset n V hni hV)
/-- The same, at the map's own step. -/
theorem TabsAt.update {w : World} {m : Nat} {Ts : Tabs} {pm : Nat → Nat × Nat} (h : TabsAt w m Ts pm) {i : Nat} (hi : i < Ts.length) (hno : Ts.getD i none = none) {b tm : Nat} {T : Tab} (ht : TabAt w AnyB b tm T) (hm : tm ≠ m)
    (hd : ∀ (k : Nat) (U : Tab), Ts[k]? = some (some U) → (pm k).2 ≠ tm) :
    ∃ w', (Instr.mapUpdate 99 (.map (some m)) (.int .i64 (i : Int)) (.pointer (some ⟨b, 0, none⟩))).run Tryz.prog w = .ok () w' ∧ TabsAt w' m (Ts.set i (some T)) (fun k => if k = i then (b, tm) else pm k) ∧ Kept (one m) w w' ∧ w'.heap.size = w.heap.size := by
  obtain ⟨l, h1, h2, h3⟩ := h.map
  obtain ⟨w', u1, u2, u3, u4⟩ := h1.update (P := Tryz.prog) Tryz.underlying99 Tryz.underlying3 (i : Int) (.pointer (some ⟨b, 0, none⟩))
  exact ⟨w', u1, h.lay hi hno ht hm hd (l' := upd (i : Int) (.pointer (some ⟨b, 0, none⟩)) l) (fun l0 _ e => e ▸ (by rw [← e]; exact u2)) u3 ⟨l, h1, h2, h3, rfl⟩, u3, u4⟩
/-- A table that was made since is unlike the others. -/
theorem TabsAt.fresh {w : World} {m : Nat} {Ts : Tabs} {pm : Nat → Nat × Nat} (h : TabsAt w m Ts pm) {tm : Nat} (htm : w.heap.size ≤ tm) : tm ≠ m ∧ ∀ (k : Nat) (U : Tab), Ts[k]? = some (some U) → (pm k).2 ≠ tm := by
  refine ⟨fun e => ?_, fun k U hU e => ?_⟩
  · have := h.lt; omega
  · have := (h.tab k U hU).1.lt.1; omega
/-- An ideal: its struct in block b. -/
structure IdlAt (w : World) (b m : Nat) (j : Jb) (Ts : Tabs) (pm : Nat → Nat × Nat) : Prop where
  obj : ∃ v, w.heap[b]? = some (.cells #[.int .i64 j.par, v, .map (some m)] 101 (0, 0)) ∧ NodesAt w v j.nodes
  par : R64 j.par
  tabs : TabsAt w m Ts pm
theorem IdlAt.pure {w w' : World} {b m : Nat} {j : Jb} {Ts : Tabs} {pm : Nat → Nat × Nat} (h : IdlAt w b m j Ts pm) (hk : Kept none' w w') : IdlAt w' b m j Ts pm := by
  obtain ⟨⟨v, h1, h2⟩, h3, h4⟩ := h
  exact ⟨⟨v, hk.heap h1 (fun h => h), h2.pure hk⟩, h3, h4.pure hk⟩
end Go.Proofs.YtopeleenlcnkkaaGreatDoor
/-
  Tables of an ideal, and where their memory lies.
-/
namespace Go.Proofs.YtopeleenlcnkkaaGreatDoor
open Go Go.RowKit
/-- Tables all of whose memory lies in M. -/
structure TabsX (w : World) (M : Nat → Prop) (m : Nat) (Ts : Tabs) (pm : Nat → Nat × Nat) : Prop where
  at_ : TabsAt w m Ts pm
  out : ∀ (i : Nat) (T : Tab), Ts[i]? = some (some T) → TabAt w M (pm i).1 (pm i).2 T
theorem TabsX.of {w : World} {M : Nat → Prop} {mb m : Nat} {Ts : Tabs} {pm : Nat → Nat × Nat} (h : TabsX w M m Ts pm) (hmb : w.heap.size ≤ mb) : TabsX w (fun k => (M k ∨ w.heap.size ≤ k) ∧ k ≠ mb) m Ts pm :=
  ⟨h.at_, fun i T hT => (h.out i T hT).mono (fun k hM hk => ⟨.inl hM, by omega⟩)⟩
theorem TabsX.any {w : World} {m : Nat} {Ts : Tabs} {pm : Nat → Nat × Nat} (h : TabsAt w m Ts pm) : TabsX w AnyB m Ts pm := ⟨h, fun i T hT => (h.tab i T hT).1⟩
theorem TabsX.mono {w : World} {M M' : Nat → Prop} {m : Nat} {Ts : Tabs} {pm : Nat → Nat × Nat} (h : TabsX w M m Ts pm) (hM : ∀ k, M k → k < w.heap.size → M' k) : TabsX w M' m Ts pm :=
  ⟨h.at_, fun i T hT => (h.out i T hT).mono hM⟩
theorem TabsX.pure {w w' : World} {M : Nat → Prop} {m : Nat} {Ts : Tabs} {pm : Nat → Nat × Nat} (h : TabsX w M m Ts pm) (hk : Kept none' w w') : TabsX w' M m Ts pm :=
  ⟨h.at_.pure hk, fun i T hT => (h.out i T hT).pure hk⟩
theorem TabsX.keptC {S : Nat → Prop} {w w' : World} {M : Nat → Prop} {m : Nat} {Ts : Tabs} {pm : Nat → Nat × Nat} (h : TabsX w M m Ts pm) (hM : ∀ k, S k → ¬ M k) (hm : ¬ S m) (hk : Kept S w w') : TabsX w' M m Ts pm := by
  have hnc : NoCells w S M := fun k h1 h2 => absurd h2 (hM k h1)
  have ho : ∀ (i : Nat) (T : Tab), Ts[i]? = some (some T) → TabAt w' M (pm i).1 (pm i).2 T := fun i T hT => (h.out i T hT).kept hk hnc (fun e => hM _ e (h.out i T hT).hm)
  refine ⟨⟨?_, fun i T hT => ⟨(ho i T hT).any, (h.at_.tab i T hT).2⟩, h.at_.dist⟩, ho⟩
  obtain ⟨l, h1, h2, h3⟩ := h.at_.map
  exact ⟨l, h1.kept hk hm, h2, h3⟩
theorem TabsX.store {w w' : World} {M : Nat → Prop} {mb m : Nat} {Ts : Tabs} {pm : Nat → Nat × Nat} (h : TabsX w M m Ts pm) (hM : ¬ M mb) (hm : m ≠ mb) (hk : Kept (one mb) w w') : TabsX w' M m Ts pm :=
  h.keptC (S := one mb) (fun q (e : q = mb) => by rw [e]; exact hM) hm hk
/-- A table of its own laid where none was, at the map's own step. -/
theorem TabsX.update {w : World} {M : Nat → Prop} {m : Nat} {Ts : Tabs} {pm : Nat → Nat × Nat} (h : TabsX w M m Ts pm) {i : Nat} (hi : i < Ts.length) (hno : Ts.getD i none = none) {b tm : Nat} {T : Tab} (ht : TabAt w M b tm T) (hm : tm ≠ m)
    (hd : ∀ (k : Nat) (U : Tab), Ts[k]? = some (some U) → (pm k).2 ≠ tm) :
    ∃ w', (Instr.mapUpdate 99 (.map (some m)) (.int .i64 (i : Int)) (.pointer (some ⟨b, 0, none⟩))).run Tryz.prog w = .ok () w' ∧ TabsX w' M m (Ts.set i (some T)) (fun k => if k = i then (b, tm) else pm k) ∧ Kept (one m) w w' ∧ w'.heap.size = w.heap.size := by
  obtain ⟨w', u1, u2, u3, u4⟩ := h.at_.update hi hno ht.any hm hd
  obtain ⟨l, h1, _⟩ := h.at_.map
  refine ⟨w', u1, ⟨u2, fun k U hU => ?_⟩, u3, u4⟩
  by_cases hki : k = i
  · subst hki
    rw [List.getElem?_set_self hi] at hU
    cases hU
    simp only [if_true]
    exact ht.kept u3 (NoCells.map h1 _) (fun e => hm e)
  · simp only [if_neg hki]
    rw [List.getElem?_set_ne (fun e => hki e.symm)] at hU
    exact (h.out k U hU).kept u3 (NoCells.map h1 _) (fun e => (h.at_.tab k U hU).2 e)
theorem TabsX.made (w : World) (M : Nat → Prop) (nodes : List JN) (pm : Nat → Nat × Nat) : TabsX (w.alloc (.map #[] 0)) M w.heap.size (noTabs nodes) pm :=
  ⟨TabsAt.made w nodes pm, fun i T hT => by
    unfold noTabs at hT
    rw [List.getElem?_replicate] at hT
    split at hT <;> simp at hT⟩
end Go.Proofs.YtopeleenlcnkkaaGreatDoor
/-
  ideal.Fits: may a table be a node's?
-/
namespace Go.Proofs.YtopeleenlcnkkaaGreatDoor
open Go Go.RowKit
attribute [local irreducible] wpL
theorem fitsCell_iff (kind n : Int) (c : Cell) : fitsCell kind n c = false ↔ (kind = 6 ∧ 0 < c.2.length) ∨ (kind = 7 ∧ (c.1 ≠ 0 ∨ c.2.length < 1 ∨ n ≤ (c.2.length : Int))) := by
  unfold fitsCell
  rw [Bool.and_eq_false_iff, Bool.not_eq_false', Bool.not_eq_false', Bool.and_eq_true, Bool.and_eq_true, Bool.or_eq_true, Bool.or_eq_true]
  simp only [decide_eq_true_eq, or_assoc]
theorem fitsP_no {kind n : Int} {T : Tab} {p : Int × Cell} (hp : p ∈ T) (h : fitsCell kind n p.2 = false) : fitsP kind n T = false := by
  unfold fitsP
  rw [Bool.and_eq_false_iff]
  right
  rw [List.all_eq_false]
  exact ⟨p, hp, by rw [h]; simp⟩
theorem fitsP_yes {kind n : Int} {T : Tab} (hs : stateful kind = true) (h : ∀ (m : Nat) (p : Int × Cell), m < T.length → T[m]? = some p → fitsCell kind n p.2 = true) : fitsP kind n T = true := by
  unfold fitsP
  rw [hs, Bool.true_and, List.all_eq_true]
  intro p hp
  obtain ⟨m, hm⟩ := List.getElem?_of_mem hp
  exact h m p (List.getElem?_eq_some_iff.1 hm).1 hm
theorem yes_next {kind n : Int} {T : Tab} {k : Nat} {q : Int × Cell} (hy : ∀ (m : Nat) (p : Int × Cell), m < k → T[m]? = some p → fitsCell kind n p.2 = true) (hq : T[k]? = some q) (h : fitsCell kind n q.2 = true) :
    ∀ (m : Nat) (p : Int × Cell), m < k + 1 → T[m]? = some p → fitsCell kind n p.2 = true := by
  intro m p hm hp
  by_cases hmk : m < k
  · exact hy m p hmk hp
  · have e1 : m = k := by omega
    subst e1
    rw [hq] at hp
    injection hp with hp
    rw [← hp]; exact h
theorem stateful_67 {k : Int} (h : stateful k = true) : k = 6 ∨ k = 7 := by
  unfold stateful at h
  simpa using h
theorem tget_at {T : Tab} (hT : Rises T) {m : Nat} {p : Int × Cell} (h : T[m]? = some p) : tget T p.1 = some p.2 := (tget_some hT).2 (List.mem_of_getElem? h)
set_option maxRecDepth 100000 in
set_option maxHeartbeats 2000000 in
theorem fits_any (d : JN) (a : Array Value) (B : Nat → Prop) (b m : Nat) (T : Tab) (w : World) (h : JNAt w a d) (hT : TabAt w B b m T) :
    Calls Tryz.prog 53 #[.agg a, .pointer (some ⟨b, 0, none⟩)] w (Gives w (.bool (fitsP d.kind d.n T))) := by
  obtain ⟨pi, ci, p, cap, rfl, _, _, _, hk0, hk1, hn, _⟩ := h
  obtain ⟨hn1, hn2⟩ := hn
  have kA : Kept none' w (w.alloc (.cells (jnC d pi ci p cap) 97)) := (Kept.refl _ _).alloc _
  have tA := hT.pure kA
  have hbB : (w.alloc (.cells (jnC d pi ci p cap) 97)).heap[w.heap.size]? = some (.cells (jnC d pi ci p cap) 97 (0, 0)) := heap_alloc_new _ _
  have c1 : (w.alloc (.cells (jnC d pi ci p cap) 97)).cell? ⟨w.heap.size, 1, none⟩ = some (.int .u8 d.kind) := cells_at hbB rfl
  obtain ⟨W1, hW1⟩ : ∃ W1, w.alloc (.cells (jnC d pi ci p cap) 97) = W1 := ⟨_, rfl⟩
  have cs := stateful_any d.kind W1
  have ck := keys_any B b m T W1 (hW1 ▸ tA)
  rw [hW1] at kA tA hbB c1
  have H := Lib.hid (And.intro kA (And.intro tA hbB))
  have HW := Lib.hid hW1
  clear hW1 kA hbB hT tA
  go_enter Tryz.func53, Tryz.ntmps53
  cases hs : stateful d.kind with
  | false =>
    rw [hs] at cs
    have F := Lib.hid (show fitsP d.kind d.n T = false by unfold fitsP; rw [hs]; rfl)
    clear hs
    go_wp2_with fail
    rw [HW.out]
    refine cs.mono ?_
    rintro e w' ⟨rfl, rfl⟩
    go_wp2_with fail
    go_ret
    exact ⟨ret_bool F.out.symm, H.out.1⟩
  | true =>
    rw [hs] at cs
    have HS := Lib.hid hs
    clear hs
    go_wp2_with fail
    rw [HW.out]
    refine cs.mono ?_
    rintro e w' ⟨rfl, rfl⟩
    go_wp2_with fail
    refine ck.mono ?_
    rintro e W2 ⟨v, rfl, hown, -, k2⟩
    obtain ⟨va, vc, rfl⟩ := owns_slice hown
    have hlen63 : T.length ≤ 9223372036854775807 := by
      obtain ⟨_, _, e1, e2, e3, _⟩ := (Reads.of_owns hown).at
      unfold maxLen at e3
      unfold tkeys at e2
      rw [List.length_map] at e2
      omega
    have hkl : (tkeys T).length = T.length := by unfold tkeys; rw [List.length_map]
    rw [hkl] at hown
    have K2 := Lib.hid (And.intro (H.out.1.trans k2) (And.intro (H.out.2.1.pure k2) (And.intro (k2.heap H.out.2.2 (fun h => h)) hown)))
    rw [hkl]
    clear hown k2 H c1
    go_wp2_with fail
    go_loopg [21] T.length (fun g vi wr => ∃ k : Nat, k ≤ T.length ∧ vi = .int .i64 (k : Int) ∧ T.length - k ≤ g ∧ Kept none' W2 wr ∧ ∀ (m : Nat) (p : Int × Cell), m < k → T[m]? = some p → fitsCell d.kind d.n p.2 = true)
    case atStart => exact ⟨0, by omega, rfl, by omega, Kept.refl _ _, fun m e hm => by omega⟩
    case round =>
      obtain ⟨k, hk, rfl, hg, hkp, hyes⟩ := hrel
      by_cases hlt : k < T.length
      · obtain ⟨q, hq⟩ : ∃ q, T[k]? = some q := ⟨_, List.getElem?_eq_getElem hlt⟩
        obtain ⟨pa, pc, pe, _, _, hcell⟩ := ((Reads.of_owns K2.out.2.2.2).pure hkp).at
        injection pe with pe1 pe2 pe3
        subst pe1 pe3
        clear pe2
        obtain ⟨bi, offi, rfl, hcell2⟩ := hcell.resolve_left (fun h => by rw [h] at hkl; simp at hkl; omega)
        have y0 := hcell2 k q.1 (by unfold tkeys; rw [List.getElem?_map, hq]; rfl)
        clear hcell hcell2
        have cg := get_any B b m T q.1 wr (K2.out.2.1.pure hkp)
        have hget := tget_at K2.out.2.1.ok.rises hq
        unfold GetQ at cg
        rw [hget] at cg
        simp only [Option.getD_some, Option.isSome_some] at cg
        obtain ⟨key, acc, L⟩ := q
        have hcok := K2.out.2.1.ok.cell _ (List.mem_of_getElem? hq)
        have hl16 : L.length ≤ 16 := hcok.2.2
        obtain ⟨ha1, ha2⟩ : R64 acc := hcok.1
        have hk67 := stateful_67 HS.out
        have hB1 := hkp.heap K2.out.2.2.1 (fun h => h)
        have HQ := Lib.hid hq
        have HYES := Lib.hid hyes
        have G := Lib.hid (And.intro hg (And.intro hkp (And.intro hget hB1)))
        clear hq hyes hg hkp hget hcok hB1 hk0 hk1
        simp only at cg y0
        clear hkl cs ck
        obtain ⟨uid, kind, ins, x, n⟩ := d
        rcases (show kind = 6 ∨ kind = 7 from hk67) with k6 | k6
        · subst k6
          clear hk67
          by_cases b1 : 0 < L.length
          · skip
            have F := Lib.hid (fitsP_no (List.mem_of_getElem? HQ.out) (show fitsCell 6 n (acc, L) = false from (fitsCell_iff _ _ _).2 (.inl ⟨rfl, b1⟩)))
            go_wp2_with (go_at_call 74; refine cg.mono ?_; rintro e w3 ⟨lv, n', rfl, hl1, rfl, k3⟩; obtain ⟨la, lc, rfl⟩ := owns_slice hl1; have z1 : w3.cell? ⟨w.heap.size, 1, none⟩ = some (.int .u8 6) := cells_at (k3.heap G.out.2.2.2 (fun h => h)) rfl; have z4 : w3.cell? ⟨w.heap.size, 6, none⟩ = some (.int .i64 n) := cells_at (k3.heap G.out.2.2.2 (fun h => h)) rfl; have zlt : w.heap.size < w3.heap.size := block_lt_of_cell z1; have z1a := ((Kept.refl none' w3).alloc (.cells #[.int .i64 acc, .slice la L.length lc] 124)).cell (fun h => h) z1; have z4a := ((Kept.refl none' w3).alloc (.cells #[.int .i64 acc, .slice la L.length lc] 124)).cell (fun h => h) z4; clear hl1)
            go_ret
            exact ⟨ret_bool F.out.symm, K2.out.1.trans (G.out.2.1.trans (k3.trans ((Kept.refl _ _).alloc _)))⟩
          · skip
            have F := Lib.hid (yes_next HYES.out HQ.out (show fitsCell 6 n (acc, L) = true by
              cases h : fitsCell 6 n (acc, L) with
              | true => rfl
              | false =>
                have h2 := (fitsCell_iff _ _ _).1 h
                simp only at h2
                omega))
            go_wp2_with (go_at_call 74; refine cg.mono ?_; rintro e w3 ⟨lv, n', rfl, hl1, rfl, k3⟩; obtain ⟨la, lc, rfl⟩ := owns_slice hl1; have z1 : w3.cell? ⟨w.heap.size, 1, none⟩ = some (.int .u8 6) := cells_at (k3.heap G.out.2.2.2 (fun h => h)) rfl; have z4 : w3.cell? ⟨w.heap.size, 6, none⟩ = some (.int .i64 n) := cells_at (k3.heap G.out.2.2.2 (fun h => h)) rfl; have zlt : w.heap.size < w3.heap.size := block_lt_of_cell z1; have z1a := ((Kept.refl none' w3).alloc (.cells #[.int .i64 acc, .slice la L.length lc] 124)).cell (fun h => h) z1; have z4a := ((Kept.refl none' w3).alloc (.cells #[.int .i64 acc, .slice la L.length lc] 124)).cell (fun h => h) z4; clear hl1)
            go_roundg (T.length - (k + 1))
            case rel => exact ⟨k + 1, by omega, by go_num, Nat.le_refl _, G.out.2.1.trans (k3.trans ((Kept.refl _ _).alloc _)), F.out⟩
            case measure => have := G.out.1; omega
        · subst k6
          clear hk67
          by_cases b1 : acc = 0
          · by_cases b2 : L.length < 1
            · skip
              have F := Lib.hid (fitsP_no (List.mem_of_getElem? HQ.out) (show fitsCell 7 n (acc, L) = false from (fitsCell_iff _ _ _).2 (.inr ⟨rfl, .inr (.inl b2)⟩)))
              go_wp2_with (go_at_call 74; refine cg.mono ?_; rintro e w3 ⟨lv, n', rfl, hl1, rfl, k3⟩; obtain ⟨la, lc, rfl⟩ := owns_slice hl1; have z1 : w3.cell? ⟨w.heap.size, 1, none⟩ = some (.int .u8 7) := cells_at (k3.heap G.out.2.2.2 (fun h => h)) rfl; have z4 : w3.cell? ⟨w.heap.size, 6, none⟩ = some (.int .i64 n) := cells_at (k3.heap G.out.2.2.2 (fun h => h)) rfl; have zlt : w.heap.size < w3.heap.size := block_lt_of_cell z1; have z1a := ((Kept.refl none' w3).alloc (.cells #[.int .i64 acc, .slice la L.length lc] 124)).cell (fun h => h) z1; have z4a := ((Kept.refl none' w3).alloc (.cells #[.int .i64 acc, .slice la L.length lc] 124)).cell (fun h => h) z4; clear hl1)
              go_ret
              exact ⟨ret_bool F.out.symm, K2.out.1.trans (G.out.2.1.trans (k3.trans ((Kept.refl _ _).alloc _)))⟩
            · by_cases b3 : n ≤ (L.length : Int)
              · skip
                have F := Lib.hid (fitsP_no (List.mem_of_getElem? HQ.out) (show fitsCell 7 n (acc, L) = false from (fitsCell_iff _ _ _).2 (.inr ⟨rfl, .inr (.inr b3)⟩)))
                go_wp2_with (go_at_call 74; refine cg.mono ?_; rintro e w3 ⟨lv, n', rfl, hl1, rfl, k3⟩; obtain ⟨la, lc, rfl⟩ := owns_slice hl1; have z1 : w3.cell? ⟨w.heap.size, 1, none⟩ = some (.int .u8 7) := cells_at (k3.heap G.out.2.2.2 (fun h => h)) rfl; have z4 : w3.cell? ⟨w.heap.size, 6, none⟩ = some (.int .i64 n) := cells_at (k3.heap G.out.2.2.2 (fun h => h)) rfl; have zlt : w.heap.size < w3.heap.size := block_lt_of_cell z1; have z1a := ((Kept.refl none' w3).alloc (.cells #[.int .i64 acc, .slice la L.length lc] 124)).cell (fun h => h) z1; have z4a := ((Kept.refl none' w3).alloc (.cells #[.int .i64 acc, .slice la L.length lc] 124)).cell (fun h => h) z4; clear hl1)
                go_ret
                exact ⟨ret_bool F.out.symm, K2.out.1.trans (G.out.2.1.trans (k3.trans ((Kept.refl _ _).alloc _)))⟩
              · skip
                have F := Lib.hid (yes_next HYES.out HQ.out (show fitsCell 7 n (acc, L) = true by
                  cases h : fitsCell 7 n (acc, L) with
                  | true => rfl
                  | false =>
                    have h2 := (fitsCell_iff _ _ _).1 h
                    simp only at h2
                    omega))
                go_wp2_with (go_at_call 74; refine cg.mono ?_; rintro e w3 ⟨lv, n', rfl, hl1, rfl, k3⟩; obtain ⟨la, lc, rfl⟩ := owns_slice hl1; have z1 : w3.cell? ⟨w.heap.size, 1, none⟩ = some (.int .u8 7) := cells_at (k3.heap G.out.2.2.2 (fun h => h)) rfl; have z4 : w3.cell? ⟨w.heap.size, 6, none⟩ = some (.int .i64 n) := cells_at (k3.heap G.out.2.2.2 (fun h => h)) rfl; have zlt : w.heap.size < w3.heap.size := block_lt_of_cell z1; have z1a := ((Kept.refl none' w3).alloc (.cells #[.int .i64 acc, .slice la L.length lc] 124)).cell (fun h => h) z1; have z4a := ((Kept.refl none' w3).alloc (.cells #[.int .i64 acc, .slice la L.length lc] 124)).cell (fun h => h) z4; clear hl1)
                go_roundg (T.length - (k + 1))
                case rel => exact ⟨k + 1, by omega, by go_num, Nat.le_refl _, G.out.2.1.trans (k3.trans ((Kept.refl _ _).alloc _)), F.out⟩
                case measure => have := G.out.1; omega
          · skip
            have F := Lib.hid (fitsP_no (List.mem_of_getElem? HQ.out) (show fitsCell 7 n (acc, L) = false from (fitsCell_iff _ _ _).2 (.inr ⟨rfl, .inl b1⟩)))
            go_wp2_with (go_at_call 74; refine cg.mono ?_; rintro e w3 ⟨lv, n', rfl, hl1, rfl, k3⟩; obtain ⟨la, lc, rfl⟩ := owns_slice hl1; have z1 : w3.cell? ⟨w.heap.size, 1, none⟩ = some (.int .u8 7) := cells_at (k3.heap G.out.2.2.2 (fun h => h)) rfl; have z4 : w3.cell? ⟨w.heap.size, 6, none⟩ = some (.int .i64 n) := cells_at (k3.heap G.out.2.2.2 (fun h => h)) rfl; have zlt : w.heap.size < w3.heap.size := block_lt_of_cell z1; have z1a := ((Kept.refl none' w3).alloc (.cells #[.int .i64 acc, .slice la L.length lc] 124)).cell (fun h => h) z1; have z4a := ((Kept.refl none' w3).alloc (.cells #[.int .i64 acc, .slice la L.length lc] 124)).cell (fun h => h) z4; clear hl1)
            go_ret
            exact ⟨ret_bool F.out.symm, K2.out.1.trans (G.out.2.1.trans (k3.trans ((Kept.refl _ _).alloc _)))⟩
      · have e1 : k = T.length := by omega
        subst e1
        have F := Lib.hid (And.intro (fitsP_yes HS.out hyes) hkp)
        clear hyes hkp
        go_wp2_with fail
        go_ret
        exact ⟨ret_bool F.out.1.symm, K2.out.1.trans F.out.2⟩
end Go.Proofs.YtopeleenlcnkkaaGreatDoor
