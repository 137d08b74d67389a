/-
  IDEALS IN MEMORY: a map from nodes' places to tables, whose own maps are all unlike.
-/
import Derived.Test.YtglbkodmmogomaaGreatDoorF27
import Derived.Test.YtglbkodmmogomaaGreatDoorF18
import Derived.Test.YtglbkodmmogomaaGreatDoorF21
import Derived.Test.YtglbkodmmogomaaGreatDoorF32
set_option linter.unusedVariables false
set_option linter.unusedSimpArgs false
namespace Go.Proofs.YtglbkodmmogomaaGreatDoor
open Go Go.RowKit
theorem look_upd (key : Int) (v : Value) (k : Int) : ∀ l : List (Int × Value), look (upd key v l) k = if k = key then some v else look l k
  | [] => by
    unfold upd look
    by_cases h : k = key
    · simp [h]
    · simp [h]
  | p :: r => by
    have ih := look_upd key v k r
    unfold look at ih ⊢
    unfold upd
    by_cases hp : key = p.1
    · rw [if_pos (by simpa using hp)]
      by_cases h : k = key
      · simp [h]
      · have : ¬ k = p.1 := fun e => h (e.trans hp.symm)
        simp [h, this]
    · rw [if_neg (by simpa using hp)]
      by_cases h : k = p.1
      · have : ¬ k = key := fun e => hp (e.symm.trans h)
        simp [h, this]
        intro e; exact absurd e.symm hp
      · rw [List.find?_cons_of_neg (by simpa using h), List.find?_cons_of_neg (by simpa using h)]
        exact ih
/-- The table of place i, as it stands in the map. -/
def ptrOf (pm : Nat → Nat × Nat) (i : Nat) : Option Tab → Option Value := fun t => t.map fun _ => .pointer (some ⟨(pm i).1, 0, none⟩)
/-- The tables of an ideal: map m; the table of place i is block (pm i).1, its map (pm i).2. -/
structure TabsAt (w : World) (m : Nat) (Ts : Tabs) (pm : Nat → Nat × Nat) : Prop where
  map : ∃ l, MapL w m l ∧ (∀ i : Nat, i < Ts.length → look l (i : Int) = ptrOf pm i (Ts.getD i none)) ∧ ∀ key : Int, (key < 0 ∨ (Ts.length : Int) ≤ key) → look l key = none
  tab : ∀ (i : Nat) (T : Tab), Ts[i]? = some (some T) → TabAt w AnyB (pm i).1 (pm i).2 T ∧ (pm i).2 ≠ m
  dist : ∀ (i k : Nat) (T U : Tab), i ≠ k → Ts[i]? = some (some T) → Ts[k]? = some (some U) → (pm i).2 ≠ (pm k).2
theorem TabsAt.lt {w : World} {m : Nat} {Ts : Tabs} {pm : Nat → Nat × Nat} (h : TabsAt w m Ts pm) : m < w.heap.size := by
  obtain ⟨l, h1, _⟩ := h.map
  exact h1.lt
theorem TabsAt.pure {w w' : World} {m : Nat} {Ts : Tabs} {pm : Nat → Nat × Nat} (h : TabsAt w m Ts pm) (hk : Kept none' w w') : TabsAt w' m Ts pm := by
  obtain ⟨⟨l, h1, h2, h3⟩, h4, h5⟩ := h
  exact ⟨⟨l, h1.kept hk (fun h => h), h2, h3⟩, fun i T hT => ⟨(h4 i T hT).1.pure hk, (h4 i T hT).2⟩, h5⟩
theorem TabsAt.made (w : World) (nodes : List JN) (pm : Nat → Nat × Nat) : TabsAt (w.alloc (.map #[] 0)) w.heap.size (noTabs nodes) pm := by
  refine ⟨⟨[], MapL.made w, fun i hi => ?_, fun _ _ => rfl⟩, fun i T hT => ?_, fun i k T U _ hT => ?_⟩
  · have : (noTabs nodes).getD i none = none := by
      unfold noTabs
      rw [List.getD_eq_getElem?_getD, List.getElem?_replicate]
      split <;> rfl
    rw [this]; rfl
  all_goals
    unfold noTabs at hT
    rw [List.getElem?_replicate] at hT
    split at hT <;> simp at hT
/-- What the map has at a node's place. -/
theorem TabsAt.lookup {w : World} {m : Nat} {Ts : Tabs} {pm : Nat → Nat × Nat} (h : TabsAt w m Ts pm) (i : Nat) (hi : i < Ts.length) :
    (Instr.lookup 138 (.map (some m)) (.int .i64 (i : Int)) true).run Tryz.prog w = .ok (.tuple #[(ptrOf pm i (Ts.getD i none)).getD (.pointer none), .bool (Ts.getD i none).isSome]) w := by
  obtain ⟨⟨l, h1, h2, _⟩, _, _⟩ := h
  have := h1.lookup (P := Tryz.prog) Tryz.underlying138 Tryz.underlying3 (i : Int) (Tryz.zeroValue43 w)
  rw [h2 i hi] at this
  rw [this]
  unfold ptrOf
  cases Ts.getD i none <;> rfl
theorem TabsAt.lookup1 {w : World} {m : Nat} {Ts : Tabs} {pm : Nat → Nat × Nat} (h : TabsAt w m Ts pm) (i : Nat) (hi : i < Ts.length) :
    (Instr.lookup 138 (.map (some m)) (.int .i64 (i : Int)) false).run Tryz.prog w = .ok ((ptrOf pm i (Ts.getD i none)).getD (.pointer none)) w := by
  obtain ⟨⟨l, h1, h2, _⟩, _, _⟩ := h
  have := h1.lookup1 (P := Tryz.prog) Tryz.underlying138 Tryz.underlying3 (i : Int) (Tryz.zeroValue43 w)
  rwa [h2 i hi] at this
theorem TabsAt.lookup_no {w : World} {m : Nat} {Ts : Tabs} {pm : Nat → Nat × Nat} (h : TabsAt w m Ts pm) (key : Int) (hi : key < 0 ∨ (Ts.length : Int) ≤ key) :
    (Instr.lookup 138 (.map (some m)) (.int .i64 key) true).run Tryz.prog w = .ok (.tuple #[.pointer none, .bool false]) w := by
  obtain ⟨⟨l, h1, _, h3⟩, _, _⟩ := h
  have := h1.lookup (P := Tryz.prog) Tryz.underlying138 Tryz.underlying3 key (Tryz.zeroValue43 w)
  rwa [h3 key hi] at this
/-- One table's own map turned. -/
theorem TabsAt.turn {w w' : World} {m : Nat} {Ts : Tabs} {pm : Nat → Nat × Nat} (h : TabsAt w m Ts pm) {i : Nat} {T T' : Tab} (hT : Ts[i]? = some (some T)) (hk : Kept (one (pm i).2) w w') (ht : TabAt w' AnyB (pm i).1 (pm i).2 T') :
    TabsAt w' m (Ts.set i (some T')) pm := by
  have hnot := (h.tab i T hT).1.notCells
  have hne := (h.tab i T hT).2
  have hlen : i < Ts.length := (List.getElem?_eq_some_iff.1 hT).1
  have hget : ∀ (k : Nat) (U : Tab), k ≠ i → (Ts.set i (some T'))[k]? = some (some U) → Ts[k]? = some (some U) := fun k U hki h => by
    rwa [List.getElem?_set_ne (fun e => hki e.symm)] at h
  obtain ⟨⟨l, h1, h2, h3⟩, h4, h5⟩ := h
  refine ⟨⟨l, h1.kept hk (fun e => hne e.symm), fun k hkl => ?_, fun key hkey => h3 key (by simpa using hkey)⟩, fun k U hU => ?_, fun k n U V hkn hU hV => ?_⟩
  · have hkl' : k < Ts.length := by simpa using hkl
    rw [h2 k hkl']
    by_cases hki : k = i
    · subst hki
      rw [List.getD_eq_getElem?_getD, List.getD_eq_getElem?_getD, List.getElem?_set_self hlen, hT]
      rfl
    · rw [List.getD_eq_getElem?_getD, List.getD_eq_getElem?_getD, List.getElem?_set_ne (fun e => hki e.symm)]
  · by_cases hki : k = i
    · subst hki
      rw [List.getElem?_set_self hlen] at hU
      injection hU with hU
      injection hU with hU
      subst hU
      exact ⟨ht, hne⟩
    · have hU' := hget k U hki hU
      refine ⟨(h4 k U hU').1.kept hk (fun q hq _ _ c E f e => ?_) (fun e => h5 k i U T hki hU' hT e), (h4 k U hU').2⟩
      cases hq
      exact hnot c E f e
  · by_cases hki : k = i
    · subst hki
      have hV' := hget n V (fun e => hkn e.symm) hV
      exact h5 k n T V hkn hT hV'
    · have hU' := hget k U hki hU
      by_cases hni : n = i
      · subst hni
        exact h5 k n U T hkn hU' hT
      · exact h5 k n U V hkn hU' (hget n V hni hV)
/-- A table of its own laid where none was. -/
theorem TabsAt.lay {w w' : World} {m : Nat} {Ts : Tabs} {pm : Nat → Nat × Nat} (h : TabsAt w m Ts pm) {i : Nat} (hi : i < Ts.length) (hno : Ts.getD i none = none) {b tm : Nat} {T : Tab} (ht : TabAt w AnyB b tm T) (hm : tm ≠ m)
    (hd : ∀ (k : Nat) (U : Tab), Ts[k]? = some (some U) → (pm k).2 ≠ tm) {l' : List (Int × Value)} (hl : ∀ l, MapL w m l → l' = upd (i : Int) (.pointer (some ⟨b, 0, none⟩)) l → MapL w' m l') (hk : Kept (one m) w w')
    (he : ∃ l, MapL w m l ∧ (∀ i : Nat, i < Ts.length → look l (i : Int) = ptrOf pm i (Ts.getD i none)) ∧ (∀ key : Int, (key < 0 ∨ (Ts.length : Int) ≤ key) → look l key = none) ∧ l' = upd (i : Int) (.pointer (some ⟨b, 0, none⟩)) l) :
    TabsAt w' m (Ts.set i (some T)) (fun k => if k = i then (b, tm) else pm k) := by
  obtain ⟨l, h1, h2, h3, rfl⟩ := he
  have hmn : NoCells w (one m) AnyB := NoCells.map h1 _
  have hset : ∀ (k : Nat) (U : Tab), k ≠ i → (Ts.set i (some T))[k]? = some (some U) → Ts[k]? = some (some U) := fun k U hki h => by
    rwa [List.getElem?_set_ne (fun e => hki e.symm)] at h
  obtain ⟨_, h4, h5⟩ := h
  refine ⟨⟨_, hl l h1 rfl, fun k hkl => ?_, fun key hkey => ?_⟩, fun k U hU => ?_, fun k n U V hkn hU hV => ?_⟩
  · have hkl' : k < Ts.length := by simpa using hkl
    rw [look_upd]
    by_cases hki : k = i
    · subst hki
      rw [if_pos rfl, List.getD_eq_getElem?_getD, List.getElem?_set_self hi]
      simp [ptrOf]
    · rw [if_neg (by omega), h2 k hkl', List.getD_eq_getElem?_getD, List.getD_eq_getElem?_getD, List.getElem?_set_ne (fun e => hki e.symm)]
      simp [ptrOf, hki]
  · have hkey' : key < 0 ∨ (Ts.length : Int) ≤ key := by simpa using hkey
    rw [look_upd, if_neg (by omega)]
    exact h3 key hkey'
  · by_cases hki : k = i
    · subst hki
      rw [List.getElem?_set_self hi] at hU
      injection hU with hU
      injection hU with hU
      subst hU
      simp only [if_true]
      exact ⟨ht.kept hk hmn (fun e => hm e), hm⟩
    · simp only [if_neg hki]
      have hU' := hset k U hki hU
      exact ⟨(h4 k U hU').1.kept hk hmn (fun e => (h4 k U hU').2 e), (h4 k U hU').2⟩
  · by_cases hki : k = i
    · have hni : ¬ n = i := fun e => hkn (hki.trans e.symm)
      simp only [if_pos hki, if_neg hni]
      exact fun e => hd n V (hset n V hni hV) e.symm
    · simp only [if_neg hki]
      have hU' := hset k U hki hU
      by_cases hni : n = i
      · simp only [if_pos hni]
        exact hd k U hU'
      · simp only [if_neg hni]
        exact h5 k n U V hkn hU' (hset n V hni hV)
/-- The same, at the map's own step. -/
theorem TabsAt.update {w : World} {m : Nat} {Ts : Tabs} {pm : Nat → Nat × Nat} (h : TabsAt w m Ts pm) {i : Nat} (hi : i < Ts.length) (hno : Ts.getD i none = none) {b tm : Nat} {T : Tab} (ht : TabAt w AnyB b tm T) (hm : tm ≠ m)
    (hd : ∀ (k : Nat) (U : Tab), Ts[k]? = some (some U) → (pm k).2 ≠ tm) :
    ∃ w', (Instr.mapUpdate 138 (.map (some m)) (.int .i64 (i : Int)) (.pointer (some ⟨b, 0, none⟩))).run Tryz.prog w = .ok () w' ∧ TabsAt w' m (Ts.set i (some T)) (fun k => if k = i then (b, tm) else pm k) ∧ Kept (one m) w w' ∧ w'.heap.size = w.heap.size := by
  obtain ⟨l, h1, h2, h3⟩ := h.map
  obtain ⟨w', u1, u2, u3, u4⟩ := h1.update (P := Tryz.prog) Tryz.underlying138 Tryz.underlying3 (i : Int) (.pointer (some ⟨b, 0, none⟩))
  exact ⟨w', u1, h.lay hi hno ht hm hd (l' := upd (i : Int) (.pointer (some ⟨b, 0, none⟩)) l) (fun l0 _ e => e ▸ (by rw [← e]; exact u2)) u3 ⟨l, h1, h2, h3, rfl⟩, u3, u4⟩
/-- A table that was made since is unlike the others. -/
theorem TabsAt.fresh {w : World} {m : Nat} {Ts : Tabs} {pm : Nat → Nat × Nat} (h : TabsAt w m Ts pm) {tm : Nat} (htm : w.heap.size ≤ tm) : tm ≠ m ∧ ∀ (k : Nat) (U : Tab), Ts[k]? = some (some U) → (pm k).2 ≠ tm := by
  refine ⟨fun e => ?_, fun k U hU e => ?_⟩
  · have := h.lt; omega
  · have := (h.tab k U hU).1.lt.1; omega
/-- An ideal: its struct in block b. -/
structure IdlAt (w : World) (b m : Nat) (j : Jb) (Ts : Tabs) (pm : Nat → Nat × Nat) : Prop where
  obj : ∃ v, w.heap[b]? = some (.cells #[.int .i64 j.par, v, .map (some m)] 140 (0, 0)) ∧ NodesAt w v j.nodes
  par : R64 j.par
  tabs : TabsAt w m Ts pm
theorem IdlAt.pure {w w' : World} {b m : Nat} {j : Jb} {Ts : Tabs} {pm : Nat → Nat × Nat} (h : IdlAt w b m j Ts pm) (hk : Kept none' w w') : IdlAt w' b m j Ts pm := by
  obtain ⟨⟨v, h1, h2⟩, h3, h4⟩ := h
  exact ⟨⟨v, hk.heap h1 (fun h => h), h2.pure hk⟩, h3, h4.pure hk⟩
end Go.Proofs.YtglbkodmmogomaaGreatDoor
/-
  Tables of an ideal, and where their memory lies.
-/
namespace Go.Proofs.YtglbkodmmogomaaGreatDoor
open Go Go.RowKit
/-- Tables all of whose memory lies in M. -/
structure TabsX (w : World) (M : Nat → Prop) (m : Nat) (Ts : Tabs) (pm : Nat → Nat × Nat) : Prop where
  at_ : TabsAt w m Ts pm
  out : ∀ (i : Nat) (T : Tab), Ts[i]? = some (some T) → TabAt w M (pm i).1 (pm i).2 T
theorem TabsX.of {w : World} {M : Nat → Prop} {mb m : Nat} {Ts : Tabs} {pm : Nat → Nat × Nat} (h : TabsX w M m Ts pm) (hmb : w.heap.size ≤ mb) : TabsX w (fun k => (M k ∨ w.heap.size ≤ k) ∧ k ≠ mb) m Ts pm :=
  ⟨h.at_, fun i T hT => (h.out i T hT).mono (fun k hM hk => ⟨.inl hM, by omega⟩)⟩
theorem TabsX.any {w : World} {m : Nat} {Ts : Tabs} {pm : Nat → Nat × Nat} (h : TabsAt w m Ts pm) : TabsX w AnyB m Ts pm := ⟨h, fun i T hT => (h.tab i T hT).1⟩
theorem TabsX.mono {w : World} {M M' : Nat → Prop} {m : Nat} {Ts : Tabs} {pm : Nat → Nat × Nat} (h : TabsX w M m Ts pm) (hM : ∀ k, M k → k < w.heap.size → M' k) : TabsX w M' m Ts pm :=
  ⟨h.at_, fun i T hT => (h.out i T hT).mono hM⟩
theorem TabsX.pure {w w' : World} {M : Nat → Prop} {m : Nat} {Ts : Tabs} {pm : Nat → Nat × Nat} (h : TabsX w M m Ts pm) (hk : Kept none' w w') : TabsX w' M m Ts pm :=
  ⟨h.at_.pure hk, fun i T hT => (h.out i T hT).pure hk⟩
theorem TabsX.keptC {S : Nat → Prop} {w w' : World} {M : Nat → Prop} {m : Nat} {Ts : Tabs} {pm : Nat → Nat × Nat} (h : TabsX w M m Ts pm) (hM : ∀ k, S k → ¬ M k) (hm : ¬ S m) (hk : Kept S w w') : TabsX w' M m Ts pm := by
  have hnc : NoCells w S M := fun k h1 h2 => absurd h2 (hM k h1)
  have ho : ∀ (i : Nat) (T : Tab), Ts[i]? = some (some T) → TabAt w' M (pm i).1 (pm i).2 T := fun i T hT => (h.out i T hT).kept hk hnc (fun e => hM _ e (h.out i T hT).hm)
  refine ⟨⟨?_, fun i T hT => ⟨(ho i T hT).any, (h.at_.tab i T hT).2⟩, h.at_.dist⟩, ho⟩
  obtain ⟨l, h1, h2, h3⟩ := h.at_.map
  exact ⟨l, h1.kept hk hm, h2, h3⟩
theorem TabsX.store {w w' : World} {M : Nat → Prop} {mb m : Nat} {Ts : Tabs} {pm : Nat → Nat × Nat} (h : TabsX w M m Ts pm) (hM : ¬ M mb) (hm : m ≠ mb) (hk : Kept (one mb) w w') : TabsX w' M m Ts pm :=
  h.keptC (S := one mb) (fun q (e : q = mb) => by rw [e]; exact hM) hm hk
theorem TabsX.turn {w w' : World} {M : Nat → Prop} {m : Nat} {Ts : Tabs} {pm : Nat → Nat × Nat} (h : TabsX w M m Ts pm) {i : Nat} {T T' : Tab} (hT : Ts[i]? = some (some T)) (hk : Kept (one (pm i).2) w w')
    (ht : TabAt w' M (pm i).1 (pm i).2 T') : TabsX w' M m (Ts.set i (some T')) pm := by
  refine ⟨h.at_.turn hT hk ht.any, fun k U hU => ?_⟩
  have hlen : i < Ts.length := (List.getElem?_eq_some_iff.1 hT).1
  by_cases hki : k = i
  · subst hki
    rw [List.getElem?_set_self hlen] at hU
    injection hU with hU
    injection hU with hU
    subst hU
    exact ht
  · rw [List.getElem?_set_ne (fun e => hki e.symm)] at hU
    obtain ⟨l, h1, _⟩ := (h.at_.tab i T hT).1.map
    exact (h.out k U hU).kept hk (NoCells.map h1 _) (h.at_.dist k i U T hki hU hT)
/-- A table of its own laid where none was, at the map's own step. -/
theorem TabsX.update {w : World} {M : Nat → Prop} {m : Nat} {Ts : Tabs} {pm : Nat → Nat × Nat} (h : TabsX w M m Ts pm) {i : Nat} (hi : i < Ts.length) (hno : Ts.getD i none = none) {b tm : Nat} {T : Tab} (ht : TabAt w M b tm T) (hm : tm ≠ m)
    (hd : ∀ (k : Nat) (U : Tab), Ts[k]? = some (some U) → (pm k).2 ≠ tm) :
    ∃ w', (Instr.mapUpdate 138 (.map (some m)) (.int .i64 (i : Int)) (.pointer (some ⟨b, 0, none⟩))).run Tryz.prog w = .ok () w' ∧ TabsX w' M m (Ts.set i (some T)) (fun k => if k = i then (b, tm) else pm k) ∧ Kept (one m) w w' ∧ w'.heap.size = w.heap.size := by
  obtain ⟨w', u1, u2, u3, u4⟩ := h.at_.update hi hno ht.any hm hd
  obtain ⟨l, h1, _⟩ := h.at_.map
  refine ⟨w', u1, ⟨u2, fun k U hU => ?_⟩, u3, u4⟩
  by_cases hki : k = i
  · subst hki
    rw [List.getElem?_set_self hi] at hU
    cases hU
    simp only [if_true]
    exact ht.kept u3 (NoCells.map h1 _) (fun e => hm e)
  · simp only [if_neg hki]
    rw [List.getElem?_set_ne (fun e => hki e.symm)] at hU
    exact (h.out k U hU).kept u3 (NoCells.map h1 _) (fun e => (h.at_.tab k U hU).2 e)
theorem TabsX.made (w : World) (M : Nat → Prop) (nodes : List JN) (pm : Nat → Nat × Nat) : TabsX (w.alloc (.map #[] 0)) M w.heap.size (noTabs nodes) pm :=
  ⟨TabsAt.made w nodes pm, fun i T hT => by
    unfold noTabs at hT
    rw [List.getElem?_replicate] at hT
    split at hT <;> simp at hT⟩
end Go.Proofs.YtglbkodmmogomaaGreatDoor
