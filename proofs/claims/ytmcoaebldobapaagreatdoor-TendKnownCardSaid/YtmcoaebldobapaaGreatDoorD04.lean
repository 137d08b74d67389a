/-
  What tables are, in plain words: rows in order of group and key.
-/
set_option linter.unusedVariables false
set_option linter.unusedSimpArgs false
namespace Go.Proofs.YtmcoaebldobapaaGreatDoor
/-- A number that fits. -/
def R64 (n : Int) : Prop := -9223372036854775808 ≤ n ∧ n ≤ 9223372036854775807
def grp (k : Int) : Int := k % 8
theorem grp_lo (k : Int) : 0 ≤ grp k := by unfold grp; omega
theorem grp_hi (k : Int) : grp k < 8 := by unfold grp; omega
abbrev Cell := Int × List Int
abbrev Tab := List (Int × Cell)
def lessB (a b : Int) : Bool := decide (grp a < grp b) || (decide (grp a = grp b) && decide (a < b))
theorem lessB_iff {a b : Int} : lessB a b = true ↔ grp a < grp b ∨ grp a = grp b ∧ a < b := by simp [lessB]
theorem lessB_irrefl (a : Int) : lessB a a = false := by simp [lessB]
theorem lessB_trans {a b c : Int} (h : lessB a b = true) (k : lessB b c = true) : lessB a c = true := by
  rw [lessB_iff] at *; omega
theorem lessB_total {a b : Int} (h : a ≠ b) : lessB a b = true ∨ lessB b a = true := by
  rw [lessB_iff, lessB_iff]; omega
theorem lessB_asymm {a b : Int} (h : lessB a b = true) : lessB b a = false := by
  cases h' : lessB b a
  · rfl
  · have := lessB_trans h h'; rw [lessB_irrefl] at this; cases this
/-- Rising. -/
def Rises (T : Tab) : Prop := T.Pairwise fun p q => lessB p.1 q.1 = true
def tget (T : Tab) (k : Int) : Option Cell := (T.find? fun p => k == p.1).map (·.2)
def tmany (T : Tab) (g : Int) : Nat := T.countP fun p => grp p.1 == g
def tput (k : Int) (c : Cell) : Tab → Tab
  | [] => [(k, c)]
  | p :: r => if lessB p.1 k then p :: tput k c r else if p.1 = k then (k, c) :: r else (k, c) :: p :: r
def tdrop (k : Int) (T : Tab) : Tab := T.filter fun p => k != p.1
def tkeys (T : Tab) : List Int := T.map (·.1)
def COk (c : Cell) : Prop := R64 c.1 ∧ (∀ x ∈ c.2, R64 x) ∧ c.2.length ≤ 16
structure TOk (T : Tab) : Prop where
  rises : Rises T
  key : ∀ p ∈ T, R64 p.1
  cell : ∀ p ∈ T, COk p.2
  many : ∀ g, tmany T g ≤ 40
theorem Rises.nodup {T : Tab} (h : Rises T) : (tkeys T).Nodup := by
  unfold tkeys
  rw [List.Nodup, List.pairwise_map]
  exact h.imp fun {a b} hab e => by rw [e, lessB_irrefl] at hab; cases hab
theorem mem_tput {k : Int} {c : Cell} : ∀ {T : Tab}, Rises T → ∀ {p : Int × Cell}, p ∈ tput k c T ↔ p = (k, c) ∨ (p ∈ T ∧ p.1 ≠ k)
  | [], _, p => by simp [tput]
  | q :: r, h, p => by
    obtain ⟨h1, h2⟩ := List.pairwise_cons.1 h
    unfold tput
    split
    · rename_i hl
      have hne : q.1 ≠ k := fun e => by rw [e, lessB_irrefl] at hl; cases hl
      rw [List.mem_cons, mem_tput h2, List.mem_cons]
      constructor
      · rintro (rfl | h | h)
        · exact .inr ⟨.inl rfl, hne⟩
        · exact .inl h
        · exact .inr ⟨.inr h.1, h.2⟩
      · rintro (h | ⟨rfl | h, h'⟩)
        · exact .inr (.inl h)
        · exact .inl rfl
        · exact .inr (.inr ⟨h, h'⟩)
    · rename_i hl
      split
      · rename_i he
        rw [List.mem_cons, List.mem_cons]
        constructor
        · rintro (h | h)
          · exact .inl h
          · refine .inr ⟨.inr h, fun e => ?_⟩
            have := h1 p h
            rw [e, he, lessB_irrefl] at this; cases this
        · rintro (h | ⟨rfl | h, h'⟩)
          · exact .inl h
          · exact absurd he h'
          · exact .inr h
      · rename_i he
        have hkq : lessB k q.1 = true := (lessB_total he).resolve_left hl
        rw [List.mem_cons]
        constructor
        · rintro (h | h)
          · exact .inl h
          · refine .inr ⟨h, fun e => ?_⟩
            rcases List.mem_cons.1 h with rfl | h
            · exact he e
            · have := lessB_trans hkq (h1 p h)
              rw [e, lessB_irrefl] at this; cases this
        · rintro (h | ⟨h, _⟩)
          · exact .inl h
          · exact .inr h
theorem Rises.tput {k : Int} {c : Cell} : ∀ {T : Tab}, Rises T → Rises (tput k c T)
  | [], _ => by simp [Rises, Go.Proofs.YtmcoaebldobapaaGreatDoor.tput]
  | q :: r, h => by
    obtain ⟨h1, h2⟩ := List.pairwise_cons.1 h
    unfold Go.Proofs.YtmcoaebldobapaaGreatDoor.tput
    split
    · rename_i hl
      refine List.pairwise_cons.2 ⟨fun p hp => ?_, Rises.tput h2⟩
      rcases (mem_tput h2).1 hp with rfl | ⟨hp, _⟩
      · exact hl
      · exact h1 p hp
    · rename_i hl
      split
      · rename_i he
        exact List.pairwise_cons.2 ⟨fun p hp => by have := h1 p hp; rw [he] at this; exact this, h2⟩
      · rename_i he
        have hkq : lessB k q.1 = true := (lessB_total he).resolve_left hl
        refine List.pairwise_cons.2 ⟨fun p hp => ?_, h⟩
        rcases List.mem_cons.1 hp with rfl | hp
        · exact hkq
        · exact lessB_trans hkq (h1 p hp)
theorem tget_some {T : Tab} (h : Rises T) {k : Int} {c : Cell} : tget T k = some c ↔ (k, c) ∈ T := by
  induction T with
  | nil => simp [tget]
  | cons q r ih =>
    obtain ⟨h1, h2⟩ := List.pairwise_cons.1 h
    unfold tget at *
    rw [List.find?_cons]
    by_cases he : k = q.1
    · subst he
      simp
      constructor
      · intro h; exact .inl (by rw [← h])
      · rintro (h | h)
        · rw [← h]
        · have := h1 _ h; simp [lessB_irrefl] at this
    · have : (k == q.1) = false := by simp [he]
      rw [this]
      simp only [List.mem_cons]
      rw [ih h2]
      constructor
      · exact .inr
      · rintro (h | h)
        · rw [← h] at he; exact absurd rfl he
        · exact h
theorem tget_none {T : Tab} {k : Int} : tget T k = none ↔ k ∉ tkeys T := by
  unfold tget tkeys
  simp
  constructor
  · intro h a b hc; exact h _ _ _ hc rfl
  · intro h a b l hab e; subst e; exact h _ _ hab
/-- Two rising tables of the same rows are one. -/
theorem Rises.ext : ∀ {T U : Tab}, Rises T → Rises U → (∀ p, p ∈ T ↔ p ∈ U) → T = U
  | [], [], _, _, _ => rfl
  | [], q :: r, _, _, h => by have := (h q).2 (by simp); cases this
  | q :: r, [], _, _, h => by have := (h q).1 (by simp); cases this
  | p :: r, q :: s, hT, hU, h => by
    obtain ⟨a1, a2⟩ := List.pairwise_cons.1 hT
    obtain ⟨b1, b2⟩ := List.pairwise_cons.1 hU
    have hpq : p = q := by
      rcases List.mem_cons.1 ((h p).1 (by simp)) with e | e
      · exact e
      · rcases List.mem_cons.1 ((h q).2 (by simp)) with e' | e'
        · exact e'.symm
        · have h1 := b1 p e
          have h2 := a1 q e'
          rw [lessB_asymm h1] at h2; cases h2
    subst hpq
    congr 1
    refine Rises.ext a2 b2 fun x => ⟨fun hx => ?_, fun hx => ?_⟩
    · rcases List.mem_cons.1 ((h x).1 (by simp [hx])) with e | e
      · subst e; have := a1 x hx; rw [lessB_irrefl] at this; cases this
      · exact e
    · rcases List.mem_cons.1 ((h x).2 (by simp [hx])) with e | e
      · subst e; have := b1 x hx; rw [lessB_irrefl] at this; cases this
      · exact e
theorem mem_tdrop {k : Int} {T : Tab} {p : Int × Cell} : p ∈ tdrop k T ↔ p ∈ T ∧ p.1 ≠ k := by
  unfold tdrop; simp; intro _; exact ⟨fun h e => h e.symm, fun h e => h e.symm⟩
theorem Rises.tdrop {k : Int} {T : Tab} (h : Rises T) : Rises (tdrop k T) := h.sublist List.filter_sublist
end Go.Proofs.YtmcoaebldobapaaGreatDoor
