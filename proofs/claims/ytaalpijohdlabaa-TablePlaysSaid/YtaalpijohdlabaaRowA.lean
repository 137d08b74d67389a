/-
  TableRow: what 'has' holds beside the table.
-/
import Derived.Test.YtaalpijohdlabaaHeavy
namespace Go.Proofs.Ytaalpijohdlabaa
open Go Go.RowKit
/-- The map of what was put last: of each key of the table its Acc. -/
def HasAt (w : World) (m : Nat) (T : Tab) : Prop := ∃ l, MapL w m l ∧ ∀ key v, (key, v) ∈ l ↔ ∃ c, (key, c) ∈ T ∧ v = .int .i64 c.1
theorem HasAt.kept {w w' : World} {m : Nat} {T : Tab} {S : Nat → Prop} (h : HasAt w m T) (hk : Kept S w w') (hn : ¬ S m) : HasAt w' m T := by
  obtain ⟨l, h1, h2⟩ := h
  exact ⟨l, h1.kept hk hn, h2⟩
theorem HasAt.made (w : World) : HasAt (w.alloc (.map #[] 0)) w.heap.size [] := ⟨[], .made w, fun key v => by simp⟩
def accOf (o : Option Cell) : Value := .int .i64 (o.getD (0, [])).1
theorem has_look {T : Tab} (hT : Rises T) {l : List (Int × Value)} (h : ∀ key v, (key, v) ∈ l ↔ ∃ c, (key, c) ∈ T ∧ v = .int .i64 c.1) (key : Int) : look l key = (tget T key).map (fun c => .int .i64 c.1) := by
  cases hl : look l key with
  | none =>
    have hn := look_none hl
    cases ht : tget T key with
    | none => rfl
    | some c =>
      have := (h key (.int .i64 c.1)).2 ⟨c, (tget_some hT).1 ht, rfl⟩
      exact absurd (List.mem_map.2 ⟨_, this, rfl⟩) hn
  | some v =>
    obtain ⟨c, h1, rfl⟩ := (h key v).1 (look_mem hl)
    rw [(tget_some hT).2 h1]
    rfl
theorem HasAt.lookup {w : World} {m : Nat} {T : Tab} (h : HasAt w m T) (hT : Rises T) (key : Int) :
    (Instr.lookup 35 (.map (some m)) (.int .i64 key) true).run Try.prog w = .ok (.tuple #[accOf (tget T key), .bool (tget T key).isSome]) w := by
  obtain ⟨l, h1, h2⟩ := h
  have := h1.lookup (P := Try.prog) Try.underlying35 Try.underlying2 key (Try.zeroValue2 w)
  rw [this, has_look hT h2]
  cases tget T key <;> rfl
theorem HasAt.put {w : World} {m : Nat} {T : Tab} (h : HasAt w m T) (hT : Rises T) (key : Int) (c : Cell) :
    ∃ w', (Instr.mapUpdate 35 (.map (some m)) (.int .i64 key) (.int .i64 c.1)).run Try.prog w = .ok () w' ∧ HasAt w' m (tput key c T) ∧ Kept (one m) w w' ∧ w'.heap.size = w.heap.size := by
  obtain ⟨l, h1, h2⟩ := h
  obtain ⟨w', a1, a2, a3, a4⟩ := h1.update (P := Try.prog) Try.underlying35 Try.underlying2 key (.int .i64 c.1)
  refine ⟨w', a1, ⟨_, a2, fun k v => ?_⟩, a3, a4⟩
  rw [mem_upd h1.nodup]
  constructor
  · rintro (h | ⟨h, hne⟩)
    · injection h with e1 e2
      subst e1 e2
      exact ⟨c, (mem_tput hT).2 (.inl rfl), rfl⟩
    · obtain ⟨c', b1, b2⟩ := (h2 k v).1 h
      exact ⟨c', (mem_tput hT).2 (.inr ⟨b1, hne⟩), b2⟩
  · rintro ⟨c', b1, rfl⟩
    rcases (mem_tput hT).1 b1 with h | ⟨h, hne⟩
    · injection h with e1 e2
      subst e1 e2
      exact .inl rfl
    · exact .inr ⟨(h2 _ _).2 ⟨c', h, rfl⟩, hne⟩
theorem HasAt.drop {w : World} {m : Nat} {T : Tab} (h : HasAt w m T) (key : Int) :
    ∃ w', (∀ (ty k : TypeId), (Builtin.delete_ #[35, k] ty #[.map (some m), .int .i64 key]).run Try.prog w = .ok (.tuple #[]) w') ∧ HasAt w' m (tdrop key T) ∧ Kept (one m) w w' ∧ w'.heap.size = w.heap.size := by
  obtain ⟨l, h1, h2⟩ := h
  obtain ⟨w', a1, a2, a3, a4⟩ := h1.delete (P := Try.prog) Try.underlying35 Try.underlying2 key
  refine ⟨w', a1, ⟨_, a2, fun k v => ?_⟩, a3, a4⟩
  rw [mem_del]
  constructor
  · rintro ⟨h, hne⟩
    obtain ⟨c', b1, b2⟩ := (h2 k v).1 h
    exact ⟨c', mem_tdrop.2 ⟨b1, hne⟩, b2⟩
  · rintro ⟨c', b1, rfl⟩
    obtain ⟨b2, hne⟩ := mem_tdrop.1 b1
    exact ⟨(h2 _ _).2 ⟨c', b2, rfl⟩, hne⟩
theorem HasAt.len {w : World} {m : Nat} {T : Tab} (h : HasAt w m T) (hT : Rises T) (ty : TypeId) :
    (Builtin.len_ #[35] ty #[.map (some m)]).run Try.prog w = .ok (.int .i64 T.length) w := by
  obtain ⟨l, h1, h2⟩ := h
  have h3 := h1.len (P := Try.prog) Try.underlying35 ty
  have hp : (l.map (·.1)).Perm (tkeys T) := by
    refine nodup_perm h1.nodup hT.nodup fun x => ?_
    unfold tkeys
    simp only [List.mem_map]
    constructor
    · rintro ⟨⟨k, v⟩, hp, rfl⟩
      obtain ⟨c, b1, _⟩ := (h2 k v).1 hp
      exact ⟨_, b1, rfl⟩
    · rintro ⟨⟨k, c⟩, hp, rfl⟩
      exact ⟨_, (h2 k _).2 ⟨c, hp, rfl⟩, rfl⟩
  have := hp.length_eq
  unfold tkeys at this
  simp only [List.length_map] at this
  rw [h3, this]
/-- The state between two calls. -/
structure RowInv (w wr : World) (b m hm : Nat) (T : Tab) : Prop where
  tab : TabAt wr (up w.heap.size) b m T
  has : HasAt wr hm T
  kept : Kept none' w wr
/-- The cells of a call that was copied. -/
theorem RowInv.alloc {w wr : World} {b m hm : Nat} {T : Tab} (h : RowInv w wr b m hm T) (o : Obj) : RowInv w (wr.alloc o) b m hm T :=
  ⟨h.tab.pure ((Kept.refl _ _).alloc _), h.has.kept (S := none') ((Kept.refl _ _).alloc _) (fun h => h), h.kept.alloc _⟩
theorem RowInv.drew {w wr : World} {b m hm : Nat} {T : Tab} (h : RowInv w wr b m hm T) : RowInv w wr.drew b m hm T :=
  ⟨h.tab.pure (Kept.refl _ _).drew, h.has.kept (S := none') (Kept.refl _ _).drew (fun h => h), h.kept.drew⟩
end Go.Proofs.Ytaalpijohdlabaa
