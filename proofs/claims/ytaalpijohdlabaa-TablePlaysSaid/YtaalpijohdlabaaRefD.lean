/-
  Both tables made of the calls that came in.
-/
import Derived.Test.YtaalpijohdlabaaRefC
import Derived.Test.YtaalpijohdlabaaHvy
namespace Go.Proofs.Ytaalpijohdlabaa
open Go Go.RowKit
theorem Reads.keptN {S : Nat → Prop} {w w' : World} {k : Nat} {v : Value} {cs : List Value} (h : Reads w k v cs) (hk : Kept S w w') (hp : 0 < k) (hS : NoCells w S (fun _ => True)) : Reads w' k v cs :=
  h.kept hk (fun b hb hs => by
    obtain ⟨c, E, f, he⟩ := h.isCells hp hb
    exact hS b hs trivial (Array.getElem?_eq_some_iff.1 he).1 c E f he)
theorem RTabAt.keptN {S : Nat → Prop} {w w' : World} {d : Nat} {T : Tab} (h : RTabAt w d T) (hk : Kept S w w') (hS : NoCells w S (fun _ => True)) : RTabAt w' d T := by
  obtain ⟨⟨v, h1, cs, h2, h3⟩, h4⟩ := h
  refine ⟨⟨v, hk.heap h1 (fun hs => hS d hs trivial (Array.getElem?_eq_some_iff.1 h1).1 _ _ _ h1), cs, h2.keptN hk (by omega) hS, h3.1, fun i p hp => ?_⟩, h4⟩
  obtain ⟨a, b, lv, c, d⟩ := h3.2 i p hp
  exact ⟨a, b, lv, c, d.keptN hk (by omega) hS⟩
/-- What both tables hold. -/
def madeT (ops : List Op) : Tab := ops.foldl (fun T o => putT T o.key (o.acc, o.l)) []
theorem madeT_take {ops : List Op} {k : Nat} {o : Op} (h : ops[k]? = some o) : madeT (ops.take (k + 1)) = putT (madeT (ops.take k)) o.key (o.acc, o.l) := by
  unfold madeT
  rw [List.take_add_one, h, List.foldl_append]
  rfl
structure MadeInv (w wr : World) (b m d : Nat) (T : Tab) : Prop where
  tab : TabAt wr (fun k => w.heap.size ≤ k ∧ k ≠ d) b m T
  doc : RTabAt wr d T
  kept : Kept none' w wr
  hd : w.heap.size ≤ d
theorem MadeInv.pure {w wr w' : World} {b m d : Nat} {T : Tab} (h : MadeInv w wr b m d T) (hk : Kept none' wr w') : MadeInv w w' b m d T :=
  ⟨h.tab.pure hk, h.doc.pure hk, h.kept.trans hk, h.hd⟩
theorem RTabAt.lt {w : World} {d : Nat} {T : Tab} (h : RTabAt w d T) : d < w.heap.size := by
  obtain ⟨⟨v, h1, _⟩, _⟩ := h
  exact (Array.getElem?_eq_some_iff.1 h1).1
def MadeQ (w : World) (ops : List Op) (e : Ending) (w' : World) : Prop :=
  ∃ b m d, e = .returned (.tuple #[.pointer (some ⟨b, 0, none⟩), .pointer (some ⟨d, 0, none⟩)]) ∧ MadeInv w w' b m d (madeT ops)
set_option maxRecDepth 100000 in
set_option maxHeartbeats 1000000 in
theorem made_any (v : Value) (ops : List Op) (w : World) (h : OpsAt w v ops) (hl : ∀ o ∈ ops, o.l.length ≤ 17592186044416) : Calls Try.prog 52 #[v] w (MadeQ w ops) := by
  obtain ⟨a, cap, rfl, h1, h2, hok, h3⟩ := h
  unfold maxLen at h2
  have H3 := Lib.hid h3
  have HOK := Lib.hid hok
  have HLL := Lib.hid hl
  clear hok h3 hl
  go_enter Try.func52, Try.ntmps52
  go_wp2_with fail
  refine (new_any _).mono ?_
  rintro e w2 ⟨b, m, rfl, ht2, k2⟩
  go_wp2_with fail
  have I0 : MadeInv w (w2.alloc (.cells #[.slice none 0 0] 74)) b m w2.heap.size (madeT (ops.take 0)) := by
    refine ⟨(ht2.mono (fun k hk hlt => ⟨hk, by omega⟩)).pure ((Kept.refl _ _).alloc _), ⟨⟨.slice none 0 0, heap_alloc_new _ _, [], Reads.nil _ _, rfl, fun i p hp => by cases hp⟩, ht2.ok⟩, k2.alloc _, k2.size⟩
  obtain ⟨d, hd⟩ : ∃ d, w2.heap.size = d := ⟨_, rfl⟩
  obtain ⟨W2, hW2⟩ : ∃ W2, w2.alloc (.cells #[.slice none 0 0] 74) = W2 := ⟨_, rfl⟩
  rw [hd] at I0 ⊢
  rw [hW2] at I0 ⊢
  have II := Lib.hid I0
  clear hd hW2 ht2 k2 I0
  go_loopw [13] (fun i wr => ∃ k, k ≤ ops.length ∧ i = .int .i64 ((k : Nat) : Int) ∧ MadeInv w wr b m d (madeT (ops.take k))) (fun i _ => ops.length - (intOf i).toNat)
  case atStart => exact ⟨0, by omega, rfl, II.out⟩
  case round =>
    obtain ⟨k, hk, rfl, hi⟩ := hrel
    have HI := Lib.hid hi
    clear hi
    by_cases hlt : k < ops.length
    · obtain ⟨o, ho⟩ : ∃ o, ops[k]? = some o := ⟨_, List.getElem?_eq_getElem hlt⟩
      obtain ⟨bb, off, rfl, hc⟩ := H3.out.resolve_left (fun h => by rw [h] at hlt; simp at hlt)
      obtain ⟨q0, q1, q2, L, q3, hL⟩ := (hc k o ho).pure HI.out.kept
      obtain ⟨La, Lc, rfl, _, _, _⟩ := hL.at
      have HL := Lib.hid hL
      have hoo := HOK.out o (List.mem_of_getElem? ho)
      have HO := Lib.hid ho
      have HOO := Lib.hid hoo
      have HOL := Lib.hid (HLL.out o (List.mem_of_getElem? ho))
      clear hc ho hL hoo H3
      go_wp2_with fail
      obtain ⟨W3, hW3⟩ : ∃ W3, wr.alloc (.cells #[.int .i64 o.kind, .int .i64 o.key, .int .i64 o.acc, .slice La o.l.length Lc] 37) = W3 := ⟨_, rfl⟩
      have kA : Kept none' wr W3 := by rw [← hW3]; exact (Kept.refl _ _).alloc _
      have J := Lib.hid (HI.out.pure kA)
      have d1 : W3.cell? ⟨wr.heap.size, 1, none⟩ = some (.int .i64 o.key) := by rw [← hW3]; simp
      have d2 : W3.cell? ⟨wr.heap.size, 2, none⟩ = some (.int .i64 o.acc) := by rw [← hW3]; simp
      have d3 : W3.cell? ⟨wr.heap.size, 3, none⟩ = some (.slice La o.l.length Lc) := by rw [← hW3]; simp
      have hlt3 := HI.out.tab.lt
      have HL3 := Lib.hid (HL.out.pure kA)
      rw [hW3]
      clear hW3 kA HL
      have hNC : NoCells W3 (one m) (fun _ => True) := by obtain ⟨l, hl, _⟩ := J.out.tab.map; exact .map hl _
      refine (put_any (fun k => w.heap.size ≤ k ∧ k ≠ d) b m _ o.key (o.acc, o.l) (.slice La o.l.length Lc) W3 J.out.tab (fun k hk => ⟨by have := J.out.kept.size; omega, by have := J.out.doc.lt; omega⟩) HOO.out.key HOO.out.acc HOO.out.l HOL.out HL3.out).mono ?_
      rintro e w4 ⟨rfl, t4, k4⟩
      have f1 := k4.cell (p := ⟨wr.heap.size, 1, none⟩) (by unfold one; simp; omega) d1
      have f2 := k4.cell (p := ⟨wr.heap.size, 2, none⟩) (by unfold one; simp; omega) d2
      have f3 := k4.cell (p := ⟨wr.heap.size, 3, none⟩) (by unfold one; simp; omega) d3
      have doc4 : RTabAt w4 d (madeT (ops.take k)) := J.out.doc.keptN k4 hNC
      have r4 := HL3.out.keptN k4 (by omega) hNC
      have k04 : Kept none' w w4 := J.out.kept.new k4 (fun i hi e => by have := J.out.tab.hm.1; unfold one at e; omega)
      have F4 := Lib.hid (And.intro t4 (And.intro doc4 (And.intro r4 k04)))
      clear t4 doc4 r4 k04 k4 hNC d1 d2 d3
      go_wp2_with fail
      refine (rput_any d _ o.key (o.acc, o.l) (.slice La o.l.length Lc) w4 F4.out.2.1 HOO.out.key HOO.out.acc HOO.out.l HOL.out F4.out.2.2.1).mono ?_
      rintro e w5 ⟨rfl, t5, k5⟩
      have FF : MadeInv w w5 b m d (madeT (ops.take (k + 1))) := by
        rw [madeT_take HO.out]
        exact ⟨F4.out.1.kept k5 (fun k hk hB => absurd hk hB.2) (fun e => F4.out.1.hm.2 e), t5, F4.out.2.2.2.new k5 (fun i hi e => by have := HI.out.hd; unfold one at e; omega), HI.out.hd⟩
      have F := Lib.hid FF
      clear FF t5 k5
      go_wp2_with fail
      go_roundw
      case rel => exact ⟨k + 1, by omega, by go_num, F.out⟩
      case measure => simp [intOf]; omega
    · have hEnd : madeT (ops.take k) = madeT ops := by rw [List.take_of_length_le (by omega)]
      have HE := Lib.hid hEnd
      have e1 : k = ops.length := by omega
      subst e1
      go_wp2_with fail
      go_ret2
      exact ⟨b, m, d, rfl, by rw [← HE.out]; exact HI.out⟩
end Go.Proofs.Ytaalpijohdlabaa
