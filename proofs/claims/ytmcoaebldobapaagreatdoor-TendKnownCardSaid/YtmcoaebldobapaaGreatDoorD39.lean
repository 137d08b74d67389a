/-
  Keys: all keys, in order (its walk).
-/
import Derived.Test.YtmcoaebldobapaaGreatDoorD38
import Derived.Sort.OwnSortedInts
set_option linter.unusedVariables false
set_option linter.unusedSimpArgs false
namespace Go.Proofs.YtmcoaebldobapaaGreatDoor
open Go Go.RowKit Go.Shelf Go.Sort
theorem ltOf_bef (x y : Int) : ltOf befC x y = lessB x y := by unfold ltOf; exact befC_lt x y
theorem swo_bef : SWO (ltOf befC) where
  irrefl x := by rw [ltOf_bef]; exact lessB_irrefl x
  trans x y z h1 h2 := by rw [ltOf_bef] at *; exact lessB_trans h1 h2
  ntrans x y z h1 h2 := by
    rw [ltOf_bef] at *
    cases h : lessB x z
    · rfl
    · rw [lessB_iff] at h
      have h1' : ¬ lessB x y = true := by simp [h1]
      have h2' : ¬ lessB y z = true := by simp [h2]
      rw [lessB_iff] at h1' h2'
      omega
theorem sorted_keys {T : Tab} (hT : Rises T) {ss : List Int} (hp : ss.Perm (tkeys T)) : (ss.mergeSort fun x y => !(ltOf befC) y x) = tkeys T := by
  have e : (fun x y => !(ltOf befC) y x) = fun x y => !lessB y x := by funext x y; rw [ltOf_bef]
  rw [e]
  have tr : ∀ a b c : Int, (!lessB b a) = true → (!lessB c b) = true → (!lessB c a) = true := fun a b c h1 h2 => by
    simp only [Bool.not_eq_true'] at *
    have := swo_bef.ntrans c b a (by rw [ltOf_bef]; exact h2) (by rw [ltOf_bef]; exact h1)
    rwa [ltOf_bef] at this
  have to : ∀ a b : Int, (!lessB b a || !lessB a b) = true := fun a b => by
    by_cases h : a = b
    · subst h; rw [lessB_irrefl]; rfl
    · rcases lessB_total h with h' | h'
      · rw [lessB_asymm h']; rfl
      · rw [lessB_asymm h']; simp
  refine List.Perm.eq_of_pairwise (le := fun a b => (!lessB b a) = true) (fun a b _ _ h1 h2 => ?_) (List.pairwise_mergeSort tr to ss) ?_ ((List.mergeSort_perm ss _).trans hp)
  · simp only [Bool.not_eq_true'] at h1 h2
    by_cases h : a = b
    · exact h
    · rcases lessB_total h with h' | h'
      · rw [h'] at h2; cases h2
      · rw [h'] at h1; cases h1
  · unfold tkeys
    rw [List.pairwise_map]
    exact hT.imp fun {a b} h => by rw [lessB_asymm h]; rfl
theorem keysMaps (m : Nat) (w : World) : Calls Tryz.prog 309 #[.map (some m)] w fun e w' => e = .returned (.func (.func 376) #[] #[.pointer (some ⟨w.heap.size, 0, none⟩)]) ∧ w' = w.alloc (.cells #[.map (some m)] 365) :=
  callsIn_wide.1 (AnyZI.keys_in Tryz.keysL Fence.wide 3 trivial rfl (some m) w)
theorem collect_any (m Bm : Nat) (T : Tab) (l : List (Int × Value)) (w : World) (hl : MapL w m l) (hperm : (l.map (·.1)).Perm (tkeys T)) (hT : TOk T) (hc : w.cell? ⟨Bm, 0, none⟩ = some (.map (some m))) :
    Calls Tryz.prog 374 #[.func (.func 376) #[] #[.pointer (some ⟨Bm, 0, none⟩)]] w fun e w' => ∃ (v : Value) (ss : List Int), e = .returned v ∧ ss.Perm (tkeys T) ∧ w'.ownsRow w.heap.size 2 1 v ss.length (ss.map (Value.int .i64)) ∧ (v = .slice none 0 0 ↔ ss = []) ∧ Kept none' w w' := by
  have hR : ∀ p ∈ l, R64 p.1 := fun p hp => by
    have : p.1 ∈ tkeys T := hperm.mem_iff.1 (List.mem_map.2 ⟨p, hp, rfl⟩)
    obtain ⟨q, hq, e⟩ := List.mem_map.1 this
    rw [← e]; exact hT.key q hq
  have hlen : l.length = T.length := by
    have := hperm.length_eq
    simpa [tkeys] using this
  have h320 := hT.len
  obtain ⟨D, hown, hk, hsz⟩ := hl.owns hR (by unfold maxLen; omega)
  have hseq := AnyZI.keys_gives (ρ := Tryz.keysL_ren) { Tryz.keysL with } Fence.wide 2 trivial rfl (by omega) Bm m l.length D w (block_lt_of_cell hc) hc hown
  have hcol := AnyZI.collect_in Tryz.collectL Fence.wide 4 trivial trivial rfl (by omega) 376 #[.pointer (some ⟨Bm, 0, none⟩)] trivial (enters_of Tryz.func376 (by kernel_rfl) rfl) (fun ss => ss.Perm (intKeys D)) (Maps.size D) (by rw [hsz]; unfold maxLen; omega) (by rw [hsz]; omega) w hseq
  refine (callsIn_wide.1 hcol).mono fun e w' ⟨v, ss, h1, h2, h3, h4, h5⟩ => ⟨v, ss, h1, (h2.trans hk).trans hperm, h3, h4, .of_below h5⟩
theorem cmpLays_bef (blk off size : Nat) (w : World) : CmpLays1 Tryz.prog 305 #[] (Value.int .i64) befC blk off size w :=
  fun _ _ _ _ x y => before_any x y _
/-- v holds the list l, in memory of its own. -/
def KeysQ (w : World) (l : List Int) (e : Ending) (w' : World) : Prop :=
  ∃ v, e = .returned v ∧ w'.ownsRow w.heap.size 2 1 v l.length (ints l) ∧ (v = .slice none 0 0 ↔ l = []) ∧ Kept none' w w'
theorem sort_any (v : Value) (T : Tab) (hT : TOk T) (ss : List Int) (base : Nat) (w : World) (hp : ss.Perm (tkeys T)) (hown : w.ownsRow base 2 1 v ss.length (ints ss)) (hne : ss ≠ []) :
    Calls Tryz.prog 375 #[v, .func (.func 305) #[] #[]] w fun e w' => e = .returned (.tuple #[]) ∧ w'.ownsRow base 2 1 v ss.length (ints (tkeys T)) ∧ ∀ k, v.ownBlock = some k → Kept (one k) w w' := by
  obtain ⟨hlen, h0 | ⟨g, cap, cur, rfl, hb, hg, hn, hc, hs, ht⟩⟩ := hown
  · have : ss = [] := List.eq_nil_of_length_eq_zero h0.2
    exact absurd this hne
  · have hlt : g < w.heap.size := (Array.getElem?_eq_some_iff.1 hg).1
    have hl320 : ss.length ≤ 320 := by rw [hp.length_eq]; unfold tkeys; rw [List.length_map]; exact hT.len
    have ht' : cur.toList.take ss.length = ss.map (Value.int .i64) := by rw [Nat.mul_one] at ht; exact ht
    have hH := holds_of_blockI hg ht'
    have hcon := Any.slices_SortFunc_total Tryz.sortL (Value.int .i64) (fun _ => rfl) befC swo_bef 305 #[] g 0 cap ss.toArray w (enters_of Tryz.func305 (by kernel_rfl) rfl) (cmpLays_bef g 0 _ w) hH hlt (by simp; omega)
      (fun x y h1 h2 => by
        rw [ltOf_bef] at h1 h2
        by_cases h : x = y
        · exact h
        · rcases lessB_total h with h' | h'
          · rw [h'] at h1; cases h1
          · rw [h'] at h2; cases h2)
    have hcon' : Calls Tryz.prog 375 #[.slice (some ⟨g, 0, none⟩) ss.length cap, .func (.func 305) #[] #[]] w fun e w' => e = .returned (.tuple #[]) ∧ ∃ n os, w' = grow (putRow (Value.int .i64) (Sort.ahead w n) g 0 (tkeys T).toArray) os := by
      have h1 := hcon
      rw [List.toList_toArray, sorted_keys hT.rises hp] at h1
      exact h1
    refine hcon'.mono fun e w' ⟨he, n, os, hw⟩ => ⟨he, ?_, ?_⟩
    · rw [hw]
      exact ownsRow_sortedI hp.length_eq.symm hb hg hn hc hs
    · intro k hk
      simp [Value.ownBlock] at hk
      subst hk
      rw [hw]
      exact Kept.grown (grownBy_sortedI _) (fun k hk _ => by cases hk; rfl)
set_option maxHeartbeats 400000 in
theorem sorted_any (m Bm : Nat) (T : Tab) (l : List (Int × Value)) (w : World) (hl : MapL w m l) (hperm : (l.map (·.1)).Perm (tkeys T)) (hT : TOk T) (hc : w.cell? ⟨Bm, 0, none⟩ = some (.map (some m))) :
    Calls Tryz.prog 308 #[.func (.func 376) #[] #[.pointer (some ⟨Bm, 0, none⟩)], .func (.func 305) #[] #[]] w (KeysQ w (tkeys T)) := by
  have h1 := collect_any m Bm T l w hl hperm hT hc
  have H1 := Lib.hid h1
  have HT := Lib.hid hT
  clear h1 hl hperm hT hc
  go_enter Tryz.func308, Tryz.ntmps308
  go_wp2_with fail
  refine H1.out.mono ?_
  rintro e w1 ⟨v, ss, rfl, hp, hown, hnil, hk⟩
  by_cases hne : ss = []
  · subst hne
    obtain rfl : v = .slice none 0 0 := hnil.2 rfl
    have hT0 : tkeys T = [] := List.eq_nil_of_length_eq_zero (by have := hp.length_eq; simpa using this.symm)
    have hcon := AnyF.slices_SortFunc_none { Tryz.sortL with } none 0 (.func (.func 305) #[] #[]) w1
    have hcon' : Calls Tryz.prog 375 #[.slice none 0 0, .func (.func 305) #[] #[]] w1 fun e w' => e = .returned (.tuple #[]) ∧ w' = w1 := hcon
    have F : KeysQ w (tkeys T) (.returned (.slice none 0 0)) w1 := ⟨_, rfl, by rw [hT0]; exact World.ownsRow_nil _ _ _ _, by rw [hT0]; simp, hk⟩
    have F' := Lib.hid F
    have HC := Lib.hid hcon'
    clear F hcon hcon' hp hown hnil hT0 hk
    go_wp2_with fail
    refine HC.out.mono ?_
    rintro e w2 ⟨rfl, rfl⟩
    go_wp2_with fail
    go_ret
    exact F'.out
  · have hcon := sort_any v T HT.out ss w.heap.size w1 hp hown hne
    have F : ∀ w2 : World, w2.ownsRow w.heap.size 2 1 v ss.length (ints (tkeys T)) → (∀ k, v.ownBlock = some k → Kept (one k) w1 w2) → KeysQ w (tkeys T) (.returned v) w2 := fun w2 h1 h2 => by
      have hl : ss.length = (tkeys T).length := hp.length_eq
      refine ⟨v, rfl, by rw [← hl]; exact h1, ?_, ?_⟩
      · rw [hnil]
        constructor
        · intro h; exact absurd h hne
        · intro h; rw [h] at hl; exact List.eq_nil_of_length_eq_zero hl
      · rcases hown.2 with ⟨_, h0⟩ | ⟨g, cap, cur, rfl, hb, _⟩
        · exact absurd (List.eq_nil_of_length_eq_zero h0) hne
        · exact hk.new (h2 g rfl) (fun k hk e => by unfold one at e; omega)
    have F' := Lib.hid F
    have HC := Lib.hid hcon
    obtain ⟨a, cap, rfl⟩ := owns_slice hown
    clear F hcon hp hown hnil hk
    go_wp2_with fail
    refine HC.out.mono ?_
    rintro e w2 ⟨rfl, g1, g2⟩
    have G := F'.out w2 g1 g2
    have G' := Lib.hid G
    clear G g1 g2
    go_wp2_with fail
    go_ret
    exact G'.out
set_option maxHeartbeats 400000 in
theorem keys_any (B : Nat → Prop) (b m : Nat) (T : Tab) (w : World) (h : TabAt w B b m T) : Calls Tryz.prog 192 #[.pointer (some ⟨b, 0, none⟩)] w (KeysQ w (tkeys T)) := by
  have hcb := h.cell
  obtain ⟨l, hml, hperm, hcs⟩ := h.map
  have HT := Lib.hid h.ok
  have HM := Lib.hid hml
  have HP := Lib.hid hperm
  clear h hml hperm hcs
  go_enter Tryz.func192, Tryz.ntmps192
  go_wp2_with fail
  refine (keysMaps m w).mono ?_
  rintro e w1 ⟨rfl, rfl⟩
  have k1 : Kept none' w (w.alloc (.cells #[.map (some m)] 365)) := (Kept.refl _ _).alloc _
  go_wp2_with fail
  refine (sorted_any m w.heap.size T l _ (HM.out.kept k1 (fun h => h)) HP.out HT.out (by simp)).mono ?_
  rintro e w2 ⟨v, rfl, g1, g2, g3⟩
  obtain ⟨a, cap, rfl⟩ := owns_slice g1
  have F : KeysQ w (tkeys T) (.returned (.slice a (tkeys T).length cap)) w2 := ⟨_, rfl, owns_base g1 (by simp), g2, k1.trans g3⟩
  have F' := Lib.hid F
  clear F g1 g2 g3
  go_wp2_with fail
  go_ret
  exact F'.out
end Go.Proofs.YtmcoaebldobapaaGreatDoor
