/-
  Put, Get, Drop.
-/
import Derived.Test.YtglbkodmmogomaaGreatDoorF04
set_option linter.unusedVariables false
set_option linter.unusedSimpArgs false
namespace Go.Proofs.YtglbkodmmogomaaGreatDoor
open Go Go.RowKit
theorem look_mem {l : List (Int × Value)} {key : Int} {v : Value} (h : look l key = some v) : (key, v) ∈ l := by
  unfold look at h
  obtain ⟨p, hp, rfl⟩ := Option.map_eq_some_iff.1 h
  have h1 := List.find?_some hp
  have h2 := List.mem_of_find?_eq_some hp
  have : key = p.1 := by simpa using h1
  subst this
  exact h2
theorem look_none {l : List (Int × Value)} {key : Int} (h : look l key = none) : key ∉ l.map (·.1) := by
  unfold look at h
  intro hm
  obtain ⟨p, hp, rfl⟩ := List.mem_map.1 hm
  simp at h
  exact h _ _ hp rfl
theorem tab_look {w : World} {B : Nat → Prop} {T : Tab} {l : List (Int × Value)} (hT : Rises T) (hperm : (l.map (·.1)).Perm (tkeys T)) (hc : ∀ p ∈ l, ∃ c, (p.1, c) ∈ T ∧ CellIs w B p.2 c) (key : Int) :
    (look l key = none ∧ tget T key = none) ∨ ∃ v c, look l key = some v ∧ tget T key = some c ∧ CellIs w B v c := by
  cases hl : look l key with
  | none =>
    left
    refine ⟨rfl, tget_none.2 (fun hm => look_none hl (hperm.mem_iff.2 hm))⟩
  | some v =>
    right
    obtain ⟨c, h1, h2⟩ := hc _ (look_mem hl)
    exact ⟨v, c, rfl, (tget_some hT).2 h1, h2⟩
theorem mem_upd {key : Int} {v : Value} : ∀ {l : List (Int × Value)} {p : Int × Value}, (l.map (·.1)).Nodup → (p ∈ upd key v l ↔ p = (key, v) ∨ (p ∈ l ∧ p.1 ≠ key))
  | [], p, _ => by simp [upd]
  | q :: r, p, h => by
    simp only [List.map_cons, List.nodup_cons] at h
    unfold upd
    split
    · rename_i he
      have he' : key = q.1 := by simpa using he
      rw [List.mem_cons, List.mem_cons]
      constructor
      · rintro (h' | h')
        · exact .inl h'
        · exact .inr ⟨.inr h', fun e => h.1 (List.mem_map.2 ⟨p, h', by rw [e, he']⟩)⟩
      · rintro (h' | ⟨h' | h', hne⟩)
        · exact .inl h'
        · subst h'; exact absurd he'.symm hne
        · exact .inr h'
    · rename_i he
      have he' : q.1 ≠ key := fun e => he (by simp [e])
      rw [List.mem_cons, mem_upd h.2, List.mem_cons]
      constructor
      · rintro (h' | h' | h')
        · subst h'; exact .inr ⟨.inl rfl, he'⟩
        · exact .inl h'
        · exact .inr ⟨.inr h'.1, h'.2⟩
      · rintro (h' | ⟨h' | h', hne⟩)
        · exact .inr (.inl h')
        · exact .inl h'
        · exact .inr (.inr ⟨h', hne⟩)
theorem nodup_perm {l r : List Int} (h1 : l.Nodup) (h2 : r.Nodup) (h : ∀ x, x ∈ l ↔ x ∈ r) : l.Perm r := by
  rw [List.perm_iff_count]
  intro a
  rw [h1.count, h2.count]
  simp [h a]
def PutQ (w : World) (B : Nat → Prop) (b m : Nat) (T : Tab) (k : Int) (c : Cell) (e : Ending) (w' : World) : Prop :=
  e = .returned (.int .i64 (putE T k c.2.length)) ∧ TabAt w' B b m (putT T k c) ∧ Kept (one m) w w'
theorem TabAt.put {w w' : World} {B : Nat → Prop} {b m : Nat} {T : Tab} (h : TabAt w B b m T) {l : List (Int × Value)} (hl : MapL w m l) (hperm : (l.map (·.1)).Perm (tkeys T))
    (hc : ∀ p ∈ l, ∃ c, (p.1, c) ∈ T ∧ CellIs w B p.2 c) {k : Int} {c : Cell} {v : Value} (hl' : MapL w' m (upd k v l)) (hk : Kept (one m) w w') (hv : CellIs w' B v c) (hok : TOk (tput k c T)) : TabAt w' B b m (tput k c T) := by
  have hnd := hl.nodup
  refine ⟨h.hb, h.hm, hk.heap h.obj (fun e => ?_), ⟨_, hl', ?_, fun p hp => ?_⟩, hok⟩
  · have := h.obj
    rw [show b = m from e] at this
    obtain ⟨L, cl, hL, _⟩ := hl
    rw [hL.heap] at this; cases this
  · refine nodup_perm hl'.nodup h.ok.rises.tput.nodup fun x => ?_
    unfold tkeys
    simp only [List.mem_map]
    constructor
    · rintro ⟨p, hp, rfl⟩
      rcases (mem_upd hnd).1 hp with rfl | ⟨hp, hne⟩
      · exact ⟨(k, c), (mem_tput h.ok.rises).2 (.inl rfl), rfl⟩
      · obtain ⟨c', h1, _⟩ := hc p hp
        exact ⟨(p.1, c'), (mem_tput h.ok.rises).2 (.inr ⟨h1, hne⟩), rfl⟩
    · rintro ⟨p, hp, rfl⟩
      rcases (mem_tput h.ok.rises).1 hp with rfl | ⟨hp, hne⟩
      · exact ⟨(k, v), (mem_upd hnd).2 (.inl rfl), rfl⟩
      · have : p.1 ∈ l.map (·.1) := hperm.mem_iff.2 (List.mem_map.2 ⟨p, hp, rfl⟩)
        obtain ⟨q, hq, e⟩ := List.mem_map.1 this
        exact ⟨q, (mem_upd hnd).2 (.inr ⟨hq, by rw [e]; exact hne⟩), e⟩
  · rcases (mem_upd hnd).1 hp with rfl | ⟨hp, hne⟩
    · exact ⟨c, (mem_tput h.ok.rises).2 (.inl rfl), hv⟩
    · obtain ⟨c', h1, h2⟩ := hc p hp
      exact ⟨c', (mem_tput h.ok.rises).2 (.inr ⟨h1, hne⟩), h2.kept hk (.map hl B)⟩
theorem CellNew.cellIs {w w' : World} {B : Nat → Prop} {n' : Nat} {v' : Value} {c : Cell} (h : w'.ownsRow w.heap.size 2 1 v' n' (ints c.2)) (hB : ∀ k, w.heap.size ≤ k → B k) : CellIs w' B (.agg #[.int .i64 c.1, v']) c :=
  ⟨v', rfl, Reads.of_owns h, fun _ hb => hB _ (owns_blk h hb).1⟩
set_option maxRecDepth 100000 in
set_option maxHeartbeats 800000 in
theorem put_any (B : Nat → Prop) (b m : Nat) (T : Tab) (k : Int) (c : Cell) (v : Value) (w : World) (h : TabAt w B b m T) (hB : ∀ k, w.heap.size ≤ k → B k) (hk : R64 k) (hc1 : R64 c.1) (hc2 : ∀ x ∈ c.2, R64 x) (hlen : c.2.length ≤ 17592186044416) (hr : Reads w 1 v (ints c.2)) :
    Calls Tryz.prog 112 #[.pointer (some ⟨b, 0, none⟩), .int .i64 k, .agg #[.int .i64 c.1, v]] w (PutQ w B b m T k c) := by
  obtain ⟨a, n, cap, rfl, hn, hcap, hl, hp, hcell⟩ := hr.slice
  have hn' : c.2.length = n := by simpa using hl
  have hcb := h.cell
  have hbl := block_lt_of_cell hcb
  simp only [] at hbl
  have HBB := Lib.hid hB
  clear hcell hp hl hB
  by_cases h16 : 16 < n
  · have hE : putE T k c.2.length = 2 := by unfold putE; rw [if_pos (by omega)]
    have hT : putT T k c = T := by unfold putT; rw [hE]; rfl
    have E1 := Lib.hid hE
    have E2 := Lib.hid hT
    have E3 := Lib.hid hn'
    have H := Lib.hid h
    clear hE hT hn' h hr hcb
    go_enter Tryz.func112, Tryz.ntmps112
    go_wp2
    go_ret
    refine ⟨by rw [E1.out]; rfl, by rw [E2.out]; exact H.out.pure ((Kept.refl _ _).alloc _), (Kept.refl _ _).alloc _⟩
  · obtain ⟨l, hml, hperm, hcs⟩ := h.map
    have hz := Tryz.zeroValue109
    have hk1 : Kept none' w (w.alloc (.cells #[.int .i64 c.1, .slice a n cap] 109)) := (Kept.refl _ _).alloc _
    have hlk := (hml.kept hk1 (fun h => h)).lookup (P := Tryz.prog) Tryz.underlying113 Tryz.underlying2 k (hz _)
    have hlook := tab_look h.ok.rises hperm hcs k
    have H := Lib.hid h
    have HM := Lib.hid hml
    have HP := Lib.hid hperm
    have HC := Lib.hid hcs
    have HR := Lib.hid hr
    have E3 := Lib.hid hn'
    clear h hml hperm hcs hr hn'
    rcases hlook with ⟨h1, h2⟩ | ⟨v0, c0, h1, h2, lv, rfl, hlv⟩
    · rw [h1] at hlk
      simp only [Option.getD_none, Option.isSome_none] at hlk
      have H2 := Lib.hid h2
      clear h1 h2 hz hk1
      by_cases h40 : 40 ≤ tmany T (grp k)
      · have hE : putE T k c.2.length = 7 := by unfold putE; rw [if_neg (by rw [E3.out]; exact h16), if_pos ⟨H2.out, h40⟩]
        have E1 := Lib.hid hE
        have h40' : (40 : Int) ≤ ((tmany T (grp k) : Nat) : Int) := by omega
        clear hE
        go_enter Tryz.func112, Tryz.ntmps112
        go_wp2_with fail
        refine (of_any _ _).mono ?_; rintro e w' ⟨rfl, rfl⟩
        go_wp2_with fail
        refine (many_any B b m T _ _ (H.out.pure (((Kept.refl _ _).alloc _).alloc _))).mono ?_; rintro e w1 ⟨rfl, k1⟩
        go_wp2_with fail
        go_ret
        have k2 : Kept none' w w1 := (((Kept.refl _ _).alloc _).alloc _).trans k1
        refine ⟨by rw [E1.out]; rfl, ?_, k2.pure⟩
        unfold putT
        rw [if_neg (by rw [E1.out]; decide)]
        exact H.out.pure k2
      · have h40' : ¬ (40 : Int) ≤ ((tmany T (grp k) : Nat) : Int) := by omega
        go_enter Tryz.func112, Tryz.ntmps112
        go_wp2_with fail
        refine (of_any _ _).mono ?_; rintro e w' ⟨rfl, rfl⟩
        go_wp2_with fail
        refine (many_any B b m T _ _ (H.out.pure (((Kept.refl _ _).alloc _).alloc _))).mono ?_; rintro e w0 ⟨rfl, k0⟩
        go_wp2_with fail
        obtain ⟨W0, hW0⟩ : ∃ W0, w0 = W0 := ⟨_, rfl⟩
        have hs : w.heap.size + 2 ≤ W0.heap.size := by rw [← hW0]; have := k0.size; simpa using this
        have hk0 : Kept none' w W0 := by rw [← hW0]; (exact (((Kept.refl _ _).alloc _).alloc _).trans k0)
        have c0 : W0.cell? ⟨w.heap.size, 0, none⟩ = some (.int .i64 c.1) := by rw [← hW0]; (exact k0.cell (fun h => h) (by simp))
        have c1 : W0.cell? ⟨w.heap.size, 1, none⟩ = some (.slice a n cap) := by rw [← hW0]; (exact k0.cell (fun h => h) (by simp))
        have c2 : W0.cell? ⟨b, 0, none⟩ = some (.map (some m)) := hk0.cell (p := ⟨b, 0, none⟩) (fun h => h) hcb
        have hbl2 : b < W0.heap.size := by omega
        have hbl3 : w.heap.size < W0.heap.size := by omega
        rw [hW0]; clear hW0 hlk hcb
        refine wp_region_eager [0, 1, 2, 3, 4, 5, 6, 7] (fun W => Kept none' W0 W) (by kernel_rfl) (by kernel_rfl) rfl (Kept.refl _ _).drew ?_
        simp only [List.map_cons, List.map_nil, List.getElem?_toArray, List.getElem?_cons_zero, List.getElem?_cons_succ, Option.getD_some]
        iterate 6 (apply wpL_float rfl rfl; (intro W hW; have hc := hW.cq; go_simp; rfl); go_frame)
        apply wpL_loud rfl rfl
        intro K hK
        go_wp2_with fail
        refine (own_any _ _ (ints c.2) _ (HR.out.pure hk0.drew) (ints_one _) (by simpa using hlen)).mono ?_
        rintro e w1 ⟨v', n', rfl, g1, g2, g3⟩
        have k1 : Kept none' W0 w1 := g3.drew_left
        have k2 : Kept none' w w1 := hk0.trans k1
        obtain ⟨w2, hup, hml2, k3, hs3⟩ := (HM.out.kept k2 (fun h => h)).update (P := Tryz.prog) Tryz.underlying113 Tryz.underlying2 k (.agg #[.int .i64 c.1, v'])
        have hfin : PutQ w B b m T k c (.returned (.int .i64 0)) w2 := by
          have hok : TOk (tput k c T) := H.out.ok.tput hk ⟨hc1, hc2, by rw [E3.out]; omega⟩ (.inr (by omega))
          have hci : CellIs w1 B (.agg #[.int .i64 c.1, v']) c := CellNew.cellIs (w := W0.drew) g1 (fun k hk => HBB.out k (Nat.le_trans (Nat.le_trans (Nat.le_add_right _ 2) hs) hk))
          have hE : putE T k c.2.length = 0 := by unfold putE; rw [if_neg (by rw [E3.out]; exact h16), if_neg (fun h => h40 h.2)]
          refine ⟨by rw [hE], ?_, k2.pure.trans k3⟩
          unfold putT
          rw [if_pos hE]
          refine (H.out.pure k2).put (HM.out.kept k2 (fun h => h)) HP.out (fun p hp => ?_) hml2 k3 (hci.kept k3 (.map (HM.out.kept k2 (fun h => h)) B)) hok
          obtain ⟨c', h1, h2⟩ := HC.out p hp
          exact ⟨c', h1, h2.kept k2 (.none _ _)⟩
        have F := Lib.hid hfin
        clear hfin hml2 k3 g1 g2 g3
        go_wp2_with fail
        refine hK _ _ (fun _ => k1) ?_
        clear hK
        apply wpL_loud rfl rfl
        intro K2 hK2
        go_wp2_with fail
        refine hK2 _ _ (fun h => absurd rfl h) (wpL_bar (by kernel_rfl) ?_)
        clear hK2
        go_wp2_with fail
        go_ret
        exact F.out
    · rw [h1] at hlk
      simp only [Option.getD_some, Option.isSome_some] at hlk
      obtain ⟨a2, n2, cap2, rfl, hj⟩ := hlv.1.slice
      clear hj
      have H2 := Lib.hid h2
      clear h1 h2 hz hk1 hlv
      go_enter Tryz.func112, Tryz.ntmps112
      go_wp2_with fail
      obtain ⟨W0, hW0⟩ : ∃ W0, ((w.alloc (.cells #[.int .i64 c.1, .slice a n cap] 109)).alloc (.cells #[.int .i64 c0.1, .slice a2 n2 cap2] 109)) = W0 := ⟨_, rfl⟩
      have hs : w.heap.size + 2 ≤ W0.heap.size := by rw [← hW0]; simp
      have hk0 : Kept none' w W0 := by rw [← hW0]; (exact ((Kept.refl _ _).alloc _).alloc _)
      have d0 : W0.cell? ⟨w.heap.size, 0, none⟩ = some (.int .i64 c.1) := by rw [← hW0]; simp
      have d1 : W0.cell? ⟨w.heap.size, 1, none⟩ = some (.slice a n cap) := by rw [← hW0]; simp
      have c2 : W0.cell? ⟨b, 0, none⟩ = some (.map (some m)) := hk0.cell (p := ⟨b, 0, none⟩) (fun h => h) hcb
      have hbl2 : b < W0.heap.size := by omega
      have hbl3 : w.heap.size < W0.heap.size := by omega
      rw [hW0]; clear hW0 hlk hcb
      refine wp_region_eager [0, 1, 2, 3, 4, 5, 6, 7] (fun W => Kept none' W0 W) (by kernel_rfl) (by kernel_rfl) rfl (Kept.refl _ _).drew ?_
      simp only [List.map_cons, List.map_nil, List.getElem?_toArray, List.getElem?_cons_zero, List.getElem?_cons_succ, Option.getD_some]
      iterate 6 (apply wpL_float rfl rfl; (intro W hW; have hc := hW.cq; go_simp; rfl); go_frame)
      apply wpL_loud rfl rfl
      intro K hK
      go_wp2_with fail
      refine (own_any _ _ (ints c.2) _ (HR.out.pure hk0.drew) (ints_one _) (by simpa using hlen)).mono ?_
      rintro e w1 ⟨v', n', rfl, g1, g2, g3⟩
      have k1 : Kept none' W0 w1 := g3.drew_left
      have k2 : Kept none' w w1 := hk0.trans k1
      obtain ⟨w2, hup, hml2, k3, hs3⟩ := (HM.out.kept k2 (fun h => h)).update (P := Tryz.prog) Tryz.underlying113 Tryz.underlying2 k (.agg #[.int .i64 c.1, v'])
      have hfin : PutQ w B b m T k c (.returned (.int .i64 0)) w2 := by
        have hok : TOk (tput k c T) := H.out.ok.tput hk ⟨hc1, hc2, by rw [E3.out]; omega⟩ (.inl (by rw [H2.out]; simp))
        have hci : CellIs w1 B (.agg #[.int .i64 c.1, v']) c := CellNew.cellIs (w := W0.drew) g1 (fun k hk => HBB.out k (Nat.le_trans (Nat.le_trans (Nat.le_add_right _ 2) hs) hk))
        have hE : putE T k c.2.length = 0 := by unfold putE; rw [if_neg (by rw [E3.out]; exact h16), if_neg (fun h => by rw [H2.out] at h; cases h.1)]
        refine ⟨by rw [hE], ?_, k2.pure.trans k3⟩
        unfold putT
        rw [if_pos hE]
        refine (H.out.pure k2).put (HM.out.kept k2 (fun h => h)) HP.out (fun p hp => ?_) hml2 k3 (hci.kept k3 (.map (HM.out.kept k2 (fun h => h)) B)) hok
        obtain ⟨c', h1, h2⟩ := HC.out p hp
        exact ⟨c', h1, h2.kept k2 (.none _ _)⟩
      have F := Lib.hid hfin
      clear hfin hml2 k3 g1 g2 g3
      go_wp2_with fail
      refine hK _ _ (fun _ => k1) ?_
      clear hK
      apply wpL_loud rfl rfl
      intro K2 hK2
      go_wp2_with fail
      refine hK2 _ _ (fun h => absurd rfl h) (wpL_bar (by kernel_rfl) ?_)
      clear hK2
      go_wp2_with fail
      go_ret
      exact F.out
def GetQ (w : World) (T : Tab) (k : Int) (e : Ending) (w' : World) : Prop :=
  ∃ lv n', e = .returned (.tuple #[.agg #[.int .i64 ((tget T k).getD (0, [])).1, lv], .bool (tget T k).isSome]) ∧ w'.ownsRow w.heap.size 2 1 lv n' (ints ((tget T k).getD (0, [])).2) ∧ n' = ((tget T k).getD (0, [])).2.length ∧ Kept none' w w'
set_option maxRecDepth 100000 in
set_option maxHeartbeats 800000 in
theorem get_any (B : Nat → Prop) (b m : Nat) (T : Tab) (k : Int) (w : World) (h : TabAt w B b m T) :
    Calls Tryz.prog 60 #[.pointer (some ⟨b, 0, none⟩), .int .i64 k] w (GetQ w T k) := by
  have hcb := h.cell
  have hbl := block_lt_of_cell hcb
  simp only [] at hbl
  obtain ⟨l, hml, hperm, hcs⟩ := h.map
  have hz := Tryz.zeroValue109
  have hk1 : Kept none' w (w.alloc (.cells #[.int .i64 0, .slice none 0 0] 109)) := (Kept.refl _ _).alloc _
  have hlk := (hml.kept hk1 (fun h => h)).lookup (P := Tryz.prog) Tryz.underlying113 Tryz.underlying2 k (hz _)
  have hlook := tab_look h.ok.rises hperm hcs k
  have HT := Lib.hid h
  clear h hml hperm hcs
  rcases hlook with ⟨h1, h2⟩ | ⟨v0, c0, h1, h2, lv, rfl, hlv⟩
  · rw [h1] at hlk
    simp only [Option.getD_none, Option.isSome_none] at hlk
    have H2 := Lib.hid h2
    clear h1 h2 hz hk1
    go_enter Tryz.func60, Tryz.ntmps60
    go_wp2_with fail
    obtain ⟨W0, hW0⟩ : ∃ W0, ((w.alloc (.cells #[.int .i64 0, .slice none 0 0] 109)).alloc (.cells #[.int .i64 0, .slice none 0 0] 109)) = W0 := ⟨_, rfl⟩
    have hs : w.heap.size + 2 ≤ W0.heap.size := by rw [← hW0]; simp
    have hbl3 : w.heap.size < W0.heap.size := by omega
    have hk0 : Kept none' w W0 := by rw [← hW0]; exact ((Kept.refl _ _).alloc _).alloc _
    have z0 : W0.cell? ⟨w.heap.size, 0, none⟩ = some (.int .i64 0) := by rw [← hW0]; simp
    have z1 : W0.cell? ⟨w.heap.size, 1, none⟩ = some (.slice none 0 0) := by rw [← hW0]; simp
    have f0 : W0.frozen? ⟨w.heap.size, 0, none⟩ = false := by rw [← hW0]; simp
    have f1 : W0.frozen? ⟨w.heap.size, 1, none⟩ = false := by rw [← hW0]; simp
    rw [hW0]; clear hW0 hlk hcb
    refine (own_any _ _ (ints []) _ (Reads.nil _ _) (ints_one _) (by simp)).mono ?_
    rintro e w1 ⟨v', n', rfl, g1, g2, k1⟩
    obtain ⟨a', cap', rfl⟩ := owns_slice g1
    have q0 := k1.cell (p := ⟨w.heap.size, 0, none⟩) (fun h => h) z0
    have q1 := k1.cell (p := ⟨w.heap.size, 1, none⟩) (fun h => h) z1
    have hf := k1.fq
    have F : GetQ w T k (.returned (.tuple #[.agg #[.int .i64 0, .slice a' n' cap'], .bool false])) ((w1.setCell ⟨w.heap.size, 0, none⟩ (.int .i64 0)).setCell ⟨w.heap.size, 1, none⟩ (.slice a' n' cap')) := by
      refine ⟨_, n', by rw [H2.out]; rfl, ?_, by rw [H2.out]; simpa using g2, ((hk0.trans k1).setCell (p := ⟨w.heap.size, 0, none⟩) (.inr (by simp)) _).setCell (p := ⟨w.heap.size, 1, none⟩) (.inr (by simp)) _⟩
      rw [H2.out]
      refine owns_base (base := W0.heap.size) ?_ (by omega)
      exact (((Kept.refl (fun k => k < W0.heap.size) w1).setCell (p := ⟨w.heap.size, 0, none⟩) (.inl (by simp; omega)) _).setCell (p := ⟨w.heap.size, 1, none⟩) (.inl (by simp; omega)) _).owns g1
        (fun k hk h => by have := (g1.lt k hk).1; omega)
    have F' := Lib.hid F
    clear F g1 g2 hk0
    go_wp2_with fail
    refine bodyPost_ret (v := .tuple #[.agg #[.int .i64 0, .slice a' n' cap'], .bool false]) (by simp [results, Tryz.results60, go_sem, q0, q1]) rfl F'.out
  · rw [h1] at hlk
    simp only [Option.getD_some, Option.isSome_some] at hlk
    obtain ⟨a2, n2, cap2, rfl, hj⟩ := hlv.1.slice
    clear hj
    have hc2 := (HT.out.ok.cell _ ((tget_some HT.out.ok.rises).1 h2)).2.2
    have HL := Lib.hid hlv.1
    clear hlv
    have H2 := Lib.hid h2
    clear h1 h2 hz hk1
    go_enter Tryz.func60, Tryz.ntmps60
    go_wp2_with fail
    obtain ⟨W0, hW0⟩ : ∃ W0, ((w.alloc (.cells #[.int .i64 0, .slice none 0 0] 109)).alloc (.cells #[.int .i64 c0.1, .slice a2 n2 cap2] 109)) = W0 := ⟨_, rfl⟩
    have hs : w.heap.size + 2 ≤ W0.heap.size := by rw [← hW0]; simp
    have hbl3 : w.heap.size < W0.heap.size := by omega
    have hk0 : Kept none' w W0 := by rw [← hW0]; exact ((Kept.refl _ _).alloc _).alloc _
    have z0 : W0.cell? ⟨w.heap.size, 0, none⟩ = some (.int .i64 0) := by rw [← hW0]; simp
    have z1 : W0.cell? ⟨w.heap.size, 1, none⟩ = some (.slice none 0 0) := by rw [← hW0]; simp
    have f0 : W0.frozen? ⟨w.heap.size, 0, none⟩ = false := by rw [← hW0]; simp
    have f1 : W0.frozen? ⟨w.heap.size, 1, none⟩ = false := by rw [← hW0]; simp
    rw [hW0]; clear hW0 hlk hcb
    refine (own_any _ _ (ints c0.2) _ (HL.out.pure hk0) (ints_one _) (by simp; omega)).mono ?_
    rintro e w1 ⟨v', n', rfl, g1, g2, k1⟩
    obtain ⟨a', cap', rfl⟩ := owns_slice g1
    have q0 := k1.cell (p := ⟨w.heap.size, 0, none⟩) (fun h => h) z0
    have q1 := k1.cell (p := ⟨w.heap.size, 1, none⟩) (fun h => h) z1
    have hf := k1.fq
    have F : GetQ w T k (.returned (.tuple #[.agg #[.int .i64 c0.1, .slice a' n' cap'], .bool true])) ((w1.setCell ⟨w.heap.size, 0, none⟩ (.int .i64 c0.1)).setCell ⟨w.heap.size, 1, none⟩ (.slice a' n' cap')) := by
      refine ⟨_, n', by rw [H2.out]; rfl, ?_, by rw [H2.out]; simpa using g2, ((hk0.trans k1).setCell (p := ⟨w.heap.size, 0, none⟩) (.inr (by simp)) _).setCell (p := ⟨w.heap.size, 1, none⟩) (.inr (by simp)) _⟩
      rw [H2.out]
      refine owns_base (base := W0.heap.size) ?_ (by omega)
      exact (((Kept.refl (fun k => k < W0.heap.size) w1).setCell (p := ⟨w.heap.size, 0, none⟩) (.inl (by simp; omega)) _).setCell (p := ⟨w.heap.size, 1, none⟩) (.inl (by simp; omega)) _).owns g1
        (fun k hk h => by have := (g1.lt k hk).1; omega)
    have F' := Lib.hid F
    clear F g1 g2 hk0
    go_wp2_with fail
    refine bodyPost_ret (v := .tuple #[.agg #[.int .i64 c0.1, .slice a' n' cap'], .bool true]) (by simp [results, Tryz.results60, go_sem, q0, q1]) rfl F'.out
theorem mem_del {key : Int} {l : List (Int × Value)} {p : Int × Value} : p ∈ del key l ↔ p ∈ l ∧ p.1 ≠ key := by
  unfold del; simp; intro _; exact ⟨fun h e => h e.symm, fun h e => h e.symm⟩
theorem TabAt.drop {w w' : World} {B : Nat → Prop} {b m : Nat} {T : Tab} (h : TabAt w B b m T) {l : List (Int × Value)} (hl : MapL w m l) (hperm : (l.map (·.1)).Perm (tkeys T))
    (hc : ∀ p ∈ l, ∃ c, (p.1, c) ∈ T ∧ CellIs w B p.2 c) {k : Int} (hl' : MapL w' m (del k l)) (hk : Kept (one m) w w') : TabAt w' B b m (tdrop k T) := by
  refine ⟨h.hb, h.hm, hk.heap h.obj (fun e => ?_), ⟨_, hl', ?_, fun p hp => ?_⟩, h.ok.tdrop k⟩
  · have := h.obj
    rw [show b = m from e] at this
    obtain ⟨L, cl, hL, _⟩ := hl
    rw [hL.heap] at this; cases this
  · refine nodup_perm hl'.nodup h.ok.rises.tdrop.nodup fun x => ?_
    unfold tkeys
    simp only [List.mem_map]
    constructor
    · rintro ⟨p, hp, rfl⟩
      obtain ⟨hp, hne⟩ := mem_del.1 hp
      obtain ⟨c', h1, _⟩ := hc p hp
      exact ⟨(p.1, c'), mem_tdrop.2 ⟨h1, hne⟩, rfl⟩
    · rintro ⟨p, hp, rfl⟩
      obtain ⟨hp, hne⟩ := mem_tdrop.1 hp
      have : p.1 ∈ l.map (·.1) := hperm.mem_iff.2 (List.mem_map.2 ⟨p, hp, rfl⟩)
      obtain ⟨q, hq, e⟩ := List.mem_map.1 this
      exact ⟨q, mem_del.2 ⟨hq, by rw [e]; exact hne⟩, e⟩
  · obtain ⟨hp, hne⟩ := mem_del.1 hp
    obtain ⟨c', h1, h2⟩ := hc p hp
    exact ⟨c', mem_tdrop.2 ⟨h1, hne⟩, h2.kept hk (.map hl B)⟩
def DropQ (w : World) (B : Nat → Prop) (b m : Nat) (T : Tab) (k : Int) (e : Ending) (w' : World) : Prop :=
  e = .returned (.bool (tget T k).isSome) ∧ TabAt w' B b m (tdrop k T) ∧ Kept (one m) w w'
set_option maxRecDepth 100000 in
set_option maxHeartbeats 800000 in
theorem drop_any (B : Nat → Prop) (b m : Nat) (T : Tab) (k : Int) (w : World) (h : TabAt w B b m T) :
    Calls Tryz.prog 114 #[.pointer (some ⟨b, 0, none⟩), .int .i64 k] w (DropQ w B b m T k) := by
  have hcb := h.cell
  have hbl := block_lt_of_cell hcb
  simp only [] at hbl
  obtain ⟨l, hml, hperm, hcs⟩ := h.map
  have hz := Tryz.zeroValue109
  have hlk := hml.lookup (P := Tryz.prog) Tryz.underlying113 Tryz.underlying2 k (hz _)
  have hlook := tab_look h.ok.rises hperm hcs k
  have HT := Lib.hid h
  rcases hlook with ⟨h1, h2⟩ | ⟨v0, c0, h1, h2, lv, rfl, hlv⟩
  · rw [h1] at hlk
    simp only [Option.getD_none, Option.isSome_none] at hlk
    have hk1 : Kept none' w (w.alloc (.cells #[.int .i64 0, .slice none 0 0] 109)) := (Kept.refl _ _).alloc _
    obtain ⟨w2, hdel, hml2, k2, hs2⟩ := (hml.kept hk1 (fun h => h)).delete (P := Tryz.prog) Tryz.underlying113 Tryz.underlying2 k
    have F : DropQ w B b m T k (.returned (.bool false)) w2 := ⟨by rw [h2]; rfl, (h.pure hk1).drop (hml.kept hk1 (fun h => h)) hperm (fun p hp => (hcs p hp).imp fun c hc => ⟨hc.1, hc.2.kept hk1 (.none _ _)⟩) hml2 k2, hk1.pure.trans k2⟩
    have F' := Lib.hid F
    clear F h hml hperm hcs h1 h2 hz hk1 k2 hs2 hml2
    go_enter Tryz.func114, Tryz.ntmps114
    go_wp2_with fail
    go_ret
    exact F'.out
  · rw [h1] at hlk
    simp only [Option.getD_some, Option.isSome_some] at hlk
    obtain ⟨a2, n2, cap2, rfl, hj⟩ := hlv.1.slice
    clear hj
    have hk1 : Kept none' w (w.alloc (.cells #[.int .i64 c0.1, .slice a2 n2 cap2] 109)) := (Kept.refl _ _).alloc _
    obtain ⟨w2, hdel, hml2, k2, hs2⟩ := (hml.kept hk1 (fun h => h)).delete (P := Tryz.prog) Tryz.underlying113 Tryz.underlying2 k
    have F : DropQ w B b m T k (.returned (.bool true)) w2 := ⟨by rw [h2]; rfl, (h.pure hk1).drop (hml.kept hk1 (fun h => h)) hperm (fun p hp => (hcs p hp).imp fun c hc => ⟨hc.1, hc.2.kept hk1 (.none _ _)⟩) hml2 k2, hk1.pure.trans k2⟩
    have F' := Lib.hid F
    clear F h hml hperm hcs h1 h2 hz hk1 k2 hs2 hml2 hlv
    go_enter Tryz.func114, Tryz.ntmps114
    go_wp2_with fail
    go_ret
    exact F'.out
end Go.Proofs.YtglbkodmmogomaaGreatDoor
