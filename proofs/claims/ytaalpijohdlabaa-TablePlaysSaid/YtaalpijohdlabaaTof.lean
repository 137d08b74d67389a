/-
  A map that is ranged over while keys that were met are deleted: maps.DeleteFunc(85).
-/
import Derived.Test.YtaalpijohdlabaaCop
import Derived.Test.YtaalpijohdlabaaRefA
namespace Go.Proofs.Ytaalpijohdlabaa
open Go Go.RowKit
theorem ent_inj {s t : T3} (h : ent s = ent t) : kv s = kv t := by
  obtain ⟨a, b, c⟩ := s
  obtain ⟨a', b', c'⟩ := t
  simp only [ent, MapEntry.mk.injEq, Value.int.injEq] at h
  simp only [kv]
  rw [h.1.2, h.2.1]
theorem MapL.inj {w : World} {m : Nat} {l l' : List (Int × Value)} (h : MapL w m l) (k : MapL w m l') : l = l' := by
  obtain ⟨L, clock, h1, rfl⟩ := h
  obtain ⟨L', clock', h2, rfl⟩ := k
  have e := h1.heap.symm.trans h2.heap
  injection e with e
  injection e with e1 e2
  have e3 : L.map ent = L'.map ent := by simpa using e1
  clear h1 h2 e1 e2
  induction L generalizing L' with
  | nil => cases L' with | nil => rfl | cons t r => simp at e3
  | cons t r ih =>
    cases L' with
    | nil => simp at e3
    | cons t' r' =>
      simp only [List.map_cons, List.cons.injEq] at e3
      rw [List.map_cons, List.map_cons, ent_inj e3.1, ih _ e3.2]
theorem del_none {key : Int} {l : List (Int × Value)} (h : key ∉ l.map (·.1)) : del key l = l := by
  unfold del
  rw [List.filter_eq_self]
  intro p hp
  have : key ≠ p.1 := fun e => h (List.mem_map.2 ⟨p, hp, e.symm⟩)
  simpa using this
/-- What is left of the table when those of 'left' are still to come. -/
def keepB (f : Int → Bool) (left : List (Int × Value)) (p : Int × Cell) : Bool := (left.map (·.1)).contains p.1 || !f p.1
theorem keepB_next {f : Int → Bool} {left left' : List (Int × Value)} {p : Int × Value} {T : Tab} (hp : left.Perm (p :: left')) (hnd : (left.map (·.1)).Nodup) (hf : f p.1 = true) : tdrop p.1 (T.filter (keepB f left)) = T.filter (keepB f left') := by
  refine tdrop_filter _ _ fun q _ => ?_
  have h1 : (p.1 :: left'.map (·.1)).Nodup := by have := (hp.map (·.1)).nodup_iff.1 hnd; simpa using this
  have h2 : ∀ x, x ∈ left.map (·.1) ↔ x = p.1 ∨ x ∈ left'.map (·.1) := fun x => by rw [(hp.map (·.1)).mem_iff]; simp
  unfold keepB
  by_cases e : q.1 = p.1
  · have h3 : q.1 ∉ left'.map (·.1) := by rw [e]; exact (List.nodup_cons.1 h1).1
    have h4 : (left'.map (·.1)).contains q.1 = false := by rw [Bool.eq_false_iff]; intro h; exact h3 (List.contains_iff_mem.1 h)
    rw [h4, e, hf]; simp
  · have h5 : (left.map (·.1)).contains q.1 = (left'.map (·.1)).contains q.1 := Bool.eq_iff_iff.2 (by rw [List.contains_iff_mem, List.contains_iff_mem, h2]; simp [e])
    rw [h5, show (q.1 != p.1) = true from bne_iff_ne.2 e, Bool.and_true]
theorem keepB_same {f : Int → Bool} {left left' : List (Int × Value)} {p : Int × Value} {T : Tab} (hp : left.Perm (p :: left')) (hf : f p.1 = false) : T.filter (keepB f left) = T.filter (keepB f left') := by
  have h2 : ∀ x, x ∈ left.map (·.1) ↔ x = p.1 ∨ x ∈ left'.map (·.1) := fun x => by rw [(hp.map (·.1)).mem_iff]; simp
  refine List.filter_congr fun q _ => ?_
  unfold keepB
  by_cases e : q.1 = p.1
  · rw [e, hf]; simp
  · have h5 : (left.map (·.1)).contains q.1 = (left'.map (·.1)).contains q.1 := Bool.eq_iff_iff.2 (by rw [List.contains_iff_mem, List.contains_iff_mem, h2]; simp [e])
    rw [h5]
theorem keepB_start {f : Int → Bool} {l : List (Int × Value)} {T : Tab} (h : (l.map (·.1)).Perm (tkeys T)) : T.filter (keepB f l) = T := by
  rw [List.filter_eq_self]
  intro p hp
  have : p.1 ∈ l.map (·.1) := h.mem_iff.2 (List.mem_map.2 ⟨p, hp, rfl⟩)
  unfold keepB
  rw [List.contains_iff_mem.2 this]
  rfl
theorem keepB_end {f : Int → Bool} {T : Tab} : T.filter (keepB f []) = T.filter (fun p => !f p.1) := rfl
structure DlInv (B : Nat → Prop) (w wr : World) (f : Int → Bool) (R b m : Nat) (T : Tab) (left : List (Int × Value)) : Prop where
  it : ∃ l2, IterL wr R m l2 left
  tab : TabAt wr B b m (T.filter (keepB f left))
  kept : Kept (one m) w wr
  hR : w.heap.size ≤ R
theorem DlInv.next {B : Nat → Prop} {w wr w4 w5 : World} {f : Int → Bool} {R b m : Nat} {T : Tab} {left left' l2 : List (Int × Value)} (h : DlInv B w wr f R b m T left) (hit : IterL w4 R m l2 left') (hk : Kept (one R) wr w4) (h5 : Kept none' w4 w5) :
    IterL w5 R m l2 left' ∧ TabAt w5 B b m (T.filter (keepB f left)) ∧ Kept (one m) w w5 := by
  obtain ⟨l, hi⟩ := h.it
  have k4 : Kept (one m) w w4 := h.kept.new hk (fun i hi e => by have := h.hR; unfold one at e; omega)
  exact ⟨hit.kept h5 (fun h => h) (fun h => h), (h.tab.kept hk (.iter hi _) (fun e => hi.ne e.symm)).pure h5, k4.trans h5.pure⟩
def DelQ (B : Nat → Prop) (w : World) (b m : Nat) (T : Tab) (e : Ending) (w' : World) : Prop := e = .returned (.tuple #[]) ∧ TabAt w' B b m T ∧ Kept (one m) w w'
end Go.Proofs.Ytaalpijohdlabaa
/-
  maps.DeleteFunc(85): its walk.
-/
namespace Go.Proofs.Ytaalpijohdlabaa
open Go Go.RowKit
set_option maxRecDepth 100000 in
set_option maxHeartbeats 1000000 in
theorem delf_any (B : Nat → Prop) (b m : Nat) (T : Tab) (f : Int → Bool) (cap : Value) (w : World) (h : TabAt w B b m T)
    (hcl : ∀ (k acc : Int) (la : Option Addr) (ln lc : Nat) (W : World), Kept (one m) w W → Calls Try.prog 86 #[.int .i64 k, .agg #[.int .i64 acc, .slice la ln lc], cap] W (Gives W (.bool (f k)))) :
    Calls Try.prog 85 #[.map (some m), .func (.func 86) #[] #[cap]] w (DelQ B w b m (T.filter fun p => !f p.1)) := by
  obtain ⟨l, hl, hperm, hcs⟩ := h.map
  obtain ⟨w0, hrun, hit, hk0, hs0⟩ := hl.range (P := Try.prog) Try.underlying87
  have I0 : DlInv B w w0 f w.heap.size b m T l := ⟨⟨l, hit⟩, by rw [keepB_start hperm]; exact h.pure hk0, hk0.pure, Nat.le_refl _⟩
  have II := Lib.hid I0
  have HC := Lib.hid hcl
  have HM := Lib.hid hl.lt
  clear hit hk0 hs0 hperm hcs hl h I0 hcl
  go_enter Try.func85, Try.ntmps85
  go_wp2_with fail
  obtain ⟨R, hR⟩ : ∃ R, w.heap.size = R := ⟨_, rfl⟩
  rw [hR] at II ⊢
  have HR := Lib.hid hR
  clear hR
  go_loopg [4] l.length (fun k _ wr => ∃ left, DlInv B w wr f R b m T left ∧ left.length = k)
  case atStart => exact ⟨l, II.out, rfl⟩
  case round =>
    obtain ⟨left, hi, hlen⟩ := hrel
    have HI := Lib.hid (And.intro hi hlen)
    obtain ⟨l2, hit⟩ := hi.it
    clear hi hlen
    rcases hit.next (P := Try.prog) 0 with ⟨rfl, hrun⟩ | ⟨p, left', w4, hp, hrun, hit2, hk2, hs2, hen⟩
    · clear hit
      go_wp2_with fail
      go_end0
      exact ⟨rfl, by rw [← keepB_end]; exact HI.out.1.tab, HI.out.1.kept⟩
    · have hnd := hit.nodup
      have hRm := hit.ne
      obtain ⟨l3, hl3, hperm3, hcs3⟩ := HI.out.1.tab.map
      have hpl : p ∈ l3 := by rw [hl3.inj hit.map]; exact hnd.2 p (hp.mem_iff.2 List.mem_cons_self)
      obtain ⟨c, hcT, lv, hp2, hlv, _⟩ := hcs3 p hpl
      obtain ⟨p1, p2⟩ := p
      subst hp2
      obtain ⟨la, ln, lc, rfl, _⟩ := hlv.slice
      have hnx := fun w5 (h5 : Kept none' w4 w5) => HI.out.1.next hit2 hk2 h5
      have hnl : p1 ∉ left'.map (·.1) := by
        have h1 : (p1 :: left'.map (·.1)).Nodup := by have := (hp.map (·.1)).nodup_iff.1 hnd.1; simpa using this
        exact (List.nodup_cons.1 h1).1
      have Q := Lib.hid (And.intro hnd.1 (And.intro hp (And.intro hnx hnl)))
      clear hl3 hperm3 hcs3 hpl hcT hlv hnx hnl hnd hit hit2 hp hk2
      go_wp2_with fail
      obtain ⟨WA, hWA⟩ : ∃ WA, w4.alloc (.cells #[.int .i64 c.1, .slice la ln lc] 29) = WA := ⟨_, rfl⟩
      have kA : Kept none' w4 WA := by rw [← hWA]; exact (Kept.refl _ _).alloc _
      have KA := Lib.hid kA
      rw [hWA]
      clear hWA kA
      have c := HC.out p1 c.1 la ln lc WA (Q.out.2.2.1 WA KA.out).2.2
      (with_reducible refine c.mono ?_)
      clear c
      rintro e w5 ⟨rfl, k5⟩
      have N := Q.out.2.2.1 w5 (KA.out.trans k5)
      cases hf : f p1 with
      | true =>
        obtain ⟨l5, h51, h52, h53⟩ := N.2.1.map
        have e5 : l5 = l2 := h51.inj N.1.map
        subst e5
        obtain ⟨w6, hdel, hit6, k6, hs6⟩ := N.1.delete (P := Try.prog) Try.underlying87 Try.underlying2 p1
        rw [del_none Q.out.2.2.2] at hit6
        have F := Lib.hid (show DlInv B w w6 f R b m T left' from ⟨⟨_, hit6⟩, by
          rw [← keepB_next Q.out.2.1 Q.out.1 hf]
          exact N.2.1.drop h51 h52 h53 hit6.map k6, N.2.2.trans k6, HI.out.1.hR⟩)
        have HF := Lib.hid hf
        have HL := Lib.hid (show left'.length < left.length by have h1 := Q.out.2.1.length_eq; simp at h1; omega)
        clear N h51 h52 h53 hit6 k6 hs6 hf k5
        go_wp2_with fail
        go_roundg left'.length
        case rel => exact ⟨left', F.out, rfl⟩
        case measure => have h1 := HL.out; have h2 := HI.out.2; omega
      | false =>
        have F := Lib.hid (show DlInv B w w5 f R b m T left' from ⟨⟨_, N.1⟩, by rw [← keepB_same Q.out.2.1 hf]; exact N.2.1, N.2.2, HI.out.1.hR⟩)
        have HF := Lib.hid hf
        have HL := Lib.hid (show left'.length < left.length by have h1 := Q.out.2.1.length_eq; simp at h1; omega)
        clear N hf k5
        go_wp2_with fail
        go_roundg left'.length
        case rel => exact ⟨left', F.out, rfl⟩
        case measure => have h1 := HL.out; have h2 := HI.out.2; omega
end Go.Proofs.Ytaalpijohdlabaa
/-
  Tables put together (plain).
-/
namespace Go.Proofs.Ytaalpijohdlabaa
open Go Go.RowKit
/-- All rows of U put into T. -/
def jn (T U : Tab) : Tab := U.foldl (fun T p => tput p.1 p.2 T) T
theorem Rises.jn : ∀ {U T : Tab}, Rises T → Rises (jn T U)
  | [], _, h => h
  | p :: U, T, h => Rises.jn (U := U) (T := Go.Proofs.Ytaalpijohdlabaa.tput p.1 p.2 T) h.tput
theorem mem_jn : ∀ {U T : Tab}, Rises T → (tkeys U).Nodup → ∀ {q : Int × Cell}, q ∈ jn T U ↔ q ∈ U ∨ (q ∈ T ∧ q.1 ∉ tkeys U)
  | [], T, _, _, q => by simp [jn, tkeys]
  | p :: U, T, h, hn, q => by
    have hn' : p.1 ∉ tkeys U ∧ (tkeys U).Nodup := by simpa [tkeys] using hn
    have ih := mem_jn (U := U) (T := tput p.1 p.2 T) h.tput hn'.2 (q := q)
    have e : jn T (p :: U) = jn (tput p.1 p.2 T) U := rfl
    rw [e, ih, mem_tput h]
    have hk : q.1 ∉ tkeys (p :: U) ↔ q.1 ≠ p.1 ∧ q.1 ∉ tkeys U := by simp [tkeys]
    rw [hk, List.mem_cons]
    constructor
    · rintro (h1 | ⟨h1 | ⟨h1, h2⟩, h3⟩)
      · exact .inl (.inr h1)
      · exact .inl (.inl (by rw [h1]))
      · exact .inr ⟨h1, h2, h3⟩
    · rintro ((h1 | h1) | ⟨h1, h2, h3⟩)
      · exact .inr ⟨.inl (by rw [h1]), by rw [h1]; exact hn'.1⟩
      · exact .inl h1
      · exact .inr ⟨.inr ⟨h1, h2⟩, h3⟩
theorem tmany_jn {U : Tab} : ∀ {T : Tab}, Rises T → (tkeys U).Nodup → (∀ k ∈ tkeys U, tget T k = none) → ∀ g, tmany (jn T U) g = tmany T g + tmany U g := by
  induction U with
  | nil => intro T _ _ _ g; rfl
  | cons p U ih =>
    intro T h hn hd g
    have hn' : p.1 ∉ tkeys U ∧ (tkeys U).Nodup := by simpa [tkeys] using hn
    have e : jn T (p :: U) = jn (tput p.1 p.2 T) U := rfl
    have hd' : ∀ k ∈ tkeys U, tget (tput p.1 p.2 T) k = none := fun k hk => by
      rw [tget_none]
      intro hm
      obtain ⟨q, hq, e⟩ := List.mem_map.1 hm
      rcases (mem_tput h).1 hq with rfl | ⟨hq, _⟩
      · exact hn'.1 (by rw [show p.1 = k from e]; exact hk)
      · have := tget_none.1 (hd k (by unfold tkeys at hk ⊢; rw [List.map_cons]; exact List.mem_cons_of_mem _ hk))
        exact this (List.mem_map.2 ⟨q, hq, e⟩)
    rw [e, ih h.tput hn'.2 hd' g, tmany_tput h]
    have h0 : tget T p.1 = none := hd p.1 (by simp [tkeys])
    unfold tmany
    rw [List.countP_cons, h0]
    by_cases hg : grp p.1 = g
    · simp [hg]; omega
    · simp [hg]
theorem TOk.jn {T U : Tab} (h : TOk T) (k : TOk U) (hd : ∀ x ∈ tkeys U, tget T x = none) (hs : ∀ g, tmany T g + tmany U g ≤ 40) : TOk (jn T U) := by
  have hm := fun q => mem_jn h.rises k.rises.nodup (q := q)
  refine ⟨h.rises.jn, fun p hp => ?_, fun p hp => ?_, fun g => ?_⟩
  · rcases (hm p).1 hp with hp | ⟨hp, _⟩
    · exact k.key p hp
    · exact h.key p hp
  · rcases (hm p).1 hp with hp | ⟨hp, _⟩
    · exact k.cell p hp
    · exact h.cell p hp
  · rw [tmany_jn h.rises k.rises.nodup hd g]; exact hs g
/-- One row more. -/
theorem jn_step {T U : Tab} (hT : Rises T) (hU : Rises U) {k : Int} {c : Cell} (hk : (k, c) ∈ U) (f f' : Int × Cell → Bool) (hf : ∀ p ∈ U, f' p = (f p || p.1 == k)) : tput k c (jn T (U.filter f)) = jn T (U.filter f') := by
  have n1 : (tkeys (U.filter f)).Nodup := Rises.nodup (hU.sublist (List.filter_sublist (p := f)))
  have n2 : (tkeys (U.filter f')).Nodup := Rises.nodup (hU.sublist (List.filter_sublist (p := f')))
  have hput := tput_filter hU hk f f' hf
  have hF : Rises (U.filter f) := hU.sublist List.filter_sublist
  refine Rises.ext hT.jn.tput hT.jn fun p => ?_
  rw [mem_tput hT.jn, mem_jn hT n1, mem_jn hT n2, ← hput, mem_tput hF]
  have hkeys : p.1 ∉ tkeys (tput k c (U.filter f)) ↔ p.1 ≠ k ∧ p.1 ∉ tkeys (U.filter f) := by
    constructor
    · intro h
      refine ⟨fun e => h (List.mem_map.2 ⟨(k, c), (mem_tput hF).2 (.inl rfl), e.symm⟩), fun hm => ?_⟩
      obtain ⟨q, hq, e⟩ := List.mem_map.1 hm
      by_cases hqk : q.1 = k
      · exact h (List.mem_map.2 ⟨(k, c), (mem_tput hF).2 (.inl rfl), by rw [← e, hqk]⟩)
      · exact h (List.mem_map.2 ⟨q, (mem_tput hF).2 (.inr ⟨hq, hqk⟩), e⟩)
    · rintro ⟨h1, h2⟩ hm
      obtain ⟨q, hq, e⟩ := List.mem_map.1 hm
      rcases (mem_tput hF).1 hq with rfl | ⟨hq, _⟩
      · exact h1 e.symm
      · exact h2 (List.mem_map.2 ⟨q, hq, e⟩)
  rw [hkeys]
  constructor
  · rintro (h1 | ⟨h1 | ⟨h1, h2⟩, h3⟩)
    · exact .inl (.inl h1)
    · exact .inl (.inr ⟨h1, h3⟩)
    · exact .inr ⟨h1, h3, h2⟩
  · rintro ((h1 | ⟨h1, h2⟩) | ⟨h1, h2, h3⟩)
    · exact .inl h1
    · exact .inr ⟨.inl h1, h2⟩
    · exact .inr ⟨.inr ⟨h1, h3⟩, h2⟩
/-- Two parts of a table, joined. -/
theorem jn_filter {T : Tab} (hT : Rises T) (f g h : Int × Cell → Bool) (hh : ∀ p ∈ T, h p = (f p || g p)) : jn (T.filter f) (T.filter g) = T.filter h := by
  have hF : Rises (T.filter f) := hT.sublist List.filter_sublist
  have n1 : (tkeys (T.filter g)).Nodup := Rises.nodup (hT.sublist (List.filter_sublist (p := g)))
  refine Rises.ext hF.jn (hT.sublist List.filter_sublist) fun p => ?_
  rw [mem_jn hF n1, List.mem_filter, List.mem_filter, List.mem_filter]
  constructor
  · rintro (⟨h1, h2⟩ | ⟨⟨h1, h2⟩, _⟩)
    · exact ⟨h1, by rw [hh p h1, h2, Bool.or_true]⟩
    · exact ⟨h1, by rw [hh p h1, h2, Bool.true_or]⟩
  · rintro ⟨h1, h2⟩
    rw [hh p h1] at h2
    by_cases hg : g p = true
    · exact .inl ⟨h1, hg⟩
    · right
      refine ⟨⟨h1, by simpa [hg] using h2⟩, fun hm => ?_⟩
      obtain ⟨q, hq, e⟩ := List.mem_map.1 hm
      obtain ⟨hq1, hq2⟩ := List.mem_filter.1 hq
      have e1 := (tget_some hT (k := p.1) (c := p.2)).2 h1
      have e2 := (tget_some hT (k := q.1) (c := q.2)).2 hq1
      rw [e, e1] at e2
      injection e2 with e2
      have : q = p := Prod.ext e e2.symm
      rw [this] at hq2
      exact hg hq2
/-- What Join answers. -/
def joinE (T U : Tab) : Int := if U.any (fun p => (tget T p.1).isSome) then 2 else if (List.range 8).any (fun g => decide (40 < tmany T (g : Int) + tmany U (g : Int))) then 7 else 0
def joinT (T U : Tab) : Tab := if joinE T U = 0 then jn T U else T
theorem tmany_out {T : Tab} {g : Int} (h : g < 0 ∨ 8 ≤ g) : tmany T g = 0 := by
  unfold tmany
  rw [List.countP_eq_zero]
  intro p _
  have h1 := grp_lo p.1
  have h2 := grp_hi p.1
  simp; omega
theorem joinE_ok {T U : Tab} (h : joinE T U = 0) : (∀ x ∈ tkeys U, tget T x = none) ∧ (∀ g, tmany T g + tmany U g ≤ 40) := by
  unfold joinE at h
  split at h
  · cases h
  · rename_i h1
    split at h
    · cases h
    · rename_i h2
      refine ⟨fun x hx => ?_, fun g => ?_⟩
      · obtain ⟨p, hp, rfl⟩ := List.mem_map.1 hx
        rw [List.any_eq_true] at h1
        cases ht : tget T p.1 with
        | none => rfl
        | some c => exact absurd ⟨p, hp, by rw [ht]; rfl⟩ h1
      · by_cases hg : g < 0 ∨ 8 ≤ g
        · rw [tmany_out hg, tmany_out hg]; omega
        · rw [List.any_eq_true] at h2
          have : ¬ 40 < tmany T g + tmany U g := fun hh => h2 ⟨g.toNat, by rw [List.mem_range]; omega, by rw [show ((g.toNat : Nat) : Int) = g by omega]; exact decide_eq_true hh⟩
          omega
theorem joinE_mk {T U : Tab} (h1 : ∀ x ∈ tkeys U, tget T x = none) (h2 : ∀ g, tmany T g + tmany U g ≤ 40) : joinE T U = 0 := by
  unfold joinE
  rw [if_neg, if_neg]
  · rw [List.any_eq_true]
    rintro ⟨g, _, hg⟩
    have := h2 (g : Int)
    have := of_decide_eq_true hg
    omega
  · rw [List.any_eq_true]
    rintro ⟨p, hp, hg⟩
    rw [h1 p.1 (List.mem_map.2 ⟨p, hp, rfl⟩)] at hg
    cases hg
theorem TOk.joinT {T U : Tab} (hT : TOk T) (hU : TOk U) : TOk (joinT T U) := by
  unfold Go.Proofs.Ytaalpijohdlabaa.joinT
  split
  · rename_i h
    obtain ⟨a, b⟩ := joinE_ok h
    exact hT.jn hU a b
  · exact hT
end Go.Proofs.Ytaalpijohdlabaa
/-
  Join(44).
-/
namespace Go.Proofs.Ytaalpijohdlabaa
open Go Go.RowKit
def JoinQ (w : World) (B : Nat → Prop) (b m : Nat) (T U : Tab) (e : Ending) (w' : World) : Prop :=
  e = .returned (.int .i64 (joinE T U)) ∧ TabAt w' B b m (joinT T U) ∧ Kept (one m) w w'
theorem joinE_two {T U : Tab} {k : Int} (hk : k ∈ tkeys U) (h : (tget T k).isSome = true) : joinE T U = 2 := by
  unfold joinE
  rw [if_pos]
  rw [List.any_eq_true]
  obtain ⟨p, hp, rfl⟩ := List.mem_map.1 hk
  exact ⟨p, hp, h⟩
theorem joinE_seven {T U : Tab} (h1 : ∀ x ∈ tkeys U, tget T x = none) {g : Nat} (hg : g < 8) (h : 40 < tmany T (g : Int) + tmany U (g : Int)) : joinE T U = 7 := by
  unfold joinE
  rw [if_neg, if_pos]
  · rw [List.any_eq_true]
    exact ⟨g, List.mem_range.2 hg, decide_eq_true h⟩
  · rw [List.any_eq_true]
    rintro ⟨p, hp, hg⟩
    rw [h1 p.1 (List.mem_map.2 ⟨p, hp, rfl⟩)] at hg
    cases hg
theorem joinE_all {T U : Tab} (h1 : ∀ x ∈ tkeys U, tget T x = none) (h2 : ∀ g : Nat, g < 8 → tmany T (g : Int) + tmany U (g : Int) ≤ 40) : joinE T U = 0 :=
  joinE_mk h1 (fun g => by
    by_cases hg : g < 0 ∨ 8 ≤ g
    · rw [tmany_out hg, tmany_out hg]; omega
    · have := h2 g.toNat (by omega)
      rwa [show ((g.toNat : Nat) : Int) = g by omega] at this)
theorem rest_flip {left left' : List (Int × Value)} {p : Int × Value} (hp : left.Perm (p :: left')) (hnd : (left.map (·.1)).Nodup) (q : Int × Cell) : rest left' q = (rest left q || q.1 == p.1) := by
  have h1 : (p.1 :: left'.map (·.1)).Nodup := by have := (hp.map (·.1)).nodup_iff.1 hnd; simpa using this
  have h2 : ∀ x, x ∈ left.map (·.1) ↔ x = p.1 ∨ x ∈ left'.map (·.1) := fun x => by rw [(hp.map (·.1)).mem_iff]; simp
  unfold rest
  by_cases e : q.1 = p.1
  · have h3 : q.1 ∉ left'.map (·.1) := by rw [e]; exact (List.nodup_cons.1 h1).1
    have h4 : (left'.map (·.1)).contains q.1 = false := by rw [Bool.eq_false_iff]; intro h; exact h3 (List.contains_iff_mem.1 h)
    rw [h4, e]; simp
  · have h5 : (left.map (·.1)).contains q.1 = (left'.map (·.1)).contains q.1 := Bool.eq_iff_iff.2 (by rw [List.contains_iff_mem, List.contains_iff_mem, h2]; simp [e])
    rw [h5, show (q.1 == p.1) = false from beq_eq_false_iff_ne.2 e, Bool.or_false]
theorem TOk.jn_filter {T U : Tab} (hT : TOk T) (hU : TOk U) (h : joinE T U = 0) (f : Int × Cell → Bool) : TOk (Go.Proofs.Ytaalpijohdlabaa.jn T (U.filter f)) := by
  obtain ⟨a, b⟩ := joinE_ok h
  refine hT.jn (hU.filter f) (fun x hx => ?_) (fun g => ?_)
  · obtain ⟨q, hq, rfl⟩ := List.mem_map.1 hx
    exact a q.1 (List.mem_map.2 ⟨q, (List.mem_filter.1 hq).1, rfl⟩)
  · have : tmany (U.filter f) g ≤ tmany U g := List.Sublist.countP_le List.filter_sublist
    have := b g
    omega
structure JoInv (B B' : Nat → Prop) (w wr : World) (R b m b' m' : Nat) (T U : Tab) (left : List (Int × Value)) (l : List (Int × Value)) : Prop where
  it : IterL wr R m' l left
  tab : TabAt wr B b m (jn T (U.filter (rest left)))
  kept : Kept (one m) w wr
  hR : w.heap.size ≤ R
set_option maxRecDepth 100000 in
set_option maxHeartbeats 2000000 in
theorem join_any (B B' : Nat → Prop) (b m b' m' : Nat) (T U : Tab) (w : World) (h : TabAt w B b m T) (h' : TabAt w B' b' m' U) (hB : ∀ k, w.heap.size ≤ k → B k) (hne : m ≠ m') :
    Calls Try.prog 44 #[.pointer (some ⟨b, 0, none⟩), .pointer (some ⟨b', 0, none⟩)] w (JoinQ w B b m T U) := by
  have hcb := h.cell
  have hcb' := h'.cell
  have hbm : b ≠ m := by
    rintro rfl
    obtain ⟨l, hl, _⟩ := h.map
    obtain ⟨L, cl, hL, _⟩ := hl
    have := h.obj
    rw [hL.heap] at this; cases this
  have hbm' : b' ≠ m := by
    rintro rfl
    obtain ⟨l, hl, _⟩ := h.map
    obtain ⟨L, cl, hL, _⟩ := hl
    have := h'.obj
    rw [hL.heap] at this; cases this
  obtain ⟨l, hl, hperm, hcs⟩ := h'.map
  obtain ⟨w0, hrun, hit, hk0, hs0⟩ := hl.range (P := Try.prog) Try.underlying87
  have HT := Lib.hid h
  have HU := Lib.hid h'
  have HBB := Lib.hid hB
  have HM := Lib.hid (And.intro hl (And.intro hperm hcs))
  have II := Lib.hid (And.intro hit hk0)
  clear h h' hB hl hperm hcs hit hk0 hs0
  go_enter Try.func44, Try.ntmps44
  go_wp2_with fail
  obtain ⟨R, hR⟩ : ∃ R, w.heap.size = R := ⟨_, rfl⟩
  rw [hR] at II ⊢
  have HR := Lib.hid hR
  clear hR hrun
  go_loopg [5] l.length (fun k _ wr => ∃ left, IterL wr R m' l left ∧ left.length = k ∧ (∀ x ∈ tkeys U, x ∉ left.map (·.1) → tget T x = none) ∧ Kept none' w wr)
  case atStart => exact ⟨l, II.out.1, rfl, fun x hx hn => absurd (HM.out.2.1.mem_iff.2 hx) hn, II.out.2⟩
  case round =>
    obtain ⟨left, hit, hlen, hno, hkp⟩ := hrel
    have HI := Lib.hid (And.intro hlen (And.intro hno hkp))
    have c0 := hkp.cell (p := ⟨b, 0, none⟩) (fun h => h) hcb
    have c1 := hkp.cell (p := ⟨b', 0, none⟩) (fun h => h) hcb'
    clear hlen hno hkp
    rcases hit.next (P := Try.prog) 0 with ⟨rfl, hrun⟩ | ⟨p, left', w4, hp, hrun, hit2, hk2, hs2, hen⟩
    · have H1 := Lib.hid (show ∀ x ∈ tkeys U, tget T x = none from fun x hx => HI.out.2.1 x hx (by simp))
      have H2 := Lib.hid HI.out.2.2
      clear hit HI
      go_wp2_with fail
      go_loopg [8, 36] 8 (fun gg _ vi wr2 => ∃ j : Nat, j ≤ 8 ∧ vi = .int .i64 (j : Int) ∧ 8 - j ≤ gg ∧ (∀ g : Nat, g < j → tmany T (g : Int) + tmany U (g : Int) ≤ 40) ∧ Kept none' w wr2)
      case atStart => exact ⟨0, by omega, rfl, by omega, fun g hg => by omega, H2.out⟩
      case round =>
        obtain ⟨j, hj, rfl, hg, hs, hkp⟩ := hrel
        have G := Lib.hid (And.intro hg (And.intro hs hkp))
        clear hg hs hkp
        by_cases hlt : j < 8
        · have hlt' : (j : Int) < 8 := by omega
          go_wp2_with fail
          (with_reducible refine (many_any B b m T (j : Int) wr (HT.out.pure G.out.2.2)).mono ?_)
          rintro e w1 ⟨rfl, k1⟩
          have m1 := HT.out.ok.many (j : Int)
          have m2 := HU.out.ok.many (j : Int)
          have K1 := Lib.hid k1
          clear k1
          go_wp2_with fail
          (with_reducible refine (many_any B' b' m' U (j : Int) w1 (HU.out.pure (G.out.2.2.trans K1.out))).mono ?_)
          rintro e w2 ⟨rfl, k2⟩
          have K2 := Lib.hid (G.out.2.2.trans (K1.out.trans k2))
          clear k2
          by_cases hov : 40 < tmany T (j : Int) + tmany U (j : Int)
          · have hovi : (40 : Int) < ((tmany T (j : Int) : Nat) : Int) + ((tmany U (j : Int) : Nat) : Int) := by omega
            have hE : joinE T U = 7 := joinE_seven H1.out hlt hov
            have hJ : joinT T U = T := by unfold joinT; rw [if_neg (by rw [hE]; decide)]
            have HE := Lib.hid (And.intro hE hJ)
            clear hE hJ hov
            go_wp2_with fail
            go_ret
            exact ⟨by rw [HE.out.1]; rfl, by rw [HE.out.2]; exact HT.out.pure K2.out, K2.out.pure⟩
          · have hovi : ¬ (40 : Int) < ((tmany T (j : Int) : Nat) : Int) + ((tmany U (j : Int) : Nat) : Int) := by omega
            have G2 := Lib.hid (show ∀ g : Nat, g < j + 1 → tmany T (g : Int) + tmany U (g : Int) ≤ 40 from fun g hg => by
              by_cases e : g = j
              · subst e; omega
              · exact G.out.2.1 g (by omega))
            clear hov
            go_wp2_with fail
            go_roundg (8 - (j + 1))
            case rel => exact ⟨j + 1, by omega, by go_num, Nat.le_refl _, G2.out, K2.out⟩
            case measure => have := G.out.1; omega
        · have HE := Lib.hid (joinE_all H1.out (fun g hg => G.out.2.1 g (by omega)))
          have hJ : joinT T U = jn T U := by unfold joinT; rw [if_pos HE.out]
          have HJ := Lib.hid hJ
          have c3 := G.out.2.2.cell (p := ⟨b', 0, none⟩) (fun h => h) hcb'
          have c4 := G.out.2.2.cell (p := ⟨b, 0, none⟩) (fun h => h) hcb
          have KG := Lib.hid G.out.2.2
          obtain ⟨w0, hrun, hit, hk0, hs0⟩ := (HM.out.1.kept G.out.2.2 (fun h => h)).range (P := Try.prog) Try.underlying87
          have I0 : JoInv B B' w w0 wr.heap.size b m b' m' T U l l := ⟨hit, by rw [rest_start HM.out.2.1]; exact HT.out.pure (G.out.2.2.trans hk0), (G.out.2.2.trans hk0).pure, G.out.2.2.size⟩
          have III := Lib.hid I0
          clear hit hk0 hs0 I0 hJ
          go_wp2_with fail
          obtain ⟨R2, hR2⟩ : ∃ R2, wr.heap.size = R2 := ⟨_, rfl⟩
          rw [hR2] at III ⊢
          clear hR2 hrun G
          go_loopg [9] l.length (fun k _ wr3 => ∃ left, JoInv B B' w wr3 R2 b m b' m' T U left l ∧ left.length = k)
          case atStart => exact ⟨l, III.out, rfl⟩
          case round =>
            obtain ⟨left, hi, hlen⟩ := hrel
            have HI := Lib.hid (And.intro hi hlen)
            have hit := hi.it
            clear hi hlen
            rcases hit.next (P := Try.prog) 0 with ⟨rfl, hrun⟩ | ⟨p, left', w4, hp, hrun, hit2, hk2, hs2, hen⟩
            · clear hit
              go_wp2_with fail
              go_ret
              exact ⟨by rw [HE.out]; rfl, by rw [HJ.out]; have := HI.out.1.tab; rw [rest_end] at this; exact this, HI.out.1.kept⟩
            · have hnd := hit.nodup
              have hRm := hit.ne
              have hRm2 : R2 ≠ m := by
                rintro rfl
                obtain ⟨lx, hlx, _⟩ := HI.out.1.tab.map
                obtain ⟨L, cl, hL, _⟩ := hlx
                obtain ⟨L', cl', seen, _, _, h3, _⟩ := hit
                rw [hL.heap] at h3; cases h3
              obtain ⟨c, hcT, hci⟩ := HM.out.2.2 p (hnd.2 p (hp.mem_iff.2 List.mem_cons_self))
              obtain ⟨lT, hlT, _⟩ := HT.out.map
              have hk4 : Kept (one m) w w4 := HI.out.1.kept.new hk2 (fun i hi e => by have := HI.out.1.hR; unfold one at e; omega)
              obtain ⟨lv, hp2, hlv, _⟩ := hci.kept hk4 (.map hlT B')
              clear hci hlT
              obtain ⟨p1, p2⟩ := p
              subst hp2
              obtain ⟨la, ln, lc, rfl, _⟩ := hlv.slice
              have tab4 : TabAt w4 B b m (jn T (U.filter (rest left))) := HI.out.1.tab.kept hk2 (.iter HI.out.1.it _) (fun e => hRm2 e.symm)
              obtain ⟨WA, hWA⟩ : ∃ WA, w4.alloc (.cells #[.int .i64 c.1, .slice la ln lc] 29) = WA := ⟨_, rfl⟩
              have kA : Kept none' w4 WA := by rw [← hWA]; exact (Kept.refl _ _).alloc _
              have x0 : WA.cell? ⟨w4.heap.size, 0, none⟩ = some (.int .i64 c.1) := by rw [← hWA]; simp
              have x1 : WA.cell? ⟨w4.heap.size, 1, none⟩ = some (.slice la ln lc) := by rw [← hWA]; simp
              have tabA := tab4.pure kA
              have x2 := tabA.cell
              rw [hs2] at x0 x1
              have Q := Lib.hid (And.intro hnd (And.intro hcT (And.intro hlv (And.intro hk4 (And.intro tabA (And.intro kA (And.intro hit2 hp)))))))
              clear hk4 tab4 tabA kA hnd hcT hlv hit2 hp hk2
              go_wp2_with fail
              clear hWA
              have hcok := HU.out.ok.cell _ Q.out.2.1
              have hkok := HU.out.ok.key _ Q.out.2.1
              refine wp_region_eager [0, 1, 2, 3, 4, 5, 6, 7] (fun W => Kept none' WA W) (by kernel_rfl) (by kernel_rfl) rfl (Kept.refl _ _).drew ?_
              simp only [List.map_cons, List.map_nil, List.getElem?_toArray, List.getElem?_cons_zero, List.getElem?_cons_succ, Option.getD_some]
              iterate 6 (apply wpL_float rfl rfl; (intro W hW; have z0 := hW.cell (fun h => h) x0; have z1 := hW.cell (fun h => h) x1; have z2 := hW.cell (fun h => h) x2; go_simp; rfl); go_frame)
              apply wpL_loud rfl rfl
              intro K hK
              go_wp2_with fail
              refine (own_any _ _ (ints c.2) _ (Q.out.2.2.1.pure (Q.out.2.2.2.2.2.1.trans (Kept.refl _ _).drew)) (ints_one _) (by have := hcok.2.2; simp; omega)).mono ?_
              rintro e w5 ⟨v', n', rfl, g1, g2, g3⟩
              have k5 : Kept none' WA w5 := g3.drew_left
              have tab5 := Q.out.2.2.2.2.1.pure k5
              obtain ⟨l5, hl5, hperm5, hcs5⟩ := tab5.map
              obtain ⟨w6, hup, hml6, k6, hs6⟩ := hl5.update (P := Try.prog) Try.underlying87 Try.underlying2 p1 (.agg #[.int .i64 c.1, v'])
              have hci : CellIs w5 B (.agg #[.int .i64 c.1, v']) c := CellNew.cellIs (w := WA.drew) g1 (fun k hk => HBB.out k (Nat.le_trans (Nat.le_trans Q.out.2.2.2.1.size Q.out.2.2.2.2.2.1.size) hk))
              have htp : tput p1 c (jn T (U.filter (rest left))) = jn T (U.filter (rest left')) := jn_step HT.out.ok.rises HU.out.ok.rises Q.out.2.1 _ _ (fun q _ => rest_flip Q.out.2.2.2.2.2.2.2 Q.out.1.1 q)
              have tab6 : TabAt w6 B b m (jn T (U.filter (rest left'))) := by
                rw [← htp]
                exact tab5.put hl5 hperm5 hcs5 hml6 k6 (hci.kept k6 (.map hl5 _)) (by rw [htp]; exact HT.out.ok.jn_filter HU.out.ok HE.out _)
              have F := Lib.hid (show JoInv B B' w w6 R2 b m b' m' T U left' l from ⟨(Q.out.2.2.2.2.2.2.1.kept (Q.out.2.2.2.2.2.1.trans k5) (fun h => h) (fun h => h)).kept k6 (fun e => hne e.symm) hRm2, tab6, (Q.out.2.2.2.1.trans (Q.out.2.2.2.2.2.1.trans k5).pure).trans k6, HI.out.1.hR⟩)
              have HL := Lib.hid (show left'.length < left.length by have h1 := Q.out.2.2.2.2.2.2.2.length_eq; simp at h1; omega)
              clear tab5 hl5 hperm5 hcs5 hml6 k6 hs6 hci htp tab6 g1 g2 g3
              go_wp2_with fail
              refine hK _ _ (fun _ => k5) ?_
              clear hK
              apply wpL_loud rfl rfl
              intro K2 hK2
              go_wp2_with fail
              refine hK2 _ _ (fun h => absurd rfl h) (wpL_bar (by kernel_rfl) ?_)
              clear hK2
              go_wp2_with fail
              go_roundg left'.length
              case rel => exact ⟨left', F.out, rfl⟩
              case measure => have h1 := HL.out; have h2 := HI.out.2; omega
    · have hnd := hit.nodup
      have hpT : p.1 ∈ tkeys U := HM.out.2.1.mem_iff.1 (List.mem_map.2 ⟨p, hnd.2 p (hp.mem_iff.2 List.mem_cons_self), rfl⟩)
      have hk4 : Kept none' w w4 := HI.out.2.2.new hk2 (fun i hi e => by have := HR.out; unfold one at e; omega)
      have T4 := HT.out.pure hk4
      have c2 := hk4.cell (p := ⟨b, 0, none⟩) (fun h => h) hcb
      obtain ⟨lt, hlt, hpermt, hcst⟩ := T4.map
      have hlk := hlt.lookup (P := Try.prog) Try.underlying87 Try.underlying2 p.1 (Try.zeroValue29 _)
      have hlook := tab_look HT.out.ok.rises hpermt hcst p.1
      have Q := Lib.hid (And.intro hpT (And.intro hk4 (And.intro hit2 hp)))
      clear hnd hpT hk4 T4 hlt hpermt hcst hit hit2 hp hk2
      rcases hlook with ⟨h1, h2⟩ | ⟨v0, c, h1, h2, lv, rfl, hlv⟩
      · rw [h1] at hlk
        simp only [Option.getD_none, Option.isSome_none] at hlk
        have H2 := Lib.hid h2
        have HL := Lib.hid (show left'.length < left.length by have h1 := Q.out.2.2.2.length_eq; simp at h1; omega)
        clear h1 h2
        go_wp2_with fail
        go_roundg left'.length
        case rel =>
          refine ⟨left', Q.out.2.2.1.kept ((Kept.refl none' _).alloc _) (fun h => h) (fun h => h), rfl, fun x hx hn => ?_, Q.out.2.1.alloc _⟩
          by_cases e : x = p.1
          · rw [e]; exact H2.out
          · refine HI.out.2.1 x hx (fun hm => ?_)
            have := ((Q.out.2.2.2.map (·.1)).mem_iff).1 hm
            rcases List.mem_cons.1 this with h | h
            · exact e h
            · exact hn h
        case measure => have h1 := HL.out; have h2 := HI.out.1; omega
      · rw [h1] at hlk
        simp only [Option.getD_some, Option.isSome_some] at hlk
        obtain ⟨a2, n2, cap2, rfl, hj⟩ := hlv.1.slice
        have hE : joinE T U = 2 := joinE_two Q.out.1 (by rw [h2]; rfl)
        have hJ : joinT T U = T := by unfold joinT; rw [if_neg (by rw [hE]; decide)]
        have HE := Lib.hid (And.intro hE hJ)
        clear hj hlv h1 h2 hE hJ
        go_wp2_with fail
        go_ret
        exact ⟨by rw [HE.out.1]; rfl, by rw [HE.out.2]; exact HT.out.pure (Q.out.2.1.alloc _), (Q.out.2.1.alloc _).pure⟩
end Go.Proofs.Ytaalpijohdlabaa
/-
  slices.Index(102), Contains(87) at ints.
-/
namespace Go.Proofs.Ytaalpijohdlabaa
open Go Go.RowKit
def IdxQ (w : World) (l : List Int) (g : Int) (e : Ending) (w' : World) : Prop := ∃ n : Int, e = .returned (.int .i64 n) ∧ (0 ≤ n ↔ g ∈ l) ∧ w = w'
set_option maxRecDepth 100000 in
set_option maxHeartbeats 1000000 in
theorem indexI_any (v : Value) (l : List Int) (g : Int) (w : World) (h : Reads w 1 v (ints l)) : Calls Try.prog 102 #[v, .int .i64 g] w (IdxQ w l g) := by
  obtain ⟨pa, ca, rfl, a1, a2, a3⟩ := h.at
  unfold maxLen at a2
  have A3 := Lib.hid a3
  clear h a3
  go_enter Try.func102, Try.ntmps102
  go_wp2_with fail
  go_loopw [8] (fun i wr => ∃ k : Nat, k ≤ l.length ∧ i = .int .i64 (k : Int) ∧ g ∉ l.take k ∧ wr = w) (fun i _ => l.length - (intOf i).toNat)
  case atStart => exact ⟨0, by omega, rfl, by simp, rfl⟩
  case round =>
    obtain ⟨k, hk, rfl, ht, rfl⟩ := hrel
    have HT := Lib.hid ht
    clear ht
    by_cases hlt : k < l.length
    · obtain ⟨y, hy⟩ : ∃ y, l[k]? = some y := ⟨_, List.getElem?_eq_getElem hlt⟩
      obtain ⟨b, off, rfl, hc⟩ := A3.out.resolve_left (fun h => by rw [h] at hlt; simp at hlt)
      have y0 := hc k y hy
      have HY := Lib.hid hy
      clear hc hy A3
      by_cases he : g = y
      · subst he
        go_wp2_with fail
        go_ret
        exact ⟨k, rfl, ⟨fun _ => List.mem_of_getElem? HY.out, fun _ => by omega⟩, rfl⟩
      · go_wp2_with fail
        go_roundw
        case rel =>
          refine ⟨k + 1, by omega, by go_num, ?_, by first | trivial | rfl⟩
          rw [List.take_add_one, HY.out]
          simp [HT.out, he]
        case measure => simp [intOf]; omega
    · have hE : g ∉ l := by have := HT.out; rwa [List.take_of_length_le (by omega)] at this
      have HE := Lib.hid hE
      have e1 : k = l.length := by omega
      subst e1
      go_wp2_with fail
      go_ret
      exact ⟨-1, rfl, ⟨fun h => absurd h (by decide), fun h => absurd h HE.out⟩, rfl⟩
set_option maxRecDepth 100000 in
theorem containsI_any (v : Value) (l : List Int) (g : Int) (w : World) (h : Reads w 1 v (ints l)) : Calls Try.prog 87 #[v, .int .i64 g] w (fun e w' => e = .returned (.bool (decide (g ∈ l))) ∧ w = w') := by
  have c := indexI_any v l g w h
  obtain ⟨pa, ca, rfl, a1, a2, a3⟩ := h.at
  clear h a3
  go_enter Try.func87, Try.ntmps87
  go_wp2_with fail
  refine c.mono ?_
  rintro e w2 ⟨n, rfl, hn, rfl⟩
  have F := Lib.hid (show decide (g ∈ l) = decide (0 ≤ n) from decide_eq_decide.2 hn.symm)
  clear hn
  go_wp2_with fail
  go_ret
  exact ⟨ret_bool (by rw [F.out]), rfl⟩
attribute [local irreducible] wpL
set_option maxRecDepth 100000 in
set_option maxHeartbeats 1000000 in
/-- Of's closure: whether the key's group is none of those. -/
theorem ofc_any (k acc : Int) (la : Option Addr) (ln lc : Nat) (Bg : Nat) (vg : Value) (gs : List Int) (w : World) (hc : w.cell? ⟨Bg, 0, none⟩ = some vg) (hr : Reads w 1 vg (ints gs)) :
    Calls Try.prog 86 #[.int .i64 k, .agg #[.int .i64 acc, .slice la ln lc], .pointer (some ⟨Bg, 0, none⟩)] w (Gives w (.bool (!decide (grp k ∈ gs)))) := by
  obtain ⟨pa, ca, rfl, a1, a2, a3⟩ := hr.at
  have HR := Lib.hid hr
  clear hr a3
  go_enter Try.func86, Try.ntmps86
  go_wp2_with fail
  obtain ⟨WA, hWA⟩ : ∃ WA, w.alloc (.cells #[.int .i64 acc, .slice la ln lc] 29) = WA := ⟨_, rfl⟩
  have kA : Kept none' w WA := by rw [← hWA]; exact (Kept.refl _ _).alloc _
  have x0 := kA.cell (p := ⟨Bg, 0, none⟩) (fun h => h) hc
  try rw [hWA]
  clear hWA
  have kD : Kept none' WA WA.drew := (Kept.refl _ _).drew
  refine wp_region_eager [0, 1, 2, 3, 4, 5] (fun W => Kept none' WA W) (by kernel_rfl) (by kernel_rfl) rfl kD ?_
  simp only [List.map_cons, List.map_nil, List.getElem?_toArray, List.getElem?_cons_zero, List.getElem?_cons_succ, Option.getD_some]
  iterate 2 (apply wpL_float rfl rfl; (intro W hW; have z0 := hW.cell (fun h => h) x0; go_simp; rfl); go_frame)
  apply wpL_loud rfl rfl
  intro K hK
  go_wp2_with fail
  (with_reducible refine (of_any k WA.drew).mono ?_)
  rintro e w1 ⟨rfl, rfl⟩
  go_wp2_with fail
  refine hK _ _ (fun _ => kD) ?_
  clear hK
  apply wpL_loud rfl rfl
  intro K hK
  go_wp2_with fail
  (with_reducible refine (containsI_any _ gs (grp k) WA.drew (HR.out.pure (kA.trans kD))).mono ?_)
  rintro e w1 ⟨rfl, rfl⟩
  go_wp2_with fail
  refine hK _ _ (fun _ => kD) ?_
  clear hK
  iterate 2 (apply wpL_float rfl rfl; (intro W hW; go_simp; rfl); go_frame)
  refine wpL_nil (fun _ => kD) ?_
  go_wp2_with fail
  go_ret
  exact ⟨rfl, kA.trans kD⟩
end Go.Proofs.Ytaalpijohdlabaa
/-
  Of(43).
-/
namespace Go.Proofs.Ytaalpijohdlabaa
open Go Go.RowKit
def tabOf (T : Tab) (gs : List Int) : Tab := T.filter fun p => decide (grp p.1 ∈ gs)
def OfQ (w : World) (T : Tab) (e : Ending) (w' : World) : Prop :=
  ∃ b m, e = .returned (.pointer (some ⟨b, 0, none⟩)) ∧ TabAt w' (up w.heap.size) b m T ∧ Kept none' w w'
theorem reads_kept_map {w w' : World} {k m : Nat} {v : Value} {cs : List Value} {l : List (Int × Value)} (h : Reads w k v cs) (hk : Kept (one m) w w') (hp : 0 < k) (hm : MapL w m l) : Reads w' k v cs :=
  h.kept hk (fun b hb hs => by
    obtain ⟨c, E, f, he⟩ := h.isCells hp hb
    obtain ⟨L, cl, hL, _⟩ := hm
    rw [show b = m from hs, hL.heap] at he
    cases he)
set_option maxRecDepth 100000 in
set_option maxHeartbeats 1000000 in
theorem tof_any (B : Nat → Prop) (b m : Nat) (T : Tab) (vg : Value) (gs : List Int) (w : World) (h : TabAt w B b m T) (hr : Reads w 1 vg (ints gs)) : Calls Try.prog 43 #[.pointer (some ⟨b, 0, none⟩), vg] w (OfQ w (tabOf T gs)) := by
  obtain ⟨pa, ca, rfl, _, _, _⟩ := hr.at
  have HT := Lib.hid h
  have HR := Lib.hid hr
  clear h hr
  go_enter Try.func43, Try.ntmps43
  go_wp2_with fail
  obtain ⟨W0, hW0⟩ : ∃ W0, w.alloc (.cells #[.slice pa gs.length ca] 49) = W0 := ⟨_, rfl⟩
  have k0 : Kept none' w W0 := by rw [← hW0]; exact (Kept.refl _ _).alloc _
  have c0 : W0.cell? ⟨w.heap.size, 0, none⟩ = some (.slice pa gs.length ca) := by rw [← hW0]; simp
  have hs0 : W0.heap.size = w.heap.size + 1 := by rw [← hW0]; simp
  rw [hW0]
  clear hW0
  (with_reducible refine (copy_any B b m T W0 (HT.out.pure k0)).mono ?_)
  rintro e W1 ⟨b2, m2, rfl, t1, k1⟩
  have cc := t1.cell
  have hm2 : w.heap.size < m2 := by have := t1.hm; unfold up at this; omega
  have A := Lib.hid (And.intro t1 (And.intro (k0.trans k1) (k1.cell (p := ⟨w.heap.size, 0, none⟩) (fun h => h) c0)))
  clear t1 k1 k0 c0
  go_wp2_with fail
  have c := delf_any (up W0.heap.size) b2 m2 T (fun k => !decide (grp k ∈ gs)) (.pointer (some ⟨w.heap.size, 0, none⟩)) W1 A.out.1 (fun k acc la ln lc W hk => by
    obtain ⟨l, hl, _⟩ := A.out.1.map
    refine ofc_any k acc la ln lc w.heap.size _ gs W (hk.cell (p := ⟨w.heap.size, 0, none⟩) (fun e => by unfold one at e; simp at e; omega) A.out.2.2) (reads_kept_map (HR.out.pure A.out.2.1) hk (by omega) hl))
  (with_reducible refine c.mono ?_)
  clear c
  rintro e W2 ⟨rfl, t2, k2⟩
  have F : Hid (OfQ w (tabOf T gs) (.returned (.pointer (some ⟨b2, 0, none⟩))) W2) := by
    refine ⟨b2, m2, rfl, ?_, A.out.2.1.new k2 (fun i hi e => by unfold one at e; omega)⟩
    have e : (T.filter fun p => !(!decide (grp p.1 ∈ gs))) = tabOf T gs := by
      unfold tabOf
      refine List.filter_congr fun p _ => ?_
      rw [Bool.not_not]
    rw [← e]
    exact t2.mono (fun k hk _ => by unfold up at *; omega)
  clear t2 k2
  go_wp2_with fail
  go_ret
  exact F.out
end Go.Proofs.Ytaalpijohdlabaa
