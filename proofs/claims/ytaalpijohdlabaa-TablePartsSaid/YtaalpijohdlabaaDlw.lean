/-
  A map that is ranged over while keys that were met are deleted: maps.DeleteFunc(85).
-/
import Derived.Test.YtaalpijohdlabaaCop
namespace Go.Proofs.Ytaalpijohdlabaa
open Go Go.RowKit
theorem ent_inj {s t : T3} (h : ent s = ent t) : kv s = kv t := by
  obtain ⟨a, b, c⟩ := s
  obtain ⟨a', b', c'⟩ := t
  simp only [ent, MapEntry.mk.injEq, Value.int.injEq] at h
  simp only [kv]
  rw [h.1.2, h.2.1]
theorem MapL.inj {w : World} {m : Nat} {l l' : List (Int × Value)} (h : MapL w m l) (k : MapL w m l') : l = l' := by
  obtain ⟨L, clock, h1, rfl⟩ := h
  obtain ⟨L', clock', h2, rfl⟩ := k
  have e := h1.heap.symm.trans h2.heap
  injection e with e
  injection e with e1 e2
  have e3 : L.map ent = L'.map ent := by simpa using e1
  clear h1 h2 e1 e2
  induction L generalizing L' with
  | nil => cases L' with | nil => rfl | cons t r => simp at e3
  | cons t r ih =>
    cases L' with
    | nil => simp at e3
    | cons t' r' =>
      simp only [List.map_cons, List.cons.injEq] at e3
      rw [List.map_cons, List.map_cons, ent_inj e3.1, ih _ e3.2]
theorem del_none {key : Int} {l : List (Int × Value)} (h : key ∉ l.map (·.1)) : del key l = l := by
  unfold del
  rw [List.filter_eq_self]
  intro p hp
  have : key ≠ p.1 := fun e => h (List.mem_map.2 ⟨p, hp, e.symm⟩)
  simpa using this
/-- What is left of the table when those of 'left' are still to come. -/
def keepB (f : Int → Bool) (left : List (Int × Value)) (p : Int × Cell) : Bool := (left.map (·.1)).contains p.1 || !f p.1
theorem keepB_next {f : Int → Bool} {left left' : List (Int × Value)} {p : Int × Value} {T : Tab} (hp : left.Perm (p :: left')) (hnd : (left.map (·.1)).Nodup) (hf : f p.1 = true) : tdrop p.1 (T.filter (keepB f left)) = T.filter (keepB f left') := by
  refine tdrop_filter _ _ fun q _ => ?_
  have h1 : (p.1 :: left'.map (·.1)).Nodup := by have := (hp.map (·.1)).nodup_iff.1 hnd; simpa using this
  have h2 : ∀ x, x ∈ left.map (·.1) ↔ x = p.1 ∨ x ∈ left'.map (·.1) := fun x => by rw [(hp.map (·.1)).mem_iff]; simp
  unfold keepB
  by_cases e : q.1 = p.1
  · have h3 : q.1 ∉ left'.map (·.1) := by rw [e]; exact (List.nodup_cons.1 h1).1
    have h4 : (left'.map (·.1)).contains q.1 = false := by rw [Bool.eq_false_iff]; intro h; exact h3 (List.contains_iff_mem.1 h)
    rw [h4, e, hf]; simp
  · have h5 : (left.map (·.1)).contains q.1 = (left'.map (·.1)).contains q.1 := Bool.eq_iff_iff.2 (by rw [List.contains_iff_mem, List.contains_iff_mem, h2]; simp [e])
    rw [h5, show (q.1 != p.1) = true from bne_iff_ne.2 e, Bool.and_true]
theorem keepB_same {f : Int → Bool} {left left' : List (Int × Value)} {p : Int × Value} {T : Tab} (hp : left.Perm (p :: left')) (hf : f p.1 = false) : T.filter (keepB f left) = T.filter (keepB f left') := by
  have h2 : ∀ x, x ∈ left.map (·.1) ↔ x = p.1 ∨ x ∈ left'.map (·.1) := fun x => by rw [(hp.map (·.1)).mem_iff]; simp
  refine List.filter_congr fun q _ => ?_
  unfold keepB
  by_cases e : q.1 = p.1
  · rw [e, hf]; simp
  · have h5 : (left.map (·.1)).contains q.1 = (left'.map (·.1)).contains q.1 := Bool.eq_iff_iff.2 (by rw [List.contains_iff_mem, List.contains_iff_mem, h2]; simp [e])
    rw [h5]
theorem keepB_start {f : Int → Bool} {l : List (Int × Value)} {T : Tab} (h : (l.map (·.1)).Perm (tkeys T)) : T.filter (keepB f l) = T := by
  rw [List.filter_eq_self]
  intro p hp
  have : p.1 ∈ l.map (·.1) := h.mem_iff.2 (List.mem_map.2 ⟨p, hp, rfl⟩)
  unfold keepB
  rw [List.contains_iff_mem.2 this]
  rfl
theorem keepB_end {f : Int → Bool} {T : Tab} : T.filter (keepB f []) = T.filter (fun p => !f p.1) := rfl
structure DlInv (B : Nat → Prop) (w wr : World) (f : Int → Bool) (R b m : Nat) (T : Tab) (left : List (Int × Value)) : Prop where
  it : ∃ l2, IterL wr R m l2 left
  tab : TabAt wr B b m (T.filter (keepB f left))
  kept : Kept (one m) w wr
  hR : w.heap.size ≤ R
theorem DlInv.next {B : Nat → Prop} {w wr w4 w5 : World} {f : Int → Bool} {R b m : Nat} {T : Tab} {left left' l2 : List (Int × Value)} (h : DlInv B w wr f R b m T left) (hit : IterL w4 R m l2 left') (hk : Kept (one R) wr w4) (h5 : Kept none' w4 w5) :
    IterL w5 R m l2 left' ∧ TabAt w5 B b m (T.filter (keepB f left)) ∧ Kept (one m) w w5 := by
  obtain ⟨l, hi⟩ := h.it
  have k4 : Kept (one m) w w4 := h.kept.new hk (fun i hi e => by have := h.hR; unfold one at e; omega)
  exact ⟨hit.kept h5 (fun h => h) (fun h => h), (h.tab.kept hk (.iter hi _) (fun e => hi.ne e.symm)).pure h5, k4.trans h5.pure⟩
def DelQ (B : Nat → Prop) (w : World) (b m : Nat) (T : Tab) (e : Ending) (w' : World) : Prop := e = .returned (.tuple #[]) ∧ TabAt w' B b m T ∧ Kept (one m) w w'
end Go.Proofs.Ytaalpijohdlabaa
/-
  maps.DeleteFunc(85): its walk.
-/
namespace Go.Proofs.Ytaalpijohdlabaa
open Go Go.RowKit
set_option maxRecDepth 100000 in
set_option maxHeartbeats 1000000 in
theorem delf_any (B : Nat → Prop) (b m : Nat) (T : Tab) (f : Int → Bool) (cap : Value) (w : World) (h : TabAt w B b m T)
    (hcl : ∀ (k acc : Int) (la : Option Addr) (ln lc : Nat) (W : World), Kept (one m) w W → Calls Try.prog 86 #[.int .i64 k, .agg #[.int .i64 acc, .slice la ln lc], cap] W (Gives W (.bool (f k)))) :
    Calls Try.prog 85 #[.map (some m), .func (.func 86) #[] #[cap]] w (DelQ B w b m (T.filter fun p => !f p.1)) := by
  obtain ⟨l, hl, hperm, hcs⟩ := h.map
  obtain ⟨w0, hrun, hit, hk0, hs0⟩ := hl.range (P := Try.prog) Try.underlying87
  have I0 : DlInv B w w0 f w.heap.size b m T l := ⟨⟨l, hit⟩, by rw [keepB_start hperm]; exact h.pure hk0, hk0.pure, Nat.le_refl _⟩
  have II := Lib.hid I0
  have HC := Lib.hid hcl
  have HM := Lib.hid hl.lt
  clear hit hk0 hs0 hperm hcs hl h I0 hcl
  go_enter Try.func85, Try.ntmps85
  go_wp2_with fail
  obtain ⟨R, hR⟩ : ∃ R, w.heap.size = R := ⟨_, rfl⟩
  rw [hR] at II ⊢
  have HR := Lib.hid hR
  clear hR
  go_loopg [4] l.length (fun k _ wr => ∃ left, DlInv B w wr f R b m T left ∧ left.length = k)
  case atStart => exact ⟨l, II.out, rfl⟩
  case round =>
    obtain ⟨left, hi, hlen⟩ := hrel
    have HI := Lib.hid (And.intro hi hlen)
    obtain ⟨l2, hit⟩ := hi.it
    clear hi hlen
    rcases hit.next (P := Try.prog) 0 with ⟨rfl, hrun⟩ | ⟨p, left', w4, hp, hrun, hit2, hk2, hs2, hen⟩
    · clear hit
      go_wp2_with fail
      go_end0
      exact ⟨rfl, by rw [← keepB_end]; exact HI.out.1.tab, HI.out.1.kept⟩
    · have hnd := hit.nodup
      have hRm := hit.ne
      obtain ⟨l3, hl3, hperm3, hcs3⟩ := HI.out.1.tab.map
      have hpl : p ∈ l3 := by rw [hl3.inj hit.map]; exact hnd.2 p (hp.mem_iff.2 List.mem_cons_self)
      obtain ⟨c, hcT, lv, hp2, hlv, _⟩ := hcs3 p hpl
      obtain ⟨p1, p2⟩ := p
      subst hp2
      obtain ⟨la, ln, lc, rfl, _⟩ := hlv.slice
      have hnx := fun w5 (h5 : Kept none' w4 w5) => HI.out.1.next hit2 hk2 h5
      have hnl : p1 ∉ left'.map (·.1) := by
        have h1 : (p1 :: left'.map (·.1)).Nodup := by have := (hp.map (·.1)).nodup_iff.1 hnd.1; simpa using this
        exact (List.nodup_cons.1 h1).1
      have Q := Lib.hid (And.intro hnd.1 (And.intro hp (And.intro hnx hnl)))
      clear hl3 hperm3 hcs3 hpl hcT hlv hnx hnl hnd hit hit2 hp hk2
      go_wp2_with fail
      obtain ⟨WA, hWA⟩ : ∃ WA, w4.alloc (.cells #[.int .i64 c.1, .slice la ln lc] 29) = WA := ⟨_, rfl⟩
      have kA : Kept none' w4 WA := by rw [← hWA]; exact (Kept.refl _ _).alloc _
      have KA := Lib.hid kA
      rw [hWA]
      clear hWA kA
      have c := HC.out p1 c.1 la ln lc WA (Q.out.2.2.1 WA KA.out).2.2
      (with_reducible refine c.mono ?_)
      clear c
      rintro e w5 ⟨rfl, k5⟩
      have N := Q.out.2.2.1 w5 (KA.out.trans k5)
      cases hf : f p1 with
      | true =>
        obtain ⟨l5, h51, h52, h53⟩ := N.2.1.map
        have e5 : l5 = l2 := h51.inj N.1.map
        subst e5
        obtain ⟨w6, hdel, hit6, k6, hs6⟩ := N.1.delete (P := Try.prog) Try.underlying87 Try.underlying2 p1
        rw [del_none Q.out.2.2.2] at hit6
        have F := Lib.hid (show DlInv B w w6 f R b m T left' from ⟨⟨_, hit6⟩, by
          rw [← keepB_next Q.out.2.1 Q.out.1 hf]
          exact N.2.1.drop h51 h52 h53 hit6.map k6, N.2.2.trans k6, HI.out.1.hR⟩)
        have HF := Lib.hid hf
        have HL := Lib.hid (show left'.length < left.length by have h1 := Q.out.2.1.length_eq; simp at h1; omega)
        clear N h51 h52 h53 hit6 k6 hs6 hf k5
        go_wp2_with fail
        go_roundg left'.length
        case rel => exact ⟨left', F.out, rfl⟩
        case measure => have h1 := HL.out; have h2 := HI.out.2; omega
      | false =>
        have F := Lib.hid (show DlInv B w w5 f R b m T left' from ⟨⟨_, N.1⟩, by rw [← keepB_same Q.out.2.1 hf]; exact N.2.1, N.2.2, HI.out.1.hR⟩)
        have HF := Lib.hid hf
        have HL := Lib.hid (show left'.length < left.length by have h1 := Q.out.2.1.length_eq; simp at h1; omega)
        clear N hf k5
        go_wp2_with fail
        go_roundg left'.length
        case rel => exact ⟨left', F.out, rfl⟩
        case measure => have h1 := HL.out; have h2 := HI.out.2; omega
end Go.Proofs.Ytaalpijohdlabaa
