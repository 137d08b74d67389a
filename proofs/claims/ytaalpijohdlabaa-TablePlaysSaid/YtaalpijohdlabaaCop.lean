/-
  A part of a table (plain).
-/
import Derived.Test.YtaalpijohdlabaaTab3
namespace Go.Proofs.Ytaalpijohdlabaa
open Go Go.RowKit
theorem TOk.filter {T : Tab} (h : TOk T) (f : Int × Cell → Bool) : TOk (T.filter f) :=
  ⟨h.rises.sublist List.filter_sublist, fun p hp => h.key p (List.mem_filter.1 hp).1, fun p hp => h.cell p (List.mem_filter.1 hp).1, fun g => Nat.le_trans (List.Sublist.countP_le List.filter_sublist) (h.many g)⟩
theorem tput_filter {T : Tab} (h : Rises T) {k : Int} {c : Cell} (hk : (k, c) ∈ T) (f f' : Int × Cell → Bool) (hf : ∀ p ∈ T, f' p = (f p || p.1 == k)) : tput k c (T.filter f) = T.filter f' := by
  have hs : Rises (T.filter f) := h.sublist List.filter_sublist
  refine Rises.ext hs.tput (h.sublist List.filter_sublist) fun p => ?_
  rw [mem_tput hs, List.mem_filter, List.mem_filter]
  constructor
  · rintro (rfl | ⟨⟨h1, h2⟩, h3⟩)
    · exact ⟨hk, by rw [hf _ hk]; simp⟩
    · exact ⟨h1, by rw [hf _ h1, h2]; rfl⟩
  · rintro ⟨h1, h2⟩
    by_cases e : p.1 = k
    · left
      have e1 := (tget_some h (k := p.1) (c := p.2)).2 h1
      have e2 := (tget_some h).2 hk
      rw [e, e2] at e1
      injection e1 with e1
      exact Prod.ext e e1.symm
    · right
      refine ⟨⟨h1, ?_⟩, e⟩
      rw [hf _ h1] at h2
      simpa [e] using h2
theorem tdrop_filter {T : Tab} {k : Int} (f f' : Int × Cell → Bool) (hf : ∀ p ∈ T, f' p = (f p && p.1 != k)) : tdrop k (T.filter f) = T.filter f' := by
  unfold tdrop
  rw [List.filter_filter]
  refine List.filter_congr fun p hp => ?_
  rw [hf p hp, Bool.and_comm, show (k != p.1) = (p.1 != k) from bne_comm]
end Go.Proofs.Ytaalpijohdlabaa
/-
  Copy(46).
-/
namespace Go.Proofs.Ytaalpijohdlabaa
open Go Go.RowKit
/-- Whatever of the table is no longer left. -/
def rest (left : List (Int × Value)) (p : Int × Cell) : Bool := !(left.map (·.1)).contains p.1
def CopQ (w : World) (T : Tab) (e : Ending) (w' : World) : Prop :=
  ∃ b m, e = .returned (.pointer (some ⟨b, 0, none⟩)) ∧ TabAt w' (up w.heap.size) b m T ∧ Kept none' w w'
theorem rest_start {l : List (Int × Value)} {T : Tab} (h : (l.map (·.1)).Perm (tkeys T)) : T.filter (rest l) = [] := by
  rw [List.filter_eq_nil_iff]
  intro p hp
  have : p.1 ∈ l.map (·.1) := h.mem_iff.2 (List.mem_map.2 ⟨p, hp, rfl⟩)
  unfold rest
  rw [List.contains_iff_mem.2 this]
  decide
theorem rest_end {T : Tab} : T.filter (rest []) = T := by
  rw [List.filter_eq_self]
  intro p hp
  rfl
theorem rest_next {left left' : List (Int × Value)} {p : Int × Value} {T : Tab} (hT : Rises T) {c : Cell} (hc : (p.1, c) ∈ T) (hp : left.Perm (p :: left')) (hnd : (left.map (·.1)).Nodup) : tput p.1 c (T.filter (rest left)) = T.filter (rest left') := by
  refine tput_filter hT hc _ _ fun q hq => ?_
  have h1 : (p.1 :: left'.map (·.1)).Nodup := by have := (hp.map (·.1)).nodup_iff.1 hnd; simpa using this
  have h2 : ∀ x, x ∈ left.map (·.1) ↔ x = p.1 ∨ x ∈ left'.map (·.1) := fun x => by rw [(hp.map (·.1)).mem_iff]; simp
  unfold rest
  by_cases e : q.1 = p.1
  · have h3 : q.1 ∉ left'.map (·.1) := by rw [e]; exact (List.nodup_cons.1 h1).1
    have h4 : (left'.map (·.1)).contains q.1 = false := by rw [Bool.eq_false_iff]; intro h; exact h3 (List.contains_iff_mem.1 h)
    rw [h4, e]; simp
  · have h5 : (left.map (·.1)).contains q.1 = (left'.map (·.1)).contains q.1 := Bool.eq_iff_iff.2 (by rw [List.contains_iff_mem, List.contains_iff_mem, h2]; simp [e])
    rw [h5, show (q.1 == p.1) = false from beq_eq_false_iff_ne.2 e, Bool.or_false]
structure CopInv (w wr : World) (R m b2 m2 : Nat) (T : Tab) (l left : List (Int × Value)) : Prop where
  it : IterL wr R m l left
  tab : TabAt wr (up w.heap.size) b2 m2 (T.filter (rest left))
  kept : Kept none' w wr
  hR : w.heap.size ≤ R
  ne : R ≠ m2
set_option maxRecDepth 100000 in
set_option maxHeartbeats 1000000 in
theorem copy_any (B : Nat → Prop) (b m : Nat) (T : Tab) (w : World) (h : TabAt w B b m T) : Calls Try.prog 46 #[.pointer (some ⟨b, 0, none⟩)] w (CopQ w T) := by
  have hcell := h.cell
  obtain ⟨l, hl, hperm, hcs⟩ := h.map
  have HM := Lib.hid (And.intro hl (And.intro hperm hcs))
  have HT := Lib.hid h
  clear hl hperm hcs h
  go_enter Try.func46, Try.ntmps46
  go_wp2_with fail
  refine (new_any _).mono ?_
  rintro e w2 ⟨b2, m2, rfl, t2, k2⟩
  have c2 := k2.cell (p := ⟨b, 0, none⟩) (fun h => h) hcell
  obtain ⟨w3, hrun, hit, hk3, hs3⟩ := (HM.out.1.kept k2 (fun h => h)).range (P := Try.prog) Try.underlying87
  have hm2 : m2 < w2.heap.size := by obtain ⟨l2, hl2, _⟩ := t2.map; exact hl2.lt
  have I0 : CopInv w w3 w2.heap.size m b2 m2 T l l := ⟨hit, by rw [rest_start HM.out.2.1]; exact t2.pure hk3, k2.trans hk3, k2.size, by omega⟩
  have II := Lib.hid I0
  obtain ⟨R, hR⟩ : ∃ R, w2.heap.size = R := ⟨_, rfl⟩
  rw [hR] at II hrun
  clear hit hk3 hs3 I0 t2 k2
  go_wp2_with fail
  go_loopg [4] l.length (fun k i wr => ∃ left, CopInv w wr R m b2 m2 T l left ∧ left.length = k)
  case atStart => exact ⟨l, II.out, rfl⟩
  case round =>
    obtain ⟨left, hi, hlen⟩ := hrel
    have HI := Lib.hid (And.intro hi hlen)
    have hit := hi.it
    clear hi hlen
    rcases hit.next (P := Try.prog) 0 with ⟨rfl, hrun⟩ | ⟨p, left', w4, hp, hrun, hit2, hk2, hs2, hen⟩
    · clear hit
      go_wp2_with fail
      go_ret
      exact ⟨b2, m2, rfl, by have := HI.out.1.tab; rw [rest_end] at this; exact this, HI.out.1.kept⟩
    · have hnd := hit.nodup
      have hRm := hit.ne
      clear hit
      obtain ⟨c, hcT, lv, hp2, hlv, _⟩ := HM.out.2.2 p (hnd.2 p (hp.mem_iff.2 List.mem_cons_self))
      obtain ⟨p1, p2⟩ := p
      subst hp2
      obtain ⟨la, ln, lc, rfl, _⟩ := hlv.slice
      have hk4 : Kept none' w w4 := HI.out.1.kept.new hk2 (fun i hi e => by have := HI.out.1.hR; unfold one at e; omega)
      have tab4 : TabAt w4 (up w.heap.size) b2 m2 (T.filter (rest left)) := HI.out.1.tab.kept hk2 (.iter HI.out.1.it _) (fun e => HI.out.1.ne e.symm)
      obtain ⟨WA, hWA⟩ : ∃ WA, w4.alloc (.cells #[.int .i64 c.1, .slice la ln lc] 29) = WA := ⟨_, rfl⟩
      have kA : Kept none' w4 WA := by rw [← hWA]; exact (Kept.refl _ _).alloc _
      have x0 : WA.cell? ⟨w4.heap.size, 0, none⟩ = some (.int .i64 c.1) := by rw [← hWA]; simp
      have x1 : WA.cell? ⟨w4.heap.size, 1, none⟩ = some (.slice la ln lc) := by rw [← hWA]; simp
      have tabA := tab4.pure kA
      have x2 := tabA.cell
      rw [hs2] at x0 x1
      have Q := Lib.hid (And.intro hnd (And.intro hcT (And.intro hlv (And.intro hk4 (And.intro tabA (And.intro kA (And.intro hit2 hp)))))))
      clear hk4 tab4 tabA kA hnd hcT hlv hit2 hp hk2
      go_wp2_with fail
      clear hWA
      have hcok := HT.out.ok.cell _ Q.out.2.1
      have hkok := HT.out.ok.key _ Q.out.2.1
      refine wp_region_eager [0, 1, 2, 3, 4, 5, 6, 7] (fun W => Kept none' WA W) (by kernel_rfl) (by kernel_rfl) rfl (Kept.refl _ _).drew ?_
      simp only [List.map_cons, List.map_nil, List.getElem?_toArray, List.getElem?_cons_zero, List.getElem?_cons_succ, Option.getD_some]
      iterate 6 (apply wpL_float rfl rfl; (intro W hW; have z0 := hW.cell (fun h => h) x0; have z1 := hW.cell (fun h => h) x1; have z2 := hW.cell (fun h => h) x2; go_simp; rfl); go_frame)
      apply wpL_loud rfl rfl
      intro K hK
      go_wp2_with fail
      refine (own_any _ _ (ints c.2) _ (Q.out.2.2.1.pure (Q.out.2.2.2.1.trans (Q.out.2.2.2.2.2.1.trans (Kept.refl _ _).drew))) (ints_one _) (by have := hcok.2.2; simp; omega)).mono ?_
      rintro e w5 ⟨v', n', rfl, g1, g2, g3⟩
      have k5 : Kept none' WA w5 := g3.drew_left
      have tab5 := Q.out.2.2.2.2.1.pure k5
      obtain ⟨l5, hl5, hperm5, hcs5⟩ := tab5.map
      obtain ⟨w6, hup, hml6, k6, hs6⟩ := hl5.update (P := Try.prog) Try.underlying87 Try.underlying2 p1 (.agg #[.int .i64 c.1, v'])
      have hci : CellIs w5 (up w.heap.size) (.agg #[.int .i64 c.1, v']) c := CellNew.cellIs (w := WA.drew) g1 (fun k hk => Nat.le_trans (Q.out.2.2.2.1.trans Q.out.2.2.2.2.2.1).size hk)
      have htp := rest_next HT.out.ok.rises Q.out.2.1 Q.out.2.2.2.2.2.2.2 Q.out.1.1
      have tab6 : TabAt w6 (up w.heap.size) b2 m2 (T.filter (rest left')) := by
        rw [← htp]
        exact tab5.put hl5 hperm5 hcs5 hml6 k6 (hci.kept k6 (.map hl5 _)) (by rw [htp]; exact HT.out.ok.filter _)
      have F := Lib.hid (show CopInv w w6 R m b2 m2 T l left' from ⟨(Q.out.2.2.2.2.2.2.1.kept (Q.out.2.2.2.2.2.1.trans k5) (fun h => h) (fun h => h)).kept k6 (fun e => by have h0 := HM.out.1.lt; have h := Q.out.2.2.2.2.1.hm; unfold up at h; unfold one at e; omega) HI.out.1.ne, tab6, (Q.out.2.2.2.1.trans (Q.out.2.2.2.2.2.1.trans k5)).new k6 (fun i hi e => by have h := Q.out.2.2.2.2.1.hm; unfold up at h; unfold one at e; omega), HI.out.1.hR, HI.out.1.ne⟩)
      have HL := Lib.hid (show left'.length < left.length by have h1 := Q.out.2.2.2.2.2.2.2.length_eq; simp at h1; omega)
      clear tab5 hl5 hperm5 hcs5 hml6 k6 hs6 hci htp tab6 g1 g2 g3
      go_wp2_with fail
      refine hK _ _ (fun _ => k5) ?_
      clear hK
      apply wpL_loud rfl rfl
      intro K2 hK2
      go_wp2_with fail
      refine hK2 _ _ (fun h => absurd rfl h) (wpL_bar (by kernel_rfl) ?_)
      clear hK2
      go_wp2_with fail
      go_roundg left'.length
      case rel => exact ⟨left', F.out, rfl⟩
      case measure => have h1 := HL.out; have h2 := HI.out.2; omega
end Go.Proofs.Ytaalpijohdlabaa
