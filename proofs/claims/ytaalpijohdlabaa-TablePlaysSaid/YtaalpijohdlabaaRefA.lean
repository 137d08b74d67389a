/-
  The document's tables in memory; less, find, many.
-/
import Derived.Test.YtaalpijohdlabaaTab8
import Derived.Test.YtaalpijohdlabaaExpB
import Derived.IntWalk
namespace Go.Proofs.Ytaalpijohdlabaa
open Go Go.RowKit
attribute [local irreducible] wpL
theorem rof_any (k : Int) (h : R64 k) (w : World) : Calls Try.prog 81 #[.int .i64 k] w fun e w' => e = .returned (.int .i64 (grp k)) ∧ w = w' := by
  have h1 : (wrap64 (k.tmod 8 + 8)).tmod 8 = grp k := by
    have e := tmod8 k
    obtain ⟨a, b⟩ := h
    unfold grp
    rw [e]
    split
    · rw [IntWalk.wrap64_in _ (by omega), Int.tmod_eq_emod_of_nonneg (by omega)]; omega
    · rw [IntWalk.wrap64_in _ (by omega), Int.tmod_eq_emod_of_nonneg (by omega)]; omega
  go_enter Try.func81, Try.ntmps81
  go_wp2_with fail
  go_ret
  exact ⟨rfl, rfl⟩
theorem less_any (a b : Int) (ha : R64 a) (hb : R64 b) (w : World) : Calls Try.prog 79 #[.int .i64 a, .int .i64 b] w fun e w' => e = .returned (.bool (lessB a b)) ∧ w = w' := by
  have H1 := Lib.hid ha
  have H2 := Lib.hid hb
  clear ha hb
  by_cases h1 : grp a < grp b
  · have e : lessB a b = true := lessB_iff.2 (.inl h1)
    rw [e]
    clear e
    go_enter Try.func79, Try.ntmps79
    go_wp2_with fail
    refine (rof_any a H1.out _).mono ?_
    rintro e w' ⟨rfl, rfl⟩
    go_wp2_with fail
    refine (rof_any b H2.out _).mono ?_
    rintro e w' ⟨rfl, rfl⟩
    go_wp2_with fail
    go_ret
    exact ⟨rfl, rfl⟩
  · have h1' : decide (grp a < grp b) = false := decide_eq_false h1
    by_cases h2 : grp a = grp b
    · have h3 : (grp a == grp b) = true := by simp [h2]
      have e : lessB a b = decide (a < b) := by unfold lessB; rw [decide_eq_false h1, decide_eq_true h2]; simp
      rw [e]
      clear e h2
      by_cases h4 : a < b
      · have h5 : decide (a < b) = true := decide_eq_true h4
        rw [h5]
        go_enter Try.func79, Try.ntmps79
        go_wp2_with fail
        refine (rof_any a H1.out _).mono ?_
        rintro e w' ⟨rfl, rfl⟩
        go_wp2_with fail
        refine (rof_any b H2.out _).mono ?_
        rintro e w' ⟨rfl, rfl⟩
        go_wp2_with fail
        go_ret
        exact ⟨rfl, rfl⟩
      · have h5 : decide (a < b) = false := decide_eq_false h4
        rw [h5]
        go_enter Try.func79, Try.ntmps79
        go_wp2_with fail
        refine (rof_any a H1.out _).mono ?_
        rintro e w' ⟨rfl, rfl⟩
        go_wp2_with fail
        refine (rof_any b H2.out _).mono ?_
        rintro e w' ⟨rfl, rfl⟩
        go_wp2_with fail
        go_ret
        exact ⟨rfl, rfl⟩
    · have h3 : (grp a == grp b) = false := by simp [h2]
      have e : lessB a b = false := by unfold lessB; rw [decide_eq_false h1, decide_eq_false h2]; rfl
      rw [e]
      clear e h2
      go_enter Try.func79, Try.ntmps79
      go_wp2_with fail
      refine (rof_any a H1.out _).mono ?_
      rintro e w' ⟨rfl, rfl⟩
      go_wp2_with fail
      refine (rof_any b H2.out _).mono ?_
      rintro e w' ⟨rfl, rfl⟩
      go_wp2_with fail
      go_ret
      exact ⟨rfl, rfl⟩
/-- A row of the document's table in memory. -/
def RRow (w : World) (b o : Nat) (p : Int × Cell) : Prop :=
  w.cell? ⟨b, o, none⟩ = some (.int .i64 p.1) ∧ w.cell? ⟨b, o + 1, none⟩ = some (.int .i64 p.2.1) ∧ ∃ lv, w.cell? ⟨b, o + 2, none⟩ = some lv ∧ Reads w 1 lv (ints p.2.2)
/-- The cells of rows. -/
def RRows (w : World) (cs : List Value) (T : Tab) : Prop :=
  cs.length = T.length * 3 ∧ ∀ (i : Nat) (p : Int × Cell), T[i]? = some p → cs[i * 3]? = some (.int .i64 p.1) ∧ cs[i * 3 + 1]? = some (.int .i64 p.2.1) ∧ ∃ lv, cs[i * 3 + 2]? = some lv ∧ Reads w 1 lv (ints p.2.2)
/-- A slice of rows that reads as a table. -/
def RTabV (w : World) (v : Value) (T : Tab) : Prop := ∃ cs, Reads w 3 v cs ∧ RRows w cs T
theorem RRows.pure {w w' : World} {cs : List Value} {T : Tab} (h : RRows w cs T) (hk : Kept none' w w') : RRows w' cs T :=
  ⟨h.1, fun i p hp => by obtain ⟨a, b, lv, c, d⟩ := h.2 i p hp; exact ⟨a, b, lv, c, d.pure hk⟩⟩
theorem RTabV.pure {w w' : World} {v : Value} {T : Tab} (h : RTabV w v T) (hk : Kept none' w w') : RTabV w' v T := by
  obtain ⟨cs, h1, h2⟩ := h
  exact ⟨cs, h1.pure hk, h2.pure hk⟩
theorem RTabV.parts {w : World} {v : Value} {T : Tab} (h : RTabV w v T) : ∃ a cap, v = .slice a T.length cap ∧ T.length ≤ cap ∧ cap ≤ maxLen ∧ (T = [] ∨ ∃ b off, a = some ⟨b, off, none⟩ ∧ ∀ i p, T[i]? = some p → RRow w b (off + i * 3) p) := by
  obtain ⟨cs, ⟨a, n, cap, rfl, h1, h2, h3, h4⟩, h5, h6⟩ := h
  have hn : n = T.length := by omega
  subst hn
  refine ⟨a, cap, rfl, h1, h2, ?_⟩
  rcases h4 with h4 | ⟨b, off, rfl, h4⟩
  · left
    rw [h4] at h5
    exact List.eq_nil_of_length_eq_zero (by simp at h5; omega)
  · right
    refine ⟨b, off, rfl, fun i p hp => ?_⟩
    obtain ⟨x, y, lv, z, t⟩ := h6 i p hp
    exact ⟨h4 _ _ x, h4 _ _ y, lv, h4 _ _ z, t⟩
theorem RRow.pure {w w' : World} {b o : Nat} {p : Int × Cell} (h : RRow w b o p) (hk : Kept none' w w') : RRow w' b o p := by
  obtain ⟨a, b, lv, c, d⟩ := h
  exact ⟨hk.cell (fun h => h) a, hk.cell (fun h => h) b, lv, hk.cell (fun h => h) c, d.pure hk⟩
/-- The document's table, its struct in block b. -/
structure RTabAt (w : World) (b : Nat) (T : Tab) : Prop where
  obj : ∃ v, w.heap[b]? = some (.cells #[v] 74 (0, 0)) ∧ RTabV w v T
  ok : TOk T
theorem RTabAt.pure {w w' : World} {b : Nat} {T : Tab} (h : RTabAt w b T) (hk : Kept none' w w') : RTabAt w' b T := by
  obtain ⟨⟨v, h1, h2⟩, h3⟩ := h
  exact ⟨⟨v, hk.heap h1 (fun h => h), h2.pure hk⟩, h3⟩
/-- Where a key is, or would be. -/
def tfind (k : Int) : Tab → Nat
  | [] => 0
  | p :: T => if lessB p.1 k then tfind k T + 1 else 0
theorem tfind_le (k : Int) : ∀ T : Tab, tfind k T ≤ T.length
  | [] => Nat.le_refl _
  | p :: T => by unfold tfind; split; have := tfind_le k T; simp; omega; exact Nat.zero_le _
theorem tfind_less {k : Int} : ∀ {T : Tab} {i : Nat} {p : Int × Cell}, i < tfind k T → T[i]? = some p → lessB p.1 k = true
  | q :: T, 0, p, h, hp => by
    cases hp
    unfold tfind at h
    split at h
    · assumption
    · omega
  | q :: T, i + 1, p, h, hp => by
    unfold tfind at h
    split at h
    · exact tfind_less (T := T) (i := i) (by omega) (by simpa using hp)
    · omega
theorem tfind_stop {k : Int} : ∀ {T : Tab} {p : Int × Cell}, T[tfind k T]? = some p → lessB p.1 k = false
  | q :: T, p, hp => by
    unfold tfind at hp
    split at hp
    · exact tfind_stop (T := T) (by simpa using hp)
    · rename_i h
      cases hp
      simpa using h
/-- The key there is the key itself just if the table has it. -/
theorem tfind_is {k : Int} {T : Tab} (hT : Rises T) : (match T[tfind k T]? with | some p => p.1 == k | none => false) = (tget T k).isSome := by
  induction T with
  | nil => rfl
  | cons q T ih =>
    obtain ⟨h1, h2⟩ := List.pairwise_cons.1 hT
    unfold tfind tget
    rw [List.find?_cons]
    by_cases hl : lessB q.1 k = true
    · rw [if_pos hl]
      have hne : (k == q.1) = false := by
        simp; intro e; subst e; rw [lessB_irrefl] at hl; cases hl
      rw [hne]
      have := ih h2
      unfold tget at this
      simpa using this
    · rw [if_neg hl]
      by_cases he : k = q.1
      · subst he; simp
      · have hkq : lessB k q.1 = true := (lessB_total he).resolve_right hl
        have e1 : (k == q.1) = false := by simp [he]
        have e2 : (q.1 == k) = false := by simp; exact fun e => he e.symm
        rw [e1]
        have : T.find? (fun p => k == p.1) = none := by
          rw [List.find?_eq_none]
          intro x hx e
          have := lessB_trans hkq (h1 x hx)
          simp at e; rw [e, lessB_irrefl] at this; cases this
        rw [this]
        simp [e2]
end Go.Proofs.Ytaalpijohdlabaa
/-
  The document's tables: find, many.
-/
namespace Go.Proofs.Ytaalpijohdlabaa
open Go Go.RowKit
attribute [local irreducible] wpL
def FindQ (w : World) (n : Nat) (b : Bool) (e : Ending) (w' : World) : Prop := e = .returned (.tuple #[.int .i64 (n : Int), .bool b]) ∧ Kept none' w w'
set_option maxRecDepth 100000 in
set_option maxHeartbeats 1000000 in
theorem find_any (b : Nat) (T : Tab) (k : Int) (w : World) (h : RTabAt w b T) (hk : R64 k) : Calls Try.prog 84 #[.pointer (some ⟨b, 0, none⟩), .int .i64 k] w (FindQ w (tfind k T) (tget T k).isSome) := by
  obtain ⟨⟨v, hobj, hrt⟩, hok⟩ := h
  obtain ⟨pa, pcap, rfl, hc1, hc2, hcl⟩ := hrt.parts
  have c0 : w.cell? ⟨b, 0, none⟩ = some (.slice pa T.length pcap) := cells_at hobj rfl
  have hT := hok.len
  unfold maxLen at hc2
  have HC := Lib.hid (And.intro hcl hok)
  have HIS := Lib.hid (tfind_is (k := k) hok.rises)
  have HK := Lib.hid hk
  have hfl := tfind_le k T
  clear hobj hrt hcl hok hk
  go_enter Try.func84, Try.ntmps84
  go_wp2
  go_loopg [6] T.length (fun g vi wr => ∃ i : Nat, i ≤ tfind k T ∧ vi = .int .i64 (i : Int) ∧ T.length - i ≤ g ∧ wr = w)
  case atStart => exact ⟨0, Nat.zero_le _, rfl, by omega, rfl⟩
  case round =>
    obtain ⟨i, hif, rfl, hg, rfl⟩ := hrel
    by_cases hlt : i < T.length
    · obtain ⟨p, hp⟩ : ∃ p, T[i]? = some p := ⟨_, List.getElem?_eq_getElem hlt⟩
      obtain ⟨rb, ro, rfl, hr⟩ := HC.out.1.resolve_left (fun h => by rw [h] at hp; cases hp)
      obtain ⟨x0, x1, lv, x2, x3⟩ := hr i p hp
      have hp64 := HC.out.2.key p (List.mem_of_getElem? hp)
      have LS := Lib.hid (fun W => less_any p.1 k hp64 HK.out W)
      have HP := Lib.hid hp
      clear hr x1 x2 x3 hp64
      by_cases hii : i < tfind k T
      · have hl := tfind_less hii hp
        have HL := Lib.hid hl
        clear hp hl
        go_wp2_with fail
        (with_reducible refine (LS.out _).mono ?_)
        rintro e w' ⟨rfl, rfl⟩
        rw [HL.out]
        go_wp2_with fail
        go_roundg (T.length - (i + 1))
        case rel => exact ⟨i + 1, by omega, by go_num, Nat.le_refl _, rfl⟩
        case measure => omega
      · have hie : i = tfind k T := by omega
        have hl : lessB p.1 k = false := tfind_stop (by rw [← hie]; exact hp)
        have his : (p.1 == k) = (tget T k).isSome := by
          have := HIS.out
          rw [← hie, hp] at this
          exact this
        have HL := Lib.hid (And.intro hl (And.intro hie his))
        clear hp hl hie his
        go_wp2_with fail
        (with_reducible refine (LS.out _).mono ?_)
        rintro e w' ⟨rfl, rfl⟩
        rw [HL.out.1]
        go_wp2_with fail
        obtain ⟨bb, hbb⟩ : ∃ bb, (p.1 == k) = bb := ⟨_, rfl⟩
        have HB := Lib.hid hbb
        refine wp_region_eager [0, 1, 2, 3, 4, 5, 6, 7, 8, 9, 10, 11, 12, 13, 14, 15, 16, 17, 18, 19, 20, 21] (fun W => Kept none' wr W) (by kernel_rfl) (by kernel_rfl) rfl (Kept.refl _ _).drew ?_
        simp only [List.map_cons, List.map_nil, List.getElem?_toArray, List.getElem?_cons_zero, List.getElem?_cons_succ, Option.getD_some]
        iterate 22 (first | (apply wpL_skip rfl; go_frame) | (apply wpL_float rfl rfl; (intro W hW; have z0 := hW.cell (fun h => h) c0; have z1 := hW.cell (fun h => h) x0; go_simp; rfl); go_frame))
        refine wpL_nil (fun _ => (Kept.refl _ _).drew) ?_
        go_wp2_with fail
        go_ret2
        rw [← HL.out.2.1, ← HL.out.2.2, HB.out]
        exact ⟨rfl, (Kept.refl _ _).drew⟩
    · have hie : i = T.length := by omega
      have hit : i = tfind k T := by omega
      have his : (tget T k).isSome = false := by
        have := HIS.out
        rw [← hit, List.getElem?_eq_none (by omega)] at this
        exact this.symm
      have HL := Lib.hid (And.intro hit his)
      have hlt2 : ¬ ((i : Nat) : Int) < (T.length : Int) := by omega
      have hlt3 : decide (i < T.length) = false := decide_eq_false hlt
      clear hie hit his
      go_wp2_with fail
      refine wp_region_eager [0, 1, 2, 3, 4, 5, 6, 7, 8, 9, 10, 11, 12, 13, 14, 15, 16, 17, 18, 19, 20, 21] (fun W => Kept none' wr W) (by kernel_rfl) (by kernel_rfl) rfl (Kept.refl _ _).drew ?_
      simp only [List.map_cons, List.map_nil, List.getElem?_toArray, List.getElem?_cons_zero, List.getElem?_cons_succ, Option.getD_some]
      iterate 22 (first | (apply wpL_skip rfl; go_frame) | (apply wpL_float rfl rfl; (intro W hW; have z0 := hW.cell (fun h => h) c0; go_simp; rfl); go_frame))
      refine wpL_nil (fun _ => (Kept.refl _ _).drew) ?_
      go_wp2_with fail
      go_ret2
      rw [← HL.out.1, HL.out.2]
      exact ⟨rfl, (Kept.refl _ _).drew⟩
theorem tmany_take {T : Tab} {i : Nat} {p : Int × Cell} {g : Int} (h : T[i]? = some p) : tmany (T.take (i + 1)) g = tmany (T.take i) g + if grp p.1 = g then 1 else 0 := by
  unfold tmany
  rw [List.take_add_one, h, List.countP_append]
  simp [List.countP_cons]
set_option maxRecDepth 100000 in
set_option maxHeartbeats 1000000 in
theorem rmany_any (b : Nat) (T : Tab) (g : Int) (w : World) (h : RTabAt w b T) : Calls Try.prog 80 #[.pointer (some ⟨b, 0, none⟩), .int .i64 g] w (Is w (.int .i64 (tmany T g))) := by
  obtain ⟨⟨v, hobj, hrt⟩, hok⟩ := h
  obtain ⟨pa, pcap, rfl, hc1, hc2, hcl⟩ := hrt.parts
  have c0 : w.cell? ⟨b, 0, none⟩ = some (.slice pa T.length pcap) := cells_at hobj rfl
  have hT := hok.len
  unfold maxLen at hc2
  have HC := Lib.hid (And.intro hcl hok)
  clear hobj hrt hcl hok
  go_enter Try.func80, Try.ntmps80
  go_wp2
  go_loopg [5, 6] T.length (fun gg vn vi wr => ∃ i : Nat, i ≤ T.length ∧ vi = .int .i64 (i : Int) ∧ vn = .int .i64 ((tmany (T.take i) g : Nat) : Int) ∧ T.length - i ≤ gg ∧ wr = w)
  case atStart => exact ⟨0, Nat.zero_le _, rfl, by simp [tmany], by omega, rfl⟩
  case round =>
    obtain ⟨i, hif, rfl, rfl, hg, rfl⟩ := hrel
    by_cases hlt : i < T.length
    · obtain ⟨p, hp⟩ : ∃ p, T[i]? = some p := ⟨_, List.getElem?_eq_getElem hlt⟩
      obtain ⟨rb, ro, rfl, hr⟩ := HC.out.1.resolve_left (fun h => by rw [h] at hp; cases hp)
      obtain ⟨x0, x1, lv, x2, x3⟩ := hr i p hp
      have hp64 := HC.out.2.key p (List.mem_of_getElem? hp)
      have hm : tmany (T.take i) g ≤ 320 := by
        have h1 : tmany (T.take i) g ≤ (T.take i).length := List.countP_le_length
        have h2 := List.length_take_le' i T
        omega
      have HP := Lib.hid (And.intro hp hp64)
      have hst := tmany_take (g := g) hp
      have HS := Lib.hid hst
      obtain ⟨N, hN⟩ : ∃ N, tmany (T.take i) g = N := ⟨_, rfl⟩
      rw [hN] at hm HS ⊢
      clear hr x1 x2 x3 hp64 hp hst hN
      by_cases he : grp p.1 = g
      · have heb : (grp p.1 == g) = true := by simp [he]
        have HE := Lib.hid he
        clear he
        go_wp2_with fail
        refine (rof_any p.1 HP.out.2 _).mono ?_
        rintro e w' ⟨rfl, rfl⟩
        go_wp2_with fail
        go_roundg (T.length - (i + 1))
        case rel => exact ⟨i + 1, by omega, by go_num, by rw [HS.out, if_pos HE.out]; go_num, Nat.le_refl _, rfl⟩
        case measure => omega
      · have heb : (grp p.1 == g) = false := by simp [he]
        have HE := Lib.hid he
        clear he
        go_wp2_with fail
        refine (rof_any p.1 HP.out.2 _).mono ?_
        rintro e w' ⟨rfl, rfl⟩
        go_wp2_with fail
        go_roundg (T.length - (i + 1))
        case rel => exact ⟨i + 1, by omega, by go_num, by rw [HS.out, if_neg HE.out]; rfl, Nat.le_refl _, rfl⟩
        case measure => omega
    · have hie : i = T.length := by omega
      subst hie
      rw [List.take_of_length_le (Nat.le_refl _)]
      have hlt2 : ¬ ((T.length : Nat) : Int) < (T.length : Int) := by omega
      go_wp2_with fail
      go_ret
      exact ⟨rfl, rfl⟩
end Go.Proofs.Ytaalpijohdlabaa
