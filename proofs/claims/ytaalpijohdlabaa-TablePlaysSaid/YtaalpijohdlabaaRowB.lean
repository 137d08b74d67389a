/-
  TableRow: its walk.
-/
import Derived.Test.YtaalpijohdlabaaRowA
namespace Go.Proofs.Ytaalpijohdlabaa
open Go Go.RowKit
theorem HasAt.noCells {w : World} {m : Nat} {T : Tab} (h : HasAt w m T) (B : Nat → Prop) : NoCells w (one m) B := by
  obtain ⟨l, h1, _⟩ := h
  exact .map h1 B
theorem keys_get {T : Tab} {k : Nat} {x : Int} (h : (tkeys T)[k]? = some x) : ∃ c, tget T x = some c := by
  cases ht : tget T x with
  | some c => exact ⟨c, rfl⟩
  | none => exact absurd (List.mem_of_getElem? h) (tget_none.1 ht)
theorem keys_rise {T : Tab} (hT : Rises T) {k : Nat} {x y : Int} (hx : (tkeys T)[k]? = some x) (hy : (tkeys T)[k + 1]? = some y) : lessB x y = true := by
  have hp : (tkeys T).Pairwise (fun a b => lessB a b = true) := by unfold tkeys; rw [List.pairwise_map]; exact hT
  obtain ⟨h1, rfl⟩ := List.getElem?_eq_some_iff.1 hx
  obtain ⟨h2, rfl⟩ := List.getElem?_eq_some_iff.1 hy
  exact List.pairwise_iff_getElem.1 hp k (k + 1) h1 h2 (by omega)
theorem putE_nil (T : Tab) (k : Int) : (putE T k 0 = 0 ∨ putE T k 0 = 7) := by
  unfold putE
  rw [if_neg (by omega)]
  split
  · exact .inr rfl
  · exact .inl rfl
theorem RowInv.put {w wr w' : World} {b m M : Nat} {T : Tab} {k : Int} {c : Cell} {e : Ending} (h : RowInv w wr b m M T) (hne : m ≠ M) (hq : PutQ wr (up w.heap.size) b m T k c e w') :
    TabAt w' (up w.heap.size) b m (putT T k c) ∧ HasAt w' M T ∧ Kept none' w w' :=
  ⟨hq.2.1, h.has.kept hq.2.2 (fun e => hne e.symm), PutQ.none hq h.kept h.tab.hm⟩
theorem RowInv.drop {w wr w' : World} {b m M : Nat} {T : Tab} {k : Int} {e : Ending} (h : RowInv w wr b m M T) (hne : m ≠ M) (hq : DropQ wr (up w.heap.size) b m T k e w') :
    TabAt w' (up w.heap.size) b m (tdrop k T) ∧ HasAt w' M T ∧ Kept none' w w' :=
  ⟨hq.2.1, h.has.kept hq.2.2 (fun e => hne e.symm), h.kept.new hq.2.2 (fun i hi e => by have := h.tab.hm; unfold one at e; omega)⟩
set_option maxRecDepth 100000 in
set_option maxHeartbeats 1000000 in
theorem row_walk (v : Value) (ops : List Op) (w : World) (h : OpsAt w v ops) : Calls Try.prog 4 #[v] w (Gives w (.bool true)) := by
  have hH := heavy_any v ops w h
  obtain ⟨a, cap, rfl, h1, h2, hok, h3⟩ := h
  unfold maxLen at h2
  have H3 := Lib.hid h3
  have HOK := Lib.hid hok
  have hmm := @run_makeMap Try.prog
  clear hok h3
  cases hv : heavyB ops with
  | true =>
    rw [hv] at hH
    have HV := Lib.hid hv
    clear hv
    go_enter Try.func4, Try.ntmps4
    go_wp2_with fail
    refine hH.mono ?_
    rintro e w1 ⟨rfl, k1⟩
    go_wp2_with fail
    refine (works16 _).mono ?_
    rintro e w2 ⟨rfl, k2⟩
    go_wp2_with fail
    go_ret
    exact ⟨rfl, k1.trans k2⟩
  | false =>
    rw [hv] at hH
    have HV := Lib.hid hv
    clear hv
    go_enter Try.func4, Try.ntmps4
    go_wp2_with fail
    refine hH.mono ?_
    rintro e w1 ⟨rfl, k1⟩
    clear hH
    go_wp2_with fail
    refine (new_any _).mono ?_
    rintro e w2 ⟨b, m, rfl, ht2, k2⟩
    go_wp2_with fail
    have hm := ht2.lt
    have I0 : RowInv w (w2.alloc (.map #[] 0)) b m w2.heap.size [] := ⟨(ht2.mono (fun k hk _ => k1.up k hk)).pure ((Kept.refl _ _).alloc _), .made _, (k1.trans k2).alloc _⟩
    obtain ⟨M, hM⟩ : ∃ M, w2.heap.size = M := ⟨_, rfl⟩
    obtain ⟨W2, hW2⟩ : ∃ W2, w2.alloc (.map #[] 0) = W2 := ⟨_, rfl⟩
    rw [hM] at I0 hm ⊢
    rw [hW2] at I0 ⊢
    have II := Lib.hid I0
    have hs : w.heap.size ≤ M := by have := (k1.trans k2).size; omega
    have hne : m ≠ M := by omega
    clear hM hW2 ht2 k1 k2 I0
    go_loopw [23] (fun i wr => ∃ k T, k ≤ ops.length ∧ i = .int .i64 ((k : Nat) : Int) ∧ RowInv w wr b m M T) (fun i _ => ops.length - (intOf i).toNat)
    case atStart => exact ⟨0, _, by omega, rfl, II.out⟩
    case round =>
      obtain ⟨k, T, hk, rfl, hi⟩ := hrel
      have HI := Lib.hid hi
      clear hi
      by_cases hlt : k < ops.length
      · obtain ⟨o, ho⟩ : ∃ o, ops[k]? = some o := ⟨_, List.getElem?_eq_getElem hlt⟩
        obtain ⟨bb, off, rfl, hc⟩ := H3.out.resolve_left (fun h => by rw [h] at hlt; simp at hlt)
        obtain ⟨q0, q1, q2, L, q3, hL⟩ := (hc k o ho).pure HI.out.kept
        obtain ⟨La, Ln, Lc, rfl, hLn, hLm, hLl, hL2⟩ := hL
        have hoo := HOK.out o (List.mem_of_getElem? ho)
        have HO := Lib.hid ho
        have HOO := Lib.hid hoo
        clear hc ho hLl hL2 H3 hoo
        by_cases g0 : o.kind = 0
        · have e0 : (o.kind == 0) = true := by simp [g0]
          go_wp2_with fail
          obtain ⟨W3, hW3⟩ : ∃ W3, wr.alloc (.cells #[.int .i64 0, .int .i64 o.key, .int .i64 o.acc, .slice La Ln Lc] 37) = W3 := ⟨_, rfl⟩
          have J0 : RowInv w W3 b m M T := by rw [← hW3]; exact HI.out.alloc _
          have d1 : W3.cell? ⟨wr.heap.size, 1, none⟩ = some (.int .i64 o.key) := by rw [← hW3]; simp
          have d2 : W3.cell? ⟨wr.heap.size, 2, none⟩ = some (.int .i64 o.acc) := by rw [← hW3]; simp
          have hlt3 := HI.out.tab.lt
          have hlt4 : wr.heap.size < W3.heap.size := by rw [← hW3]; simp
          have J := Lib.hid J0
          have D1 := Lib.hid d1
          have D2 := Lib.hid d2
          clear J0 d1 d2
          rw [hW3]
          clear hW3
          refine (put_any (up w.heap.size) b m T o.key (o.acc, []) (.slice none 0 0) W3 J.out.tab J.out.kept.up HOO.out.key HOO.out.acc (by simp) (by simp) (Reads.nil _ _)).mono ?_
          rintro e w4 hq
          have hh := J.out.put hne hq
          have f1 := hq.2.2.cell (p := ⟨wr.heap.size, 1, none⟩) (by unfold one; simp; omega) D1.out
          have f2 := hq.2.2.cell (p := ⟨wr.heap.size, 2, none⟩) (by unfold one; simp; omega) D2.out
          obtain ⟨rfl, _, _⟩ := hq
          simp only [List.length_nil]
          have HH := Lib.hid hh
          clear hh
          rcases putE_nil T o.key with hE | hE
          · rw [hE]
            have hT : putT T o.key (o.acc, []) = tput o.key (o.acc, []) T := by unfold putT; rw [if_pos (by simp only [List.length_nil]; exact hE)]
            obtain ⟨w5, hup, hhas, hk5, hs5⟩ := HH.out.2.1.put HI.out.tab.ok.rises o.key (o.acc, [])
            have FF : RowInv w w5 b m M (tput o.key (o.acc, []) T) := by
              refine ⟨?_, hhas, HH.out.2.2.new hk5 (fun i hi e => by unfold one at e; omega)⟩
              rw [← hT]
              exact HH.out.1.kept hk5 (HH.out.2.1.noCells _) (fun e => hne e)
            have F := Lib.hid FF
            clear FF hhas hk5 hs5 hT
            go_wp2_with fail
            go_roundw
            case rel => exact ⟨k + 1, _, by omega, by go_num, F.out⟩
            case measure => simp [intOf]; omega
          · rw [hE]
            have hT : putT T o.key (o.acc, []) = T := by unfold putT; rw [if_neg (by simp only [List.length_nil]; rw [hE]; decide)]
            have FF : RowInv w w4 b m M T := ⟨by rw [← hT]; exact HH.out.1, HH.out.2.1, HH.out.2.2⟩
            have F := Lib.hid FF
            clear FF hT
            go_wp2_with fail
            go_roundw
            case rel => exact ⟨k + 1, _, by omega, by go_num, F.out⟩
            case measure => simp [intOf]; omega
        · by_cases g1 : o.kind = 1
          · have e0 : (o.kind == 0) = false := by simp [g0]
            have e1 : (o.kind == 1) = true := by simp [g1]
            obtain ⟨W3, hW3⟩ : ∃ W3, wr.alloc (.cells #[.int .i64 1, .int .i64 o.key, .int .i64 o.acc, .slice La Ln Lc] 37) = W3 := ⟨_, rfl⟩
            have J0 : RowInv w W3 b m M T := by rw [← hW3]; exact HI.out.alloc _
            have d1 : W3.cell? ⟨wr.heap.size, 1, none⟩ = some (.int .i64 o.key) := by rw [← hW3]; simp
            have hlt3 := HI.out.tab.lt
            have hlk : (Instr.lookup 35 (.map (some M)) (.int .i64 o.key) true).run Try.prog (wr.alloc (.cells #[.int .i64 1, .int .i64 o.key, .int .i64 o.acc, .slice La Ln Lc] 37)) = _ :=
              (HI.out.alloc (.cells #[.int .i64 1, .int .i64 o.key, .int .i64 o.acc, .slice La Ln Lc] 37)).has.lookup HI.out.tab.ok.rises o.key
            unfold accOf at hlk
            have J := Lib.hid J0
            have D1 := Lib.hid d1
            have HW3 := Lib.hid hW3
            clear J0 d1 hW3
            go_wp2_with fail
            rw [HW3.out]
            clear HW3 hlk
            refine (drop_any (up w.heap.size) b m T o.key W3 J.out.tab).mono ?_
            rintro e w4 hq
            have hh := J.out.drop hne hq
            have f1 := hq.2.2.cell (p := ⟨wr.heap.size, 1, none⟩) (by unfold one; simp; omega) D1.out
            obtain ⟨rfl, _, _⟩ := hq
            have hsame : ((tget T o.key).isSome != (tget T o.key).isSome) = false := by simp
            obtain ⟨w5, hup, hhas, hk5, hs5⟩ := hh.2.1.drop o.key
            have FF : RowInv w w5 b m M (tdrop o.key T) := ⟨hh.1.kept hk5 (hh.2.1.noCells _) (fun e => hne e), hhas, hh.2.2.new hk5 (fun i hi e => by unfold one at e; omega)⟩
            have F := Lib.hid FF
            clear FF hhas hk5 hs5 hh
            go_wp2_with fail
            go_roundw
            case rel => exact ⟨k + 1, _, by omega, by go_num, F.out⟩
            case measure => simp [intOf]; omega
          · have e0 : (o.kind == 0) = false := by simp [g0]
            have e1 : (o.kind == 1) = false := by simp [g1]
            go_wp2_with fail
            go_roundw
            case rel => exact ⟨k + 1, _, by omega, by go_num, HI.out.alloc _⟩
            case measure => simp [intOf]; omega
      · go_wp2_with fail
        have hle := HI.out.kept.size
        refine (keys_any (up w.heap.size) b m T wr HI.out.tab).mono ?_
        rintro e w5 ⟨kv, rfl, g1, g2, g3⟩
        have hr := Reads.of_owns g1
        have I5 : RowInv w w5 b m M T := ⟨HI.out.tab.pure g3, HI.out.has.kept (S := none') g3 (fun h => h), HI.out.kept.trans g3⟩
        have hlenT : (tkeys T).length = T.length := by simp [tkeys]
        have hneq : (((tkeys T).length : Int) != (T.length : Int)) = false := by rw [hlenT]; simp
        have hlen := fun ty => I5.has.len HI.out.tab.ok.rises ty
        obtain ⟨pa, ca, rfl, ka1, ka2, ka3⟩ := hr.at
        unfold maxLen at ka2
        have I := Lib.hid I5
        have KA := Lib.hid ka3
        have HL := Lib.hid hlenT
        clear hr g1 g2 g3 I5 ka3 hlenT
        go_wp2_with fail
        clear hlen hneq
        go_loopw [74] (fun i wr' => ∃ k : Nat, k ≤ (tkeys T).length ∧ i = .int .i64 k ∧ Kept none' w5 wr') (fun i _ => (tkeys T).length - (intOf i).toNat)
        case atStart => exact ⟨0, by omega, rfl, Kept.refl _ _⟩
        case round =>
          obtain ⟨j, hj, rfl, hkp⟩ := hrel
          by_cases hjl : j < (tkeys T).length
          · obtain ⟨key, hkey⟩ : ∃ key, (tkeys T)[j]? = some key := ⟨_, List.getElem?_eq_getElem hjl⟩
            obtain ⟨kb, ko, rfl, hkc⟩ := KA.out.resolve_left (fun h => by rw [h] at hjl; simp at hjl)
            have r0 := hkp.cell (p := ⟨kb, ko + j, none⟩) (fun h => h) (hkc j key hkey)
            obtain ⟨c, hgc⟩ := keys_get hkey
            have HK := Lib.hid hkey
            have HKC := Lib.hid hkc
            have HG := Lib.hid hgc
            clear hkey hkc hgc KA
            go_wp2_with fail
            refine (get_any (up w.heap.size) b m T key _ (I.out.tab.pure hkp)).mono ?_
            rintro e w6 ⟨lv, n6, rfl, g1, g2, k6⟩
            rw [HG.out] at g1 g2 ⊢
            simp only [Option.getD_some, Option.isSome_some] at g1 g2 ⊢
            obtain ⟨a6, c6, rfl⟩ := owns_slice g1
            clear g1 g2
            have k7 : Kept none' w5 (w6.alloc (.cells #[.int .i64 c.1, .slice a6 n6 c6] 29)) := (hkp.trans k6).alloc _
            have hlk : (Instr.lookup 35 (.map (some M)) (.int .i64 key) true).run Try.prog (w6.alloc (.cells #[.int .i64 c.1, .slice a6 n6 c6] 29)) = _ := (I.out.has.kept (S := none') k7 (fun h => h)).lookup HI.out.tab.ok.rises key
            rw [HG.out] at hlk
            simp only [accOf, Option.getD_some, Option.isSome_some] at hlk
            have hsame : (c.1 != c.1) = false := by simp
            rcases j with _ | j
            · go_wp2_with fail
              go_roundw
              case rel => exact ⟨1, by omega, by go_num, k7⟩
              case measure => simp [intOf]; omega
            · obtain ⟨prev, hprev⟩ : ∃ prev, (tkeys T)[j]? = some prev := ⟨_, List.getElem?_eq_getElem (by omega)⟩
              have r1 := k7.cell (p := ⟨kb, ko + j, none⟩) (fun h => h) (HKC.out j prev hprev)
              have hless := keys_rise HI.out.tab.ok.rises hprev HK.out
              rw [lessB_iff] at hless
              have n1 : ¬ grp key < grp prev := by omega
              clear hprev
              by_cases ge : grp prev = grp key
              · have b1 : (grp prev == grp key) = true := by simp [ge]
                have b2 : ¬ key ≤ prev := by omega
                have BE := Lib.hid ge
                clear hless ge
                go_wp2_with (go_at_call 22; refine (of_any _ _).mono ?_; rintro e w' ⟨rfl, rfl⟩)
                go_roundw
                case rel => exact ⟨j + 1 + 1, by omega, by go_num, k7⟩
                case measure => simp [intOf]; omega
              · have b1 : (grp prev == grp key) = false := by simp [ge]
                have BE := Lib.hid ge
                clear hless ge
                go_wp2_with (go_at_call 22; refine (of_any _ _).mono ?_; rintro e w' ⟨rfl, rfl⟩)
                go_roundw
                case rel => exact ⟨j + 1 + 1, by omega, by go_num, k7⟩
                case measure => simp [intOf]; omega
          · go_wp2_with fail
            refine (works16 _).mono ?_
            rintro e w7 ⟨rfl, k7⟩
            go_wp2_with fail
            go_ret
            exact ⟨rfl, I.out.kept.trans (hkp.trans k7)⟩
end Go.Proofs.Ytaalpijohdlabaa
