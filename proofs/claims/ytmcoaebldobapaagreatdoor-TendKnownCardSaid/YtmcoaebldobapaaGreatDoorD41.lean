/-
  The machine's answer for the keys in order tells the truth.
-/
import Derived.Test.YtmcoaebldobapaaGreatDoorD40
set_option linter.unusedVariables false
set_option linter.unusedSimpArgs false
namespace Go.Proofs.YtmcoaebldobapaaGreatDoor
namespace Eng
open Go Go.RowKit
section
variable {P : Program} {g : Nat} {w0 : World} {ρ : Ren} {h : Hp} {nx : Nat} {w : World}
theorem HR.grown (H : HR P g w0 ρ h nx w) {w' : World} (hk : Kept none' w w') : HR P g w0 ρ h nx w' := by
  have hs := hk.size
  have h0 := H.kept.size
  exact ⟨H.fresh, H.gnx, fun id o ho hn => (H.objs id o ho hn).frame fun b _ hb => hk.block b hb (fun h => h), H.inj, H.own, fun id b hid => Nat.lt_of_lt_of_le (H.lt id b hid) hs,
    ⟨hk.os.trans H.kept.os, hk.tape.trans H.kept.tape, hk.output.trans H.kept.output, Nat.le_trans h0 hs, fun k hk' => (hk.block k (by omega) (fun h => h)).trans (H.kept.block k hk')⟩, H.glob, H.hfr⟩
theorem HR.adopt (H : HR P g w0 ρ h nx w) {w' : World} (hk : Kept none' w w') {gb cap : Nat} (hg : w.heap.size ≤ gb) (hlt : gb < w'.heap.size) {o : AO} {h' : Hp} (hh : ∀ m, h'.get m = if m = nx then some o else h.get m)
    (ho : ∀ ρ', ρ.le ρ' → ρ' nx = some (.blk gb 0 cap) → Ob P ρ' nx o w') : ∃ ρ', Ext nx (nx + 1) ρ ρ' ∧ ρ' nx = some (.blk gb 0 cap) ∧ HR P g w0 ρ' h' (nx + 1) w' := by
  have Hg := H.grown hk
  have hle := Ren.le_put (H.fresh nx (Nat.le_refl _)) (.blk gb 0 cap)
  have hb : ∀ id b, blkOf (ρ.put nx (.blk gb 0 cap)) id b → (id = nx ∧ b = gb) ∨ (id ≠ nx ∧ blkOf ρ id b) := fun id b ⟨bs, cp, hb⟩ => by
    unfold Ren.put at hb
    split at hb
    · rename_i e; cases hb; exact .inl ⟨e, rfl⟩
    · exact .inr ⟨by assumption, _, _, hb⟩
  have hle0 : w0.heap.size ≤ w.heap.size := H.kept.size
  refine ⟨_, Ext.put (H.fresh nx (Nat.le_refl _)) _, Ren.put_self _ _ _, ⟨fun id hid => ?_, by have := H.gnx; omega, fun id p hp hn => ?_, fun i j oi oj b hi hj bi bj => ?_, fun id b hid hg => ?_, fun id b hid => ?_, Hg.kept, fun i hi => (H.glob i hi).imp fun _ h => hle _ _ h, fun id hid => by rw [hh, if_neg (by omega)]; exact H.hfr id (by omega)⟩⟩
  · unfold Ren.put; rw [if_neg (by omega)]; exact H.fresh id (by omega)
  · rw [hh] at hp
    split at hp
    · rename_i e; cases hp; subst e; exact ho _ hle (Ren.put_self _ _ _)
    · rename_i hne; rw [Ren.put_ne hne] at hn; exact (Hg.objs id p hp hn).mono hle
  · rcases hb _ _ bi with ⟨ei, eb⟩ | ⟨ni, bi⟩ <;> rcases hb _ _ bj with ⟨ej, eb'⟩ | ⟨nj, bj⟩
    · rw [ei, ej]
    · exact absurd (H.lt _ _ bj) (by omega)
    · exact absurd (H.lt _ _ bi) (by omega)
    · rw [hh, if_neg ni] at hi
      rw [hh, if_neg nj] at hj
      exact H.inj i j _ _ b hi hj bi bj
  · rcases hb _ _ hid with ⟨_, eb⟩ | ⟨_, hid⟩
    · omega
    · exact H.own id b hid hg
  · rcases hb _ _ hid with ⟨_, eb⟩ | ⟨_, hid⟩
    · omega
    · exact Hg.lt id b hid
end
theorem insL_perm (x : Int) : ∀ l : List Int, (insL x l).Perm (x :: l)
  | [] => .refl _
  | y :: r => by
    unfold insL
    split
    · exact .refl _
    · exact ((insL_perm x r).cons y).trans (.swap x y r)
theorem sortL_perm : ∀ l : List Int, (sortL l).Perm l
  | [] => .refl _
  | x :: r => (insL_perm x _).trans ((sortL_perm r).cons x)
theorem risesB_ok : ∀ {l : List Int}, risesB l = true → l.Pairwise fun x y => lessB x y = true
  | [], _ => .nil
  | x :: r, h => by
    simp only [risesB, Bool.and_eq_true, List.all_eq_true] at h
    exact .cons h.1 (risesB_ok h.2)
theorem bornsB_ok {clock : Nat} : ∀ {l : List Nat}, bornsB clock l = true → l.Nodup ∧ ∀ b ∈ l, b < clock
  | [], _ => ⟨.nil, fun _ h => by cases h⟩
  | x :: r, h => by
    simp only [bornsB, Bool.and_eq_true, List.all_eq_true, Bool.not_eq_true'] at h
    obtain ⟨h1, h2⟩ := bornsB_ok h.2.2
    refine ⟨List.nodup_cons.2 ⟨fun hm => ?_, h1⟩, fun b hb => ?_⟩
    · exact natne (h.1 x hm) rfl
    · rcases List.mem_cons.1 hb with rfl | hb
      · exact natle h.2.1
      · exact h2 b hb
theorem intsOf_ok {ρ : Ren} {es : List ME} {xs : List MapEntry} (hx : F2 (GE ρ) es xs) : ∀ {k : List Int → Bool}, intsOf es k = true → ∃ (ks : List Int) (L : List T3), k ks = true ∧ xs = L.map ent ∧ L.map (·.1) = ks ∧ L.map (·.2.2) = es.map (·.born) := by
  induction hx with
  | nil => intro k hk; exact ⟨[], [], hk, rfl, rfl, rfl⟩
  | @cons e x l m he _ ih =>
    intro k hk
    change (match e.key with | .c (.int .i64 n) => intsOf l fun l => k (n :: l) | _ => false) = true at hk
    split at hk
    · rename_i n hn
      obtain ⟨ks, L, h1, h2, h3, h4⟩ := ih hk
      have hk1 := he.1
      rw [hn] at hk1
      obtain ⟨xk, xv, xb⟩ := x
      cases hk1 with
      | c hk1 =>
        cases hk1
        refine ⟨n :: ks, (n, xv, xb) :: L, h1, by rw [h2]; rfl, by simp [h3], ?_⟩
        have : xb = e.born := he.2.2
        simp [h4, this]
    · cases hk
theorem keysB_ok {ss : List Int} (h : keysB ss = true) : TOk (ss.map fun k => (k, ((0 : Int), ([] : List Int)))) := by
  simp only [keysB, Bool.and_eq_true, List.all_eq_true, decide_eq_true_eq] at h
  obtain ⟨⟨h1, h2⟩, h3⟩ := h
  refine ⟨?_, fun p hp => ?_, fun p hp => ?_, fun gg => ?_⟩
  · unfold Rises; rw [List.pairwise_map]; exact risesB_ok h1
  · obtain ⟨k, hk, rfl⟩ := List.mem_map.1 hp; exact h2 k hk
  · obtain ⟨k, hk, rfl⟩ := List.mem_map.1 hp
    exact ⟨show R64 0 from ⟨by decide, by decide⟩, fun _ h => (by cases h), Nat.zero_le _⟩
  · unfold tmany
    refine Nat.le_trans List.countP_le_length ?_
    rw [List.length_map]
    exact natle h3
theorem cells2 : Tryz.prog.cellsOf 2 = 1 := by kernel_rfl
theorem keysA_ok {w0 : World} {args : List AV} {h : Hp} {nx : Nat} {k : KV} (hk : keysA args h nx k = true) {ρ : Ren} {w : World} {xs : List Value} (H : HR Tryz.prog 8 w0 ρ h nx w) (hx : F2 (GA ρ) args xs) : CallsK Tryz.prog 8 w0 ρ nx 308 xs w k := by
  unfold keysA at hk
  split at hk
  case h_2 => cases hk
  rename_i id bf
  replace hk := iff_ok hk
  obtain ⟨hbf, hk⟩ := hk
  replace hk := optK_ok hk
  obtain ⟨o, ho, hk⟩ := hk
  split at hk
  case h_2 => cases hk
  rename_i f c
  replace hk := iff_ok hk
  obtain ⟨hf, hk⟩ := hk
  replace hk := optK_ok hk
  obtain ⟨oc, hoc, hk⟩ := hk
  split at hk
  case h_2 => cases hk
  rename_i m e
  replace hk := optK_ok hk
  obtain ⟨om, hom, hk⟩ := hk
  cases om <;> try (cases hk; done)
  rename_i es clock
  dsimp only at hk
  replace hk := iff_ok hk
  obtain ⟨hborn, hk⟩ := hk
  have hbf := nateq hbf
  have hf := nateq hf
  subst hbf hf
  cases hx with
  | cons h1 t => cases t with
    | cons h2 t => cases t with
      | nil =>
        cases h2 with
        | c h2 =>
          cases h2
          cases h1 with
          | c h1 => cases h1 with
            | clo hr =>
              cases H.ob ho hr with
              | @clo _ _ _ _ X Y hr' hX hY =>
                rw [hr] at hr'; cases hr'
                cases hX
                cases hY with
                | cons hp t => cases t with
                  | nil =>
                    cases hp with
                    | c hp => cases hp with
                      | @ptr _ bc base cap _ hrc =>
                        cases H.ob hoc hrc with
                        | @row _ b' base' cap' _ _ _ cs hrc' hhc hcl hcap hsz hm =>
                          rw [hrc] at hrc'; cases hrc'
                          have hb0 := (hcap 0 rfl).2 rfl
                          subst hb0
                          obtain ⟨vm, hvm, hcm⟩ := hcl 0 _ rfl
                          cases hvm with
                          | @mp _ bm bsm cpm hrm =>
                            obtain ⟨ys, hhm, hys⟩ := (H.ob hom hrm).mapAt hrm
                            obtain ⟨ks, L, hk, hL, hks, hbs⟩ := intsOf_ok hys hk
                            rw [fL_eq] at hk
                            replace hk := iff_ok hk
                            obtain ⟨hkb, hk⟩ := hk
                            obtain ⟨n1, n2⟩ := bornsB_ok hborn
                            have hT := keysB_ok hkb
                            generalize hss : sortL ks = ss at hk hkb hT
                            have hperm : ss.Perm ks := by rw [← hss]; exact sortL_perm ks
                            have htk : tkeys (ss.map fun k => (k, ((0 : Int), ([] : List Int)))) = ss := by unfold tkeys; rw [List.map_map]; exact List.map_id' ss
                            have hml : MapL w bm (L.map kv) := by
                              refine ⟨L, clock, ⟨by rw [hhm, hL], ?_, by rw [hbs]; exact n1, fun t ht => n2 _ (by rw [← hbs]; exact List.mem_map.2 ⟨t, ht, rfl⟩)⟩, rfl⟩
                              rw [hks]
                              refine hperm.nodup_iff.1 ?_
                              rw [← htk]
                              exact hT.rises.nodup
                            have hkv : (L.map kv).map (·.1) = ks := by rw [List.map_map, ← hks]; rfl
                            have hcall := sorted_any bm bc _ (L.map kv) w hml (by rw [hkv, htk]; exact hperm.symm) hT (by rw [cell_row hhc]; exact hcm)
                            rw [htk] at hcall
                            refine Calls.mono hcall fun en w' ⟨v, hen, hown, hnil, hkept⟩ => ?_
                            cases ss with
                            | nil =>
                              obtain rfl := hnil.2 rfl
                              exact ⟨_, _, ρ, h, nx, hen, hk, Ext.refl _ _, H.grown hkept, .c .nils⟩
                            | cons s0 sr =>
                              dsimp only at hk
                              replace hk := Tr.setK_ok hk
                              obtain ⟨h', hk, hh'⟩ := hk
                              obtain ⟨hlen, ⟨_, h0⟩ | ⟨gb, cap2, cur, rfl, hge, hgh, hnc, hcm2, hcs, htake⟩⟩ := hown
                              · simp at h0
                              have hlt : gb < w'.heap.size := (Array.getElem?_eq_some_iff.1 hgh).1
                              have hOb : ∀ ρ' : Ren, ρ.le ρ' → ρ' nx = some (.blk gb 0 cap2) → Ob Tryz.prog ρ' nx (.row ((s0 :: sr).map fun n => CV.int .i64 n) 2 none) w' := fun ρ' hle hrn => by
                                refine .row hrn hgh (fun j cv hj => ?_) (fun _ h => by cases h) (by rw [cells2, hcs]; omega) hcm2
                                rw [List.getElem?_map, Option.map_eq_some_iff] at hj
                                obtain ⟨z, hz, rfl⟩ := hj
                                refine ⟨_, .int _ _, ?_⟩
                                have hjl : j < (s0 :: sr).length := (List.getElem?_eq_some_iff.1 hz).1
                                have h3 : (cur.toList.take ((s0 :: sr).length * 1))[j]? = some (.int .i64 z) := by rw [htake]; unfold ints; rw [List.getElem?_map, hz]; rfl
                                rw [List.getElem?_take, if_pos (by omega)] at h3
                                rw [Nat.zero_add, ← Array.getElem?_toList]; exact h3
                              obtain ⟨ρ', hE, hr', H'⟩ := H.adopt hkept (cap := cap2) hge hlt hh' hOb
                              rw [llen_eq] at hk
                              have G1 := G.sl (ρ := ρ') 0 (s0 :: sr).length 0 none hr' (by simpa using hnc) (by simpa using hcm2) (by simp)
                              refine ⟨_, _, ρ', h', nx + 1, hen, hk, hE, H', .c ?_⟩
                              simpa using G1
end Eng
end Go.Proofs.YtmcoaebldobapaaGreatDoor
