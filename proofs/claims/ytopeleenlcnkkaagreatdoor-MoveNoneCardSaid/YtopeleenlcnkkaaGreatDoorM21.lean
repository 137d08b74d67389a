/-
  script: numbers of lines; lines that say nothing.
-/
import Derived.Test.YtopeleenlcnkkaaGreatDoorM19
import Derived.Test.YtopeleenlcnkkaaGreatDoorM20
import Derived.Lib.SmallJoins
import Derived.Test.YtopeleenlcnkkaaGreatDoorM04
import Derived.Test.YtopeleenlcnkkaaGreatDoorM17
import Derived.Test.YtopeleenlcnkkaaGreatDoorM15
import Derived.Test.YtopeleenlcnkkaaGreatDoorM01
set_option linter.unusedVariables false
set_option linter.unusedSimpArgs false
namespace Go.Proofs.YtopeleenlcnkkaaGreatDoor
open Go Go.RowKit
attribute [local irreducible] wpL
theorem kept_bytesWorld (w : World) (e : TypeId) (s : ByteArray) : Kept none' w (Lib.bytesWorld w e s) :=
  .of_below (Joins.below_bytesWorld _ w e s (Nat.le_refl _))
/-- A number of so many digits at most. -/
def numP (s : ByteArray) (most : Nat) : Option Int := if (runes s).all (fun p => digitB p.2) = true ∧ 0 < s.size ∧ s.size ≤ most ∧ s.size ≤ 18 then Lib.atoi s.data.toList else none
set_option maxRecDepth 100000 in
set_option maxHeartbeats 1000000 in
theorem number_any' (s : ByteArray) (most : Nat) (hm : most ≤ 1000) (n : Int) (hok : numP s most = some n) (w : World) : Calls Tryz.prog 135 #[.string s, .int .i64 (most : Int)] w (Gives w (.tuple #[.int .i64 n, .bool true])) := by
  obtain ⟨w0, hrun, hit, hk0, hs0⟩ := run_range_str (P := Tryz.prog) w 9 s Tryz.underlying9
  have hlen := runes_length s
  unfold numP at hok
  have hc : (runes s).all (fun p => digitB p.2) = true ∧ 0 < s.size ∧ s.size ≤ most ∧ s.size ≤ 18 := by
    by_cases h : (runes s).all (fun p => digitB p.2) = true ∧ 0 < s.size ∧ s.size ≤ most ∧ s.size ≤ 18
    · exact h
    · rw [if_neg h] at hok; cases hok
  rw [if_pos hc] at hok
  obtain ⟨h1, h2, h3, h4⟩ := hc
  have hne : ¬ s = ByteArray.empty := fun e => by rw [e] at h2; exact absurd h2 (by decide)
  have hst : s.toList.isEmpty = false := by
    have h0 : (s.toList == ByteArray.empty.toList) = false := by rw [← beq_toListBytes, ba_beq]; exact decide_eq_false hne
    have h1 : ByteArray.empty.toList = [] := by simp [ByteArray.toList, ByteArray.toList.loop]
    rw [h1] at h0
    cases hl : s.toList with
    | nil => rw [hl] at h0; cases h0
    | cons b l => rfl
  have hgt : ¬ (most < s.size) := by omega
  have ca : ∀ W, Calls Tryz.prog 167 #[.string s] W fun e w' => e = .returned (.tuple #[.int .i64 n, .nilIface]) ∧ ∃ t, w' = Lib.bytesWorld W 5 t := fun W => Any.strconv_Atoi Tryz.atoiL s n h4 hok W
  have H := Lib.hid (And.intro hit (And.intro hk0 (List.all_eq_true.1 h1)))
  clear hit hk0 hs0 h1 hok hne
  go_enter Tryz.func135, Tryz.ntmps135
  go_wp2
  go_loopg [5] (runes s).length (fun k i wr => ∃ left, RunAt wr w.heap.size s left ∧ left.length = k ∧ (∀ q ∈ left, q ∈ runes s) ∧ i = .bool false ∧ Kept none' w wr)
  case atStart => exact ⟨runes s, H.out.1, rfl, fun q h => h, rfl, H.out.2.1⟩
  case round =>
    obtain ⟨left, hit, hk, hall, rfl, hk1⟩ := hrel
    rcases hit.next (P := Tryz.prog) 0 with ⟨rfl, hrun⟩ | ⟨p, left', w2, hp, hrun, hit2, hk2, hs2⟩
    · clear hit
      have KK := Lib.hid hk1
      clear hk1 hall hk
      have ca := ca wr
      go_wp2_with fail
      (with_reducible refine ca.mono ?_)
      rintro e w2 ⟨rfl, t, hw2⟩
      have k2 : Kept none' wr w2 := by rw [hw2]; exact kept_bytesWorld _ _ _
      have F := Lib.hid (show Gives w (.tuple #[.int .i64 n, .bool true]) (.returned (.tuple #[.int .i64 n, .bool true])) w2 from ⟨rfl, KK.out.trans k2⟩)
      clear k2 hw2
      go_wp2_with fail
      go_ret2
      exact F.out
    · clear hit
      have hin := hall p (by rw [hp]; simp)
      have hd := H.out.2.2 p hin
      have hpp := (runes_in hin).2
      unfold digitB at hd
      simp only [Bool.and_eq_true, decide_eq_true_eq] at hd
      have b1 : ¬ (p.2 : Int) < 48 := by omega
      have b2 : ¬ (57 : Int) < (p.2 : Int) := by omega
      have hk3 : Kept none' w w2 := hk1.new hk2 (fun i hi e => by unfold one at e; omega)
      have hm : left'.length < gk := by rw [hp] at hk; simp at hk; omega
      have G := Lib.hid (And.intro hit2 (And.intro hk3 (And.intro (show ∀ q ∈ left', q ∈ runes s from fun q hq => hall q (by rw [hp]; simp [hq])) hm)))
      clear hit2 hk3 hm hp hk2 hs2 hall hd hin hk hk1
      go_wp2_with fail
      go_roundg left'.length
      case rel => exact ⟨left', G.out.1, rfl, G.out.2.2.1, rfl, G.out.2.1⟩
      case measure => exact G.out.2.2.2
/-- A line says nothing. -/
def silentP (s : ByteArray) : Bool := (Lib.trimS s.data.toList [32, 9]).isEmpty || (match s.data.toList with | b :: _ => b == 35 | [] => false)
set_option maxRecDepth 100000 in
set_option maxHeartbeats 1000000 in
theorem silent_any (s : ByteArray) (hs : s.size ≤ maxLen) (w : World) : Calls Tryz.prog 112 #[.string s] w (Gives w (.bool (silentP s))) := by
  have ct : Calls Tryz.prog 132 #[.string s, .string ⟨#[32, 9]⟩] w fun e w' => e = .returned (.string ⟨(Lib.trimS s.data.toList [32, 9]).toArray⟩) ∧ Below w.heap.size w w' :=
    Any.strings_Trim_laid Tryz.trimL (by kernel_rfl) s ⟨#[32, 9]⟩ w (by unfold maxLen at hs; omega) (by decide) (ascii_of_all (by decide))
  obtain ⟨tl, htl⟩ : ∃ tl, Lib.trimS s.data.toList [32, 9] = tl := ⟨_, rfl⟩
  rw [htl] at ct
  cases htE : tl.isEmpty with
  | true =>
    have hsp : silentP s = true := by unfold silentP; rw [htl, htE]; rfl
    rw [hsp]
    clear htl hsp
    go_enter Tryz.func112, Tryz.ntmps112
    go_wp2_with fail
    (with_reducible refine ct.mono ?_)
    rintro e w2 ⟨rfl, k2⟩
    have F := Lib.hid (Kept.of_below (S := none') k2)
    clear k2 ct
    go_wp2_with fail
    go_ret
    exact ⟨rfl, F.out⟩
  | false =>
    obtain ⟨b, l, hbl⟩ : ∃ b l, s.data.toList = b :: l := by
      cases hd : s.data.toList with
      | nil =>
        rw [hd] at htl
        have : tl = [] := by rw [← htl]; decide
        rw [this] at htE; cases htE
      | cons b l => exact ⟨b, l, rfl⟩
    have hsp : silentP s = (b == 35) := by unfold silentP; rw [htl, htE, hbl]; rfl
    rw [hsp]
    have hsz : 0 < s.size := by
      have h1 : s.size = s.data.toList.length := by rw [Array.length_toList]; rfl
      rw [h1, hbl]; exact Nat.succ_pos _
    have hb0 : s[0]'hsz = b := by
      show s.data[0]'_ = b
      have h2 : s.data.toList[0]? = some b := by rw [hbl]; rfl
      rw [Array.getElem?_toList] at h2
      exact (Array.getElem?_eq_some_iff.1 h2).2
    have HB := Lib.hid hb0
    have hb35 : (((b.toNat : Nat) : Int) == 35) = (b == 35) := by
      rw [Bool.eq_iff_iff]
      simp only [beq_iff_eq]
      constructor
      · intro h
        have h1 : b.toNat = 35 := by omega
        exact UInt8.toNat_inj.1 h1
      · intro h; rw [h]; rfl
    clear htl hsp hbl hb0
    go_enter Tryz.func112, Tryz.ntmps112
    go_wp2_with fail
    (with_reducible refine ct.mono ?_)
    rintro e w2 ⟨rfl, k2⟩
    have F := Lib.hid (Kept.of_below (S := none') k2)
    clear k2 ct
    go_wp2_with fail
    go_ret
    refine ⟨rbool' ?_, F.out⟩
    rw [HB.out]
    exact hb35
end Go.Proofs.YtopeleenlcnkkaaGreatDoor
/-
  job.Find: where a node of a name is.
-/
namespace Go.Proofs.YtopeleenlcnkkaaGreatDoor
open Go Go.RowKit
attribute [local irreducible] wpL
theorem findJ_at {nodes : List JN} {uid : ByteArray} {k : Nat} {d : JN} (hd : nodes[k]? = some d) (hu : d.uid = uid) (hp : ∀ m e, m < k → nodes[m]? = some e → e.uid ≠ uid) : findJ nodes uid = (k : Int) := by
  have h : nodes.findIdx? (fun d => decide (d.uid = uid)) = some k := by
    rw [List.findIdx?_eq_some_iff_getElem]
    obtain ⟨hk, e⟩ := List.getElem?_eq_some_iff.1 hd
    refine ⟨hk, by rw [e]; exact decide_eq_true hu, fun j hj => ?_⟩
    have := hp j _ hj (List.getElem?_eq_getElem (by omega))
    simpa using this
  unfold findJ; rw [h]
theorem findJ_no {nodes : List JN} {uid : ByteArray} (hp : ∀ m e, m < nodes.length → nodes[m]? = some e → e.uid ≠ uid) : findJ nodes uid = -1 := by
  have h : nodes.findIdx? (fun d => decide (d.uid = uid)) = none := by
    rw [List.findIdx?_eq_none_iff]
    intro x hx
    obtain ⟨m, hm⟩ := List.getElem?_of_mem hx
    exact decide_eq_false (hp m x (List.getElem?_eq_some_iff.1 hm).1 hm)
  unfold findJ; rw [h]
set_option maxRecDepth 100000 in
theorem find1_any (d : JN) (a : Array Value) (uid : ByteArray) (B : Nat) (w : World) (h : JNAt w a d) (hc : w.cell? ⟨B, 0, none⟩ = some (.string uid)) :
    Calls Tryz.prog 73 #[.agg a, .pointer (some ⟨B, 0, none⟩)] w (Gives w (.bool (decide (d.uid = uid)))) := by
  obtain ⟨pi, ci, p, cap, rfl, _⟩ := h
  have kA : Kept none' w (w.alloc (.cells (jnC d pi ci p cap) 97)) := (Kept.refl _ _).alloc _
  have c1 := kA.cell (p := ⟨B, 0, none⟩) (fun h => h) hc
  have HS := Lib.hid (str_eq d.uid uid)
  go_enter Tryz.func73, Tryz.ntmps73
  go_wp2_with fail
  go_ret
  exact ⟨by first | exact ret_bool HS.out | exact rbool' rfl | rfl, kA⟩
set_option maxRecDepth 100000 in
set_option maxHeartbeats 1000000 in
theorem findI_any (nodes : List JN) (v : Value) (uid : ByteArray) (B : Nat) (w : World) (h : NodesAt w v nodes) (hc : w.cell? ⟨B, 0, none⟩ = some (.string uid)) :
    Calls Tryz.prog 72 #[v, .func (.func 73) #[] #[.pointer (some ⟨B, 0, none⟩)]] w (Gives w (.int .i64 (findJ nodes uid))) := by
  obtain ⟨na, cap, rfl, h1, h2, h3⟩ := h.at
  unfold maxLen at h2
  have H3 := Lib.hid (And.intro h3 hc)
  clear h3 h hc
  go_enter Tryz.func72, Tryz.ntmps72
  go_wp2_with fail
  go_loopg [8] nodes.length (fun g vi wr => ∃ k : Nat, k ≤ nodes.length ∧ vi = .int .i64 (k : Int) ∧ nodes.length - k ≤ g ∧ Kept none' w wr ∧ ∀ m e, m < k → nodes[m]? = some e → e.uid ≠ uid)
  case atStart => exact ⟨0, by omega, rfl, by omega, Kept.refl _ _, fun m e hm => by omega⟩
  case round =>
    obtain ⟨k, hk, rfl, hg, hkp, hno⟩ := hrel
    by_cases hlt : k < nodes.length
    · obtain ⟨d, hd⟩ : ∃ d, nodes[k]? = some d := ⟨_, List.getElem?_eq_getElem hlt⟩
      obtain ⟨b, off, pi, ci, p, cap', rfl, hcc, hj⟩ := H3.out.1 k d hd
      obtain ⟨c0, c1, c2, c3, c4, c5, c6⟩ := hcc.kept hkp (fun h => h)
      have cc := find1_any d _ uid B wr (hj.pure hkp) (hkp.cell (fun h => h) H3.out.2)
      have G := Lib.hid (And.intro hg (And.intro hkp (And.intro hd hno)))
      clear hg hkp hd hno hj hcc H3
      by_cases hu : d.uid = uid
      · rw [decide_eq_true hu] at cc
        have F := Lib.hid (findJ_at G.out.2.2.1 hu G.out.2.2.2)
        clear hu
        go_wp2_with (go_at_call 73; refine cc.mono ?_; rintro e w2 ⟨rfl, k2⟩)
        go_ret
        exact ⟨ret_int F.out.symm, G.out.2.1.trans k2⟩
      · rw [decide_eq_false hu] at cc
        have F := Lib.hid (show ∀ m e, m < k + 1 → nodes[m]? = some e → e.uid ≠ uid from fun m e hm he => by
          by_cases h : m < k
          · exact G.out.2.2.2 m e h he
          · have e1 : m = k := by omega
            subst e1
            rw [G.out.2.2.1] at he
            injection he with he
            rw [← he]; exact hu)
        clear hu
        go_wp2_with (go_at_call 73; refine cc.mono ?_; rintro e w2 ⟨rfl, k2⟩)
        go_roundg (nodes.length - (k + 1))
        case rel => exact ⟨k + 1, by omega, by go_num, Nat.le_refl _, G.out.2.1.trans k2, F.out⟩
        case measure => have := G.out.1; omega
    · have e1 : k = nodes.length := by omega
      subst e1
      have F := Lib.hid (And.intro (findJ_no hno) hkp)
      clear hno hkp
      go_wp2_with fail
      go_ret
      exact ⟨ret_int F.out.1.symm, F.out.2⟩
set_option maxRecDepth 100000 in
theorem find_job (j : Jb) (a : Array Value) (uid : ByteArray) (w : World) (h : JbAt w a j) : Calls Tryz.prog 42 #[.agg a, .string uid] w (Gives w (.int .i64 (findJ j.nodes uid))) := by
  obtain ⟨v, rfl, hn, hp⟩ := h
  obtain ⟨na, cap, rfl, h1, h2, h3⟩ := hn.at
  have kA : Kept none' w ((w.alloc (.cells #[.int .i64 j.par, .slice na j.nodes.length cap] 24)).alloc (.cells #[.string uid] 9)) := ((Kept.refl _ _).alloc _).alloc _
  have hB : ((w.alloc (.cells #[.int .i64 j.par, .slice na j.nodes.length cap] 24)).alloc (.cells #[.string uid] 9)).cell? ⟨w.heap.size + 1, 0, none⟩ = some (.string uid) := by simp
  have cc := findI_any j.nodes _ uid (w.heap.size + 1) _ (hn.pure kA) hB
  have K := Lib.hid kA
  clear h3 hn hp kA hB h2
  go_enter Tryz.func42, Tryz.ntmps42
  go_wp2_with fail
  refine cc.mono ?_
  rintro e w2 ⟨rfl, k2⟩
  go_wp2_with fail
  go_ret
  exact ⟨rfl, K.out.trans k2⟩
end Go.Proofs.YtopeleenlcnkkaaGreatDoor
/-
  A region that draws its order and has operations that turn the world and may change places: whatever floats is taken first; of the others each way is walked.
-/
namespace Go.Proofs.YtopeleenlcnkkaaGreatDoor
open Go
section
variable {P : Program} {ops : Array Oper} {C : World → Prop} {Q : Act → World → Prop}
def pickF (ops : Array Oper) (listed : Array Bool) : Option Nat :=
  (List.range ops.size).find? fun k => floatsAt ops k && (Region.ready .any ops listed).contains k && Region.free .any ops listed k
def wpTr (P : Program) (ops : Array Oper) (C : World → Prop) (Q : Act → World → Prop) : Nat → Array Bool → Act → World → Prop
  | 0, listed, a, w => C w ∧ (List.range ops.size).all (fun k => listed.getD k true) = true ∧ Q a w
  | n + 1, listed, a, w =>
    match pickF ops listed with
    | some k => match ops[k]? with
      | none => False
      | some o => ∃ v, (Region.wanted o (yielded ops a.tmps) = true ∧ (∀ w', C w' → (execOp a.eval o).run P w' = .ok (.value v) w') ∨ Region.wanted o (yielded ops a.tmps) = false ∧ v = undef) ∧ wpTr P ops C Q n (listed.setIfInBounds k true) (a.put o.dst v) w
    | none => Region.ready .any ops listed ≠ [] ∧ ∀ k ∈ Region.ready .any ops listed, ∃ o, ops[k]? = some o ∧
        (if Region.wanted o (yielded ops a.tmps) = true then o.wp P a w (fun a' w' => C w' ∧ wpTr P ops C Q n (listed.setIfInBounds k true) a' w') (onlyN Q)
         else wpTr P ops C Q n (listed.setIfInBounds k true) (a.put o.dst undef) w)
theorem wpAnyC_tree (hs : Region.noSelect ops = true) : ∀ (n : Nat) (listed : Array Bool) (a : Act) (w : World), C w → wpTr P ops C Q n listed a w → wpAnyC P .any ops C false Q n listed a w
  | 0, listed, a, w, hC, h => by
    refine ⟨fun _ => hC, fun k o hk => ?_, h.2.2⟩
    have := h.2.1
    simp only [List.all_eq_true, List.mem_range] at this
    exact this k (Array.getElem?_eq_some_iff.1 hk).1
  | n + 1, listed, a, w, hC, h => by
    unfold wpTr at h
    split at h
    · rename_i k hk
      have hk2 := List.find?_some hk
      simp only [Bool.and_eq_true] at hk2
      split at h
      · exact h.elim
      · rename_i o hok
        obtain ⟨v, hv, hn⟩ := h
        have hr : k ∈ Region.ready .any ops listed := by simpa using hk2.1.2
        exact wpAnyC_first hok (Region.noSelect_spec hs) n listed a w (Region.free_spec hok hk2.2) hC (fun hb => by cases hb) hr hv (wpAnyC_tree hs n _ _ w hC hn)
    · refine ⟨hC, fun h0 => absurd h0 h.1, fun k hk => ?_⟩
      obtain ⟨o, hok, h2⟩ := h.2 k hk
      unfold wpOp
      simp only [hok]
      by_cases hw : Region.wanted o (yielded ops a.tmps) = true
      · simp only [hw, if_true] at h2 ⊢
        exact .inl (Oper.wp_mono (fun a' w' h' => wpAnyC_tree hs n _ a' w' h'.1 h'.2) h2)
      · simp only [hw] at h2 ⊢
        exact wpAnyC_tree hs n _ _ w hC h2
/-- **A REGION THAT DRAWS ITS ORDER, WALKED AS A TREE.** -/
theorem wp_region_tree {id : Nat} {Q : Exit → Act → World → Prop} {a : Act} {w : World} (C : World → Prop) (hm : P.follows .mixedOrders = true) (hs : Region.noSelect ops = true)
    (hC : C w.drew) (h : wpTr P ops C (Q .normal) ops.size (Array.replicate ops.size false) a w.drew) : (Code.region id ops true).wp P Q a w :=
  wp_region_any hm (wpAny_of_C (C := C) (bar := false) (Q := Q .normal) (fun _ _ h => h) _ _ _ _ (wpAnyC_tree hs _ _ _ _ hC h))
theorem wpTr_float {n k : Nat} {listed : Array Bool} {a : Act} {w : World} {o : Oper} {v : Value} (hp : pickF ops listed = some k) (ho : ops[k]? = some o) (hw : Region.wanted o (yielded ops a.tmps) = true)
    (hv : ∀ w', C w' → (execOp a.eval o).run P w' = .ok (.value v) w') (h : wpTr P ops C Q n (listed.setIfInBounds k true) (a.put o.dst v) w) : wpTr P ops C Q (n + 1) listed a w := by
  unfold wpTr
  rw [hp]
  simp only [ho]
  exact ⟨v, .inl ⟨hw, hv⟩, h⟩
theorem wpTr_loud {n k : Nat} {listed : Array Bool} {a : Act} {w : World} {o : Oper} (hp : pickF ops listed = none) (hr : Region.ready .any ops listed = [k]) (ho : ops[k]? = some o) (hw : Region.wanted o (yielded ops a.tmps) = true)
    (h : ∀ K : Act → World → Prop, (∀ a' w', C w' → wpTr P ops C Q n (listed.setIfInBounds k true) a' w' → K a' w') → o.wp P a w K (onlyN Q)) : wpTr P ops C Q (n + 1) listed a w := by
  unfold wpTr
  rw [hp, hr]
  refine ⟨by simp, fun j hj => ?_⟩
  obtain rfl : j = k := by simpa using hj
  refine ⟨o, ho, ?_⟩
  rw [if_pos hw]
  exact h _ fun a' w' h1 h2 => ⟨h1, h2⟩
theorem wpTr_two {n i k : Nat} {listed : Array Bool} {a : Act} {w : World} {o o' : Oper} (hp : pickF ops listed = none) (hr : Region.ready .any ops listed = [i, k]) (ho : ops[i]? = some o) (hw : Region.wanted o (yielded ops a.tmps) = true)
    (ho' : ops[k]? = some o') (hw' : Region.wanted o' (yielded ops a.tmps) = true)
    (h : ∀ K : Act → World → Prop, (∀ a' w', C w' → wpTr P ops C Q n (listed.setIfInBounds i true) a' w' → K a' w') → o.wp P a w K (onlyN Q))
    (h' : ∀ K : Act → World → Prop, (∀ a' w', C w' → wpTr P ops C Q n (listed.setIfInBounds k true) a' w' → K a' w') → o'.wp P a w K (onlyN Q)) : wpTr P ops C Q (n + 1) listed a w := by
  unfold wpTr
  rw [hp, hr]
  refine ⟨by simp, fun j hj => ?_⟩
  have hj : j = i ∨ j = k := by simpa using hj
  rcases hj with rfl | rfl
  · refine ⟨o, ho, ?_⟩
    rw [if_pos hw]
    exact h _ fun a' w' h1 h2 => ⟨h1, h2⟩
  · refine ⟨o', ho', ?_⟩
    rw [if_pos hw']
    exact h' _ fun a' w' h1 h2 => ⟨h1, h2⟩
theorem wpTr_nil {listed : Array Bool} {a : Act} {w : World} (hl : (List.range ops.size).all (fun k => listed.getD k true) = true) (hC : C w) (h : Q a w) : wpTr P ops C Q 0 listed a w := ⟨hC, hl, h⟩
end
end Go.Proofs.YtopeleenlcnkkaaGreatDoor
