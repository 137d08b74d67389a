/-
  job: twice at strings, ContainsFunc with may's closure, the rules; expr: Same at none.
-/
import Derived.Test.YtglbkodmmogomaaGreatDoorF21
import Derived.Test.YtglbkodmmogomaaGreatDoorF20
import Derived.Laws.Tables
import Derived.Great.BuildSlice
import Derived.Test.YtglbkodmmogomaaGreatDoorF31
import Derived.Test.YtglbkodmmogomaaGreatDoorF32
set_option linter.unusedVariables false
set_option linter.unusedSimpArgs false
namespace Go.Proofs.YtglbkodmmogomaaGreatDoor
open Go Go.RowKit
attribute [local irreducible] wpL
set_option maxRecDepth 100000 in
set_option maxHeartbeats 1000000 in
theorem twiceS_any (v : Value) (l : List ByteArray) (w : World) (h : Reads w 1 v (strs l)) : Calls Tryz.prog 87 #[v] w (fun e w' => e = .returned (.bool (!decide l.Nodup)) ∧ w = w') := by
  have hR := h
  obtain ⟨pa, ca, rfl, a1, a2, a3⟩ := h.atS
  have A3 := Lib.hid (And.intro a3 hR)
  clear a3 hR
  have hlen : l.length ≤ 9223372036854775807 := by unfold maxLen at a2; omega
  go_enter Tryz.func87, Tryz.ntmps87
  go_wp2_with fail
  go_loopg [7] l.length (fun m vk wr => ∃ k : Nat, k ≤ l.length ∧ m = l.length - k ∧ vk = .int .i64 (k : Int) ∧ (l.take k).Nodup ∧ wr = w)
  case atStart => exact ⟨0, Nat.zero_le _, rfl, rfl, by simp, rfl⟩
  case round =>
    obtain ⟨k, hk, hm, rfl, ht, rfl⟩ := hrel
    have HT := Lib.hid (And.intro ht hm)
    clear ht hm
    by_cases hlt : k < l.length
    · obtain ⟨y, hy⟩ : ∃ y, l[k]? = some y := ⟨_, List.getElem?_eq_getElem hlt⟩
      obtain ⟨b, off, rfl, hc⟩ := A3.out.1.resolve_left (fun h => by rw [h] at hlt; simp at hlt)
      have y0 := hc k y hy
      have hsl := run_slice_to (P := Tryz.prog) (w := wr) (a := some ⟨b, off, none⟩) (n := l.length) (cap := ca) (i := k) Tryz.underlying163 (size9 wr) (by omega) a1
      have hrd := Reads.take A3.out.2 (i := k) (by omega)
      have hrd' : Reads wr 1 (.slice (some ⟨b, off, none⟩) k ca) (strs (l.take k)) := by
        have : (strs l).take (k * 1) = strs (l.take k) := by rw [Nat.mul_one]; unfold strs; rw [List.map_take]
        rwa [this] at hrd
      have cc := containsS_any _ (l.take k) y wr hrd'
      have HY := Lib.hid hy
      clear hc hy A3 hrd hrd'
      by_cases hm : y ∈ l.take k
      · have e1 : decide (y ∈ l.take k) = true := decide_eq_true hm
        rw [e1] at cc
        have F := Lib.hid (not_nodup HY.out hm)
        clear hm e1
        go_wp2_with (go_at_call 133; refine cc.mono ?_; rintro e w' ⟨rfl, rfl⟩)
        go_ret
        exact ⟨ret_bool (by rw [decide_eq_false F.out]; rfl), rfl⟩
      · have e1 : decide (y ∈ l.take k) = false := decide_eq_false hm
        rw [e1] at cc
        have F := Lib.hid ((nodup_take HY.out).2 ⟨HT.out.1, hm⟩)
        clear hm e1
        go_wp2_with (go_at_call 133; refine cc.mono ?_; rintro e w' ⟨rfl, rfl⟩)
        go_roundg (l.length - (k + 1))
        case rel => exact ⟨k + 1, by omega, rfl, by go_num, F.out, rfl⟩
        case measure => have := HT.out.2; omega
    · have e1 : k = l.length := by omega
      subst e1
      have F := Lib.hid (show l.Nodup by have := HT.out.1; rwa [List.take_length] at this)
      clear HT
      go_wp2_with fail
      go_ret
      exact ⟨ret_bool (by rw [decide_eq_true F.out]; rfl), rfl⟩
set_option maxRecDepth 100000 in
theorem mayc_any (i n : Int) (B : Nat) (w : World) (hc : w.cell? ⟨B, 0, none⟩ = some (.int .i64 n)) : Calls Tryz.prog 130 #[.int .i64 i, .pointer (some ⟨B, 0, none⟩)] w (fun e w' => e = .returned (.bool (!(decide (0 ≤ i) && decide (i < n)))) ∧ w = w') := by
  by_cases h0 : i < 0
  · have e1 : (!(decide (0 ≤ i) && decide (i < n))) = true := by rw [decide_eq_false (by omega)]; rfl
    rw [e1]
    go_enter Tryz.func130, Tryz.ntmps130
    go_wp2
    go_ret
    exact ⟨rfl, rfl⟩
  · have e1 : (!(decide (0 ≤ i) && decide (i < n))) = decide (n ≤ i) := by
      rw [decide_eq_true (by omega), Bool.true_and, ← decide_not]; exact decide_eq_decide.2 (by omega)
    rw [e1]
    go_enter Tryz.func130, Tryz.ntmps130
    go_wp2
    go_ret
    exact ⟨rfl, rfl⟩
def outB (n : Int) (i : Int) : Bool := !(decide (0 ≤ i) && decide (i < n))
set_option maxRecDepth 100000 in
set_option maxHeartbeats 1000000 in
theorem indexFuncI_any (v : Value) (l : List Int) (n : Int) (B : Nat) (w : World) (h : Reads w 1 v (ints l)) (hc : w.cell? ⟨B, 0, none⟩ = some (.int .i64 n)) :
    Calls Tryz.prog 164 #[v, .func (.func 130) #[] #[.pointer (some ⟨B, 0, none⟩)]] w (fun e w' => ∃ r : Int, e = .returned (.int .i64 r) ∧ (decide (0 ≤ r) = l.any (outB n)) ∧ w = w') := by
  obtain ⟨pa, ca, rfl, a1, a2, a3⟩ := h.at
  unfold maxLen at a2
  have A3 := Lib.hid a3
  have HC := Lib.hid hc
  clear h a3 hc
  go_enter Tryz.func164, Tryz.ntmps164
  go_wp2_with fail
  go_loopw [8] (fun i wr => ∃ k : Nat, k ≤ l.length ∧ i = .int .i64 (k : Int) ∧ (l.take k).any (outB n) = false ∧ wr = w) (fun i _ => l.length - (intOf i).toNat)
  case atStart => exact ⟨0, by omega, rfl, by simp, rfl⟩
  case round =>
    obtain ⟨k, hk, rfl, ht, rfl⟩ := hrel
    have HT := Lib.hid ht
    clear ht
    by_cases hlt : k < l.length
    · obtain ⟨y, hy⟩ : ∃ y, l[k]? = some y := ⟨_, List.getElem?_eq_getElem hlt⟩
      obtain ⟨b, off, rfl, hcc⟩ := A3.out.resolve_left (fun h => by rw [h] at hlt; simp at hlt)
      have y0 := hcc k y hy
      have HY := Lib.hid hy
      have cc := mayc_any y n B wr HC.out
      change Calls Tryz.prog 130 #[.int .i64 y, .pointer (some ⟨B, 0, none⟩)] wr (fun e w' => e = .returned (.bool (outB n y)) ∧ wr = w') at cc
      clear hcc hy A3
      cases ho : outB n y with
      | true =>
        rw [ho] at cc
        have F := Lib.hid (show l.any (outB n) = true by rw [List.any_eq_true]; exact ⟨y, List.mem_of_getElem? HY.out, ho⟩)
        clear ho
        go_wp2_with (go_at_call 130; refine cc.mono ?_; rintro e w' ⟨rfl, rfl⟩)
        go_ret
        exact ⟨k, rfl, by rw [F.out, decide_eq_true (by omega)], rfl⟩
      | false =>
        rw [ho] at cc
        have F := Lib.hid (any_take_no HY.out HT.out ho)
        clear ho
        go_wp2_with (go_at_call 130; refine cc.mono ?_; rintro e w' ⟨rfl, rfl⟩)
        go_roundw
        case rel => exact ⟨k + 1, by omega, by go_num, F.out, by first | trivial | rfl⟩
        case measure => simp [intOf]; omega
    · have F := Lib.hid (show l.any (outB n) = false by have := HT.out; rwa [List.take_of_length_le (by omega)] at this)
      have e1 : k = l.length := by omega
      subst e1
      go_wp2_with fail
      go_ret
      exact ⟨-1, rfl, by rw [F.out]; rfl, rfl⟩
set_option maxRecDepth 100000 in
theorem containsFuncI_any (v : Value) (l : List Int) (n : Int) (B : Nat) (w : World) (h : Reads w 1 v (ints l)) (hc : w.cell? ⟨B, 0, none⟩ = some (.int .i64 n)) :
    Calls Tryz.prog 129 #[v, .func (.func 130) #[] #[.pointer (some ⟨B, 0, none⟩)]] w (fun e w' => e = .returned (.bool (l.any (outB n))) ∧ w = w') := by
  have c := indexFuncI_any v l n B w h hc
  obtain ⟨pa, ca, rfl, a1, a2, a3⟩ := h.at
  clear h a3 hc
  go_enter Tryz.func129, Tryz.ntmps129
  go_wp2_with fail
  refine c.mono ?_
  rintro e w2 ⟨r, rfl, hn, rfl⟩
  have F := Lib.hid hn
  clear hn
  go_wp2_with fail
  go_ret
  exact ⟨ret_bool (by rw [← F.out]), rfl⟩
theorem exNone_mk (x : Ex) : exNone x = (x.op == 0 && x.n == 0 && decide (x.args.length = 0)) := by
  unfold exNone
  cases x.args <;> simp
set_option maxRecDepth 100000 in
theorem eqf0_any (p : Option Addr) (n cap : Nat) (w : World) : Calls Tryz.prog 165 #[.slice p n cap, .slice none 0 0, .func (.func 131) #[] #[]] w (fun e w' => e = .returned (.bool (decide (n = 0))) ∧ w = w') := by
  go_enter Tryz.func165, Tryz.ntmps165
  by_cases h : n = 0
  · subst h
    go_wp2_with fail
    go_loopg [17] 1 (fun g vi wr => vi = .int .i64 0 ∧ wr = w)
    case atStart => exact ⟨rfl, rfl⟩
    case round =>
      obtain ⟨rfl, rfl⟩ := hrel
      go_wp2_with fail
      go_ret
      exact ⟨rfl, rfl⟩
  · have e : ((n : Int) != 0) = true := by simp; omega
    rw [decide_eq_false h]
    clear h
    go_wp2_with fail
    go_ret
    exact ⟨rfl, rfl⟩
set_option maxRecDepth 100000 in
set_option maxHeartbeats 1000000 in
theorem same0_any (x : Ex) (a : Array Value) (w : World) (h : ExAt w a x) : Calls Tryz.prog 131 #[.agg a, .agg #[.int .u8 0, .int .i64 0, .slice none 0 0]] w (Gives w (.bool (exNone x))) := by
  obtain ⟨p, cap, rfl, h0, h1, h2, h3, h4, h5⟩ := h.parts
  have HX := Lib.hid (exNone_mk x)
  unfold maxLen at h4
  clear h h5
  go_enter Tryz.func131, Tryz.ntmps131
  by_cases b1 : x.op = 0
  · have c1 : (x.op == 0) = true := by simp [b1]
    rw [c1] at HX
    by_cases b2 : x.n = 0
    · have c2 : (x.n == 0) = true := by simp [b2]
      rw [c2] at HX
      by_cases b3 : x.args.length = 0
      · have c3 : decide (x.args.length = 0) = true := by simp [b3]
        rw [c3] at HX
        have cc := fun w => eqf0_any p x.args.length cap w
        rw [c3] at cc
        clear b1 b2 b3 c3
        go_wp2_with fail
        refine (cc _).mono ?_
        rintro e w2 ⟨rfl, rfl⟩
        go_wp2_with fail
        go_ret
        exact ⟨rbool (by rw [HX.out]; rfl), ((Kept.refl _ _).alloc _).alloc _⟩
      · have c3 : decide (x.args.length = 0) = false := by simp [b3]
        rw [c3] at HX
        have cc := fun w => eqf0_any p x.args.length cap w
        rw [c3] at cc
        clear b1 b2 b3 c3
        go_wp2_with fail
        refine (cc _).mono ?_
        rintro e w2 ⟨rfl, rfl⟩
        go_wp2_with fail
        go_ret
        exact ⟨rbool (by rw [HX.out]; rfl), ((Kept.refl _ _).alloc _).alloc _⟩
    · have c2 : (x.n == 0) = false := by simp [b2]
      rw [c2] at HX
      clear b1 b2
      go_wp2_with fail
      go_ret
      exact ⟨rbool (by rw [HX.out]; rfl), ((Kept.refl _ _).alloc _).alloc _⟩
  · have c1 : (x.op == 0) = false := by simp [b1]
    rw [c1] at HX
    clear b1
    go_wp2_with fail
    go_ret
    exact ⟨rbool (by rw [HX.out]; rfl), ((Kept.refl _ _).alloc _).alloc _⟩
end Go.Proofs.YtglbkodmmogomaaGreatDoor
/-
  job: the rules.
-/
namespace Go.Proofs.YtglbkodmmogomaaGreatDoor
open Go Go.RowKit
def ruleV (a b t : Int) (c : Bool) (n : Int) : List Value := [.int .i64 a, .int .i64 b, .int .u8 t, .bool c, .int .i64 n]
def jrulesC : Array Value := (ruleV 0 0 0 false 0 ++ ruleV 0 0 0 false 0 ++ ruleV 1 1 1 false 0 ++ ruleV 1 1 2 false 0 ++ ruleV 1 1 1 false 0 ++ ruleV 1 1 1 false 0 ++ ruleV 1 1 1 true 0 ++ ruleV 1 1 0 false 16 ++ ruleV 2 3 0 false 0 ++ ruleV 1 1 0 false 0).toArray
set_option maxRecDepth 100000 in
set_option maxHeartbeats 1000000 in
theorem jrules_any (w : World) : Calls Tryz.prog 127 #[] w (fun e w' => e = .returned (.agg jrulesC) ∧ Kept none' w w' ∧ w'.heap.size = w.heap.size + 1) := by
  go_enter Tryz.func127, Tryz.ntmps127
  apply wp_seq_k; intro K0 hK0
  have HK0 := Lib.hid hK0
  clear hK0
  go_wp2_with fail
  refine HK0.out _ _ ?_
  clear HK0
  obtain ⟨W0, hW0⟩ : ∃ W0, (w.alloc (.cells #[.int .i64 0, .int .i64 0, .int .u8 0, .bool false, .int .i64 0, .int .i64 0, .int .i64 0, .int .u8 0, .bool false, .int .i64 0, .int .i64 0, .int .i64 0, .int .u8 0, .bool false, .int .i64 0, .int .i64 0, .int .i64 0, .int .u8 0, .bool false, .int .i64 0, .int .i64 0, .int .i64 0, .int .u8 0, .bool false, .int .i64 0, .int .i64 0, .int .i64 0, .int .u8 0, .bool false, .int .i64 0, .int .i64 0, .int .i64 0, .int .u8 0, .bool false, .int .i64 0, .int .i64 0, .int .i64 0, .int .u8 0, .bool false, .int .i64 0, .int .i64 0, .int .i64 0, .int .u8 0, .bool false, .int .i64 0, .int .i64 0, .int .i64 0, .int .u8 0, .bool false, .int .i64 0] 202)) = W0 := ⟨_, rfl⟩
  have hB : ∃ old, W0.heap[w.heap.size]? = some (.cells old 202 (0, 0)) ∧ old.size = 50 := by rw [← hW0]; exact ⟨_, heap_alloc_new _ _, rfl⟩
  have hk : Kept none' w W0 ∧ W0.heap.size = w.heap.size + 1 := by rw [← hW0]; exact ⟨(Kept.refl _ _).alloc _, by simp⟩
  rw [hW0]
  clear hW0
  obtain ⟨old, hB, hold⟩ := hB
  apply wp_seq_k; intro K1 hK1
  apply wp_region_lit
  refine wpList_buildTo rfl 201 _ rfl (some 1) rfl (ruleV 0 0 0 false 0).toArray (by kernel_rfl) ?_
  refine wpList_buildTo rfl 201 _ rfl (some 2) rfl (ruleV 1 1 1 false 0).toArray (by kernel_rfl) ?_
  refine wpList_buildTo rfl 201 _ rfl (some 3) rfl (ruleV 1 1 2 false 0).toArray (by kernel_rfl) ?_
  refine wpList_buildTo rfl 201 _ rfl (some 4) rfl (ruleV 1 1 1 false 0).toArray (by kernel_rfl) ?_
  refine wpList_buildTo rfl 201 _ rfl (some 5) rfl (ruleV 1 1 1 false 0).toArray (by kernel_rfl) ?_
  refine wpList_buildTo rfl 201 _ rfl (some 6) rfl (ruleV 1 1 1 true 0).toArray (by kernel_rfl) ?_
  refine wpList_buildTo rfl 201 _ rfl (some 7) rfl (ruleV 1 1 0 false 16).toArray (by kernel_rfl) ?_
  refine wpList_buildTo rfl 201 _ rfl (some 8) rfl (ruleV 2 3 0 false 0).toArray (by kernel_rfl) ?_
  refine wpList_buildTo rfl 201 _ rfl (some 9) rfl (ruleV 1 1 0 false 0).toArray (by kernel_rfl) ?_
  refine wpList_buildTo rfl 202 _ rfl (some 10) rfl jrulesC (by kernel_rfl) ?_
  refine wpList_store_rowTo rfl 202 _ _ rfl rfl w.heap.size jrulesC (by as_aux_lemma => kernel_rfl) (by as_aux_lemma => kernel_rfl) 202 old hB (by kernel_rfl) hold (by kernel_rfl) ?_
  apply wpList_nil
  refine hK1 _ _ ?_
  have hset := setRow_heap W0 w.heap.size old jrulesC 202 (0, 0) hB
  have hks : Kept none' w (W0.setRow w.heap.size jrulesC) ∧ (W0.setRow w.heap.size jrulesC).heap.size = w.heap.size + 1 := by
    unfold World.setRow
    refine ⟨⟨hk.1.os, hk.1.tape, hk.1.output, by simp [hk.2], fun k hkk hn => ?_⟩, by simp [hk.2]⟩
    rw [← hk.1.block k hkk hn]
    simp only [Array.getElem?_modify]
    rw [if_neg (by omega)]
  have HS := Lib.hid (And.intro hset hks)
  clear hset hks hk hB
  apply wp_ret
  refine bodyPost_ret (results_cell_row (p := 0) (ty := 202) rfl _ _ w.heap.size 202 jrulesC (0, 0) _ (by as_aux_lemma => kernel_rfl) HS.out.1 Tryz.underlying202 rfl (by kernel_rfl)) rfl ⟨rfl, HS.out.2⟩
end Go.Proofs.YtglbkodmmogomaaGreatDoor
/-
  job: may.
-/
namespace Go.Proofs.YtglbkodmmogomaaGreatDoor
open Go Go.RowKit
attribute [local irreducible] wpL wpTr
theorem rule_at (k : Int) (h1 : 1 ≤ k) (h2 : k ≤ 9) (w : World) : (Instr.index 202 (.agg jrulesC) (.int .u8 k)).run Tryz.prog w = .ok (.agg (ruleV (jLeast k) (jMost k) (jTy k) (jAcc k) (jN k)).toArray) w := by
  have hk : k = 1 ∨ k = 2 ∨ k = 3 ∨ k = 4 ∨ k = 5 ∨ k = 6 ∨ k = 7 ∨ k = 8 ∨ k = 9 := by omega
  rcases hk with h | h | h | h | h | h | h | h | h
  all_goals (subst h; clear h1 h2; apply Eq.symm; apply Eq.symm; kernel_rfl)
/-- A rule's cells in block B. -/
structure RuleCells (w : World) (B : Nat) (L M : Int) (t : Int) (c : Bool) (N : Int) : Prop where
  r0 : w.cell? ⟨B, 0, none⟩ = some (.int .i64 L)
  r1 : w.cell? ⟨B, 1, none⟩ = some (.int .i64 M)
  r2 : w.cell? ⟨B, 2, none⟩ = some (.int .u8 t)
  r3 : w.cell? ⟨B, 3, none⟩ = some (.bool c)
  r4 : w.cell? ⟨B, 4, none⟩ = some (.int .i64 N)
theorem RuleCells.of {w : World} {B E : Nat} {L M t N : Int} {c : Bool} (h : w.heap[B]? = some (.cells #[.int .i64 L, .int .i64 M, .int .u8 t, .bool c, .int .i64 N] E (0, 0))) : RuleCells w B L M t c N :=
  ⟨cells_at h rfl, cells_at h rfl, cells_at h rfl, cells_at h rfl, cells_at h rfl⟩
theorem RuleCells.pure {w w' : World} {B : Nat} {L M t N : Int} {c : Bool} (h : RuleCells w B L M t c N) (hk : Kept none' w w') : RuleCells w' B L M t c N :=
  ⟨hk.cell (fun h => h) h.r0, hk.cell (fun h => h) h.r1, hk.cell (fun h => h) h.r2, hk.cell (fun h => h) h.r3, hk.cell (fun h => h) h.r4⟩
theorem set5 {w : World} {B E : Nat} {a b c d e a' b' c' d' e' : Value} (h : w.heap[B]? = some (.cells #[a, b, c, d, e] E (0, 0))) :
    (((((w.setCell ⟨B, 0, none⟩ a').setCell ⟨B, 1, none⟩ b').setCell ⟨B, 2, none⟩ c').setCell ⟨B, 3, none⟩ d').setCell ⟨B, 4, none⟩ e').heap[B]? = some (.cells #[a', b', c', d', e'] E (0, 0)) := by
  have h1 := set_at h 0 a'
  have h2 := set_at h1 1 b'
  have h3 := set_at h2 2 c'
  have h4 := set_at h3 3 d'
  have h5 := set_at h4 4 e'
  simpa using h5
/-- Where may stands behind its rule. -/
theorem kept5 {w0 w : World} {B : Nat} {a b c d e : Value} (h : Kept none' w0 w) (hB : w0.heap.size ≤ B) :
    Kept none' w0 (((((w.setCell ⟨B, 0, none⟩ a).setCell ⟨B, 1, none⟩ b).setCell ⟨B, 2, none⟩ c).setCell ⟨B, 3, none⟩ d).setCell ⟨B, 4, none⟩ e) :=
  ((((h.setCell (p := ⟨B, 0, none⟩) (.inr hB) _).setCell (p := ⟨B, 1, none⟩) (.inr hB) _).setCell (p := ⟨B, 2, none⟩) (.inr hB) _).setCell (p := ⟨B, 3, none⟩) (.inr hB) _).setCell (p := ⟨B, 4, none⟩) (.inr hB) _
set_option maxRecDepth 100000 in
set_option maxHeartbeats 1000000 in
theorem may_node (d : JN) (a : Array Value) (at_ : Nat) (w : World) (h : JNAt w a d) (hat : at_ ≤ 1000) : Calls Tryz.prog 86 #[.agg a, .int .i64 (at_ : Int)] w (Gives w (.bool (mayN at_ d))) := by
  have h0 := h
  obtain ⟨pi, ci, p, cap, rfl, h1, h2, h3, h4, h5, h6, h7⟩ := h0
  have H := Lib.hid (And.intro h1 (And.intro h2 h7))
  clear h1 h2 h3 h h7
  go_enter Tryz.func86, Tryz.ntmps86
  go_wp2_with fail
  obtain ⟨W0, hW0⟩ : ∃ W0, (w.alloc (.cells (jnC d pi ci p cap) 42)).alloc (.cells #[.int .i64 (at_ : Int)] 3) = W0 := ⟨_, rfl⟩
  have k0 : Kept none' w W0 := by rw [← hW0]; exact ((Kept.refl _ _).alloc _).alloc _
  have kA : Kept none' (w.alloc (.cells (jnC d pi ci p cap) 42)) W0 := by rw [← hW0]; exact (Kept.refl _ _).alloc _
  have c0 : W0.cell? ⟨w.heap.size, 0, none⟩ = some (.string d.uid) := kA.cell (fun h => h) (by simp)
  have c1 : W0.cell? ⟨w.heap.size, 1, none⟩ = some (.int .u8 d.kind) := kA.cell (fun h => h) (by simp)
  have c2 : W0.cell? ⟨w.heap.size, 2, none⟩ = some (.slice pi d.ins.length ci) := kA.cell (fun h => h) (by simp)
  have c3 : W0.cell? ⟨w.heap.size, 3, none⟩ = some (.int .u8 d.x.op) := kA.cell (fun h => h) (by simp)
  have c4 : W0.cell? ⟨w.heap.size, 4, none⟩ = some (.int .i64 d.x.n) := kA.cell (fun h => h) (by simp)
  have c5 : W0.cell? ⟨w.heap.size, 5, none⟩ = some (.slice p d.x.args.length cap) := kA.cell (fun h => h) (by simp)
  have c6 : W0.cell? ⟨w.heap.size, 6, none⟩ = some (.int .i64 d.n) := kA.cell (fun h => h) (by simp)
  have e0 : W0.cell? ⟨w.heap.size + 1, 0, none⟩ = some (.int .i64 (at_ : Int)) := by rw [← hW0]; simp
  rw [hW0]
  have K0 := Lib.hid k0
  clear hW0 k0 kA
  (with_reducible refine (name_any d.uid H.out.2.2 W0).mono ?_)
  rintro e W1 ⟨rfl, k1⟩
  have c0 := k1.cell (p := ⟨w.heap.size, 0, none⟩) (fun h => h) c0
  have c1 := k1.cell (p := ⟨w.heap.size, 1, none⟩) (fun h => h) c1
  have c2 := k1.cell (p := ⟨w.heap.size, 2, none⟩) (fun h => h) c2
  have c3 := k1.cell (p := ⟨w.heap.size, 3, none⟩) (fun h => h) c3
  have c4 := k1.cell (p := ⟨w.heap.size, 4, none⟩) (fun h => h) c4
  have c5 := k1.cell (p := ⟨w.heap.size, 5, none⟩) (fun h => h) c5
  have c6 := k1.cell (p := ⟨w.heap.size, 6, none⟩) (fun h => h) c6
  have e0 := k1.cell (p := ⟨w.heap.size + 1, 0, none⟩) (fun h => h) e0
  have K1 := Lib.hid (K0.out.trans k1)
  clear k1
  have HM := Lib.hid (show mayN at_ d = mayP (nameOk d.uid) d.kind d.ins.length (goodIns d.ins at_) (exNone d.x) (fun acc ty => exIs d.x acc ty) d.n from rfl)
  cases hn : nameOk d.uid with
  | false =>
    rw [hn] at HM
    clear hn
    go_wp2_with fail
    go_ret
    exact ⟨rbool (by rw [HM.out]; rfl), K1.out⟩
  | true =>
    rw [hn] at HM
    clear hn
    by_cases hk : d.kind < 1 ∨ 9 < d.kind
    · have F := Lib.hid (show mayN at_ d = false by rw [HM.out]; unfold mayP; rw [if_pos (.inr hk)])
      rcases hk with hk | hk
      · go_wp2_with fail
        go_ret
        exact ⟨rbool (by rw [F.out]), K1.out⟩
      · go_wp2_with fail
        go_ret
        exact ⟨rbool (by rw [F.out]), K1.out⟩
    · have hk1 : 1 ≤ d.kind := by omega
      have hk2 : d.kind ≤ 9 := by omega
      have hidx := fun W => rule_at d.kind hk1 hk2 W
      clear hk
      have hrv : (ruleV (jLeast d.kind) (jMost d.kind) (jTy d.kind) (jAcc d.kind) (jN d.kind)).toArray = #[.int .i64 (jLeast d.kind : Int), .int .i64 (jMost d.kind : Int), .int .u8 (jTy d.kind), .bool (jAcc d.kind), .int .i64 (jN d.kind)] := rfl
      rw [hrv] at hidx
      have hjr := fun W => jrules_any W
      go_wp2_with fail
      refine wp_region_tree (fun W => Kept none' W1 W) (by kernel_rfl) (by kernel_rfl) (Kept.refl _ _).drew ?_
      refine wpTr_float (k := 1) (by kernel_rfl) rfl rfl (fun W hW => by go_simp; rfl) ?_
      go_frame
      refine wpTr_float (k := 2) (by kernel_rfl) rfl rfl (fun W hW => by have z1 := hW.cell (fun h => h) c1; go_simp; rfl) ?_
      go_frame
      refine wpTr_two (i := 0) (k := 4) (by kernel_rfl) (by kernel_rfl) rfl rfl rfl rfl ?_ ?_
      · intro K hK
        go_wp2_with fail
        refine (hjr _).mono ?_
        rintro e W2 ⟨rfl, k2, s2⟩
        go_wp2_with fail
        refine hK _ _ k2.drew_left ?_
        clear hK
        refine wpTr_float (k := 3) (by kernel_rfl) rfl rfl (fun W hW => by go_simp; rfl) ?_
        go_frame
        refine wpTr_loud (k := 4) (by kernel_rfl) (by kernel_rfl) rfl rfl ?_
        intro K hK
        go_wp2_with fail
        refine hK _ _ (k2.drew_left.alloc _) ?_
        clear hK
        refine wpTr_loud (k := 5) (by kernel_rfl) (by kernel_rfl) rfl rfl ?_
        intro K hK
        go_wp2_with fail
        have kW : Kept none' W1 (W2.alloc (.cells #[.int .i64 (jLeast d.kind : Int), .int .i64 (jMost d.kind : Int), .int .u8 (jTy d.kind), .bool (jAcc d.kind), .int .i64 (jN d.kind)] 201)) := k2.drew_left.alloc _
        have hR := RuleCells.of (heap_alloc_new W2 (.cells #[.int .i64 (jLeast d.kind : Int), .int .i64 (jMost d.kind : Int), .int .u8 (jTy d.kind), .bool (jAcc d.kind), .int .i64 (jN d.kind)] 201))
        have hs2 : W2.heap.size = W1.heap.size + 1 := s2
        rw [hs2] at hR
        refine hK _ _ kW ?_
        clear hK
        refine wpTr_nil (by kernel_rfl) kW ?_
        generalize (W2.alloc (.cells #[.int .i64 (jLeast d.kind : Int), .int .i64 (jMost d.kind : Int), .int .u8 (jTy d.kind), .bool (jAcc d.kind), .int .i64 (jN d.kind)] 201)) = W3 at *
        generalize W1.heap.size + 1 = B at *
        have K3 := Lib.hid (K1.out.trans kW)
        have c0 := kW.cell (p := ⟨w.heap.size, 0, none⟩) (fun h => h) c0
        have c1 := kW.cell (p := ⟨w.heap.size, 1, none⟩) (fun h => h) c1
        have c2 := kW.cell (p := ⟨w.heap.size, 2, none⟩) (fun h => h) c2
        have c3 := kW.cell (p := ⟨w.heap.size, 3, none⟩) (fun h => h) c3
        have c4 := kW.cell (p := ⟨w.heap.size, 4, none⟩) (fun h => h) c4
        have c5 := kW.cell (p := ⟨w.heap.size, 5, none⟩) (fun h => h) c5
        have c6 := kW.cell (p := ⟨w.heap.size, 6, none⟩) (fun h => h) c6
        have e0 := kW.cell (p := ⟨w.heap.size + 1, 0, none⟩) (fun h => h) e0
        have HM2 : mayN at_ d = (if d.ins.length < jLeast d.kind ∨ jMost d.kind < d.ins.length ∨ goodIns d.ins at_ = false then false else if d.n < min (jN d.kind) 1 ∨ jN d.kind < d.n then false else if jTy d.kind = 0 then exNone d.x else exIs d.x (jAcc d.kind) (jTy d.kind)) := by
          rw [HM.out]; unfold mayP; rw [if_neg (by simp; omega)]
        have HM2 := Lib.hid HM2
        generalize jLeast d.kind = L at *
        generalize jMost d.kind = M at *
        generalize jTy d.kind = ty at *
        generalize jAcc d.kind = ac at *
        generalize jN d.kind = N at *
        obtain ⟨r0, r1, r2, r3, r4⟩ := hR
        clear kW hidx hrv hjr HM k2 s2
        by_cases b1 : d.ins.length < L
        · have F := Lib.hid (show mayN at_ d = false by rw [HM2.out, if_pos (.inl b1)])
          clear HM2
          go_wp2_with fail
          go_ret
          exact ⟨rbool (by rw [F.out]), K3.out⟩
        · by_cases b2 : M < d.ins.length
          · have F := Lib.hid (show mayN at_ d = false by rw [HM2.out, if_pos (.inr (.inl b2))])
            clear HM2
            go_wp2_with fail
            go_ret
            exact ⟨rbool (by rw [F.out]), K3.out⟩
          · have ct := twiceI_any _ d.ins W3 (H.out.2.1.pure K3.out)
            have cf := containsFuncI_any _ d.ins (at_ : Int) (w.heap.size + 1) W3 (H.out.2.1.pure K3.out) e0
            have hg : goodIns d.ins at_ = (decide d.ins.Nodup && !(d.ins.any (outB (at_ : Int)))) := by
              unfold goodIns
              rw [List.not_any_eq_all_not]
              congr 2
              funext k
              unfold outB
              simp
            have HG := Lib.hid hg
            clear hg
            generalize decide d.ins.Nodup = bn at *
            generalize d.ins.any (outB (at_ : Int)) = bo at *
            cases bn with
            | false =>
              have F := Lib.hid (show mayN at_ d = false by rw [HM2.out, if_pos (.inr (.inr (by rw [HG.out]; rfl)))])
              clear HM2
              go_wp2_with (go_at_call 128; refine ct.mono ?_; rintro e w' ⟨rfl, rfl⟩)
              go_ret
              exact ⟨rbool (by rw [F.out]), K3.out⟩
            | true =>
              cases bo with
              | true =>
                have F := Lib.hid (show mayN at_ d = false by rw [HM2.out, if_pos (.inr (.inr (by rw [HG.out]; rfl)))])
                clear HM2
                go_wp2_with (first | (go_at_call 128; refine ct.mono ?_; rintro e w' ⟨rfl, rfl⟩) | (go_at_call 129; refine cf.mono ?_; rintro e w' ⟨rfl, rfl⟩))
                go_ret
                exact ⟨rbool (by rw [F.out]), K3.out⟩
              | false =>
                have HM3 := Lib.hid (show mayN at_ d = (if d.n < min N 1 ∨ N < d.n then false else if ty = 0 then exNone d.x else exIs d.x ac ty) by
                  rw [HM2.out, if_neg (by rw [HG.out]; simp; omega)])
                clear HM2 HG
                by_cases b3 : d.n < min N 1
                · have F := Lib.hid (show mayN at_ d = false by rw [HM3.out, if_pos (.inl b3)])
                  clear HM3
                  go_wp2_with (first | (go_at_call 128; refine ct.mono ?_; rintro e w' ⟨rfl, rfl⟩) | (go_at_call 129; refine cf.mono ?_; rintro e w' ⟨rfl, rfl⟩))
                  go_ret
                  exact ⟨rbool (by rw [F.out]), K3.out⟩
                · by_cases b4 : N < d.n
                  · have F := Lib.hid (show mayN at_ d = false by rw [HM3.out, if_pos (.inr b4)])
                    clear HM3
                    go_wp2_with (first | (go_at_call 128; refine ct.mono ?_; rintro e w' ⟨rfl, rfl⟩) | (go_at_call 129; refine cf.mono ?_; rintro e w' ⟨rfl, rfl⟩))
                    go_ret
                    exact ⟨rbool (by rw [F.out]), K3.out⟩
                  · by_cases b5 : ty = 0
                    · subst b5
                      have F := Lib.hid (show mayN at_ d = exNone d.x by rw [HM3.out, if_neg (by omega), if_pos rfl])
                      have cs := same0_any d.x _ W3 (ExAt.pure K3.out H.out.1)
                      clear HM3
                      go_wp2_with (first | (go_at_call 128; refine ct.mono ?_; rintro e w' ⟨rfl, rfl⟩) | (go_at_call 129; refine cf.mono ?_; rintro e w' ⟨rfl, rfl⟩))
                      (with_reducible refine cs.mono ?_)
                      rintro e W4 ⟨rfl, k4⟩
                      have K4 := Lib.hid (K3.out.trans k4)
                      clear k4
                      go_wp2_with fail
                      go_ret
                      exact ⟨rbool (by rw [F.out]), K4.out⟩
                    · have F := Lib.hid (show mayN at_ d = exIs d.x ac ty by rw [HM3.out, if_neg (by omega), if_neg b5])
                      have ci := is_any d.x ac ty _ W3 (ExAt.pure K3.out H.out.1)
                      have hb : (ty == 0) = false := by simp [b5]
                      clear HM3
                      go_wp2_with (first | (go_at_call 128; refine ct.mono ?_; rintro e w' ⟨rfl, rfl⟩) | (go_at_call 129; refine cf.mono ?_; rintro e w' ⟨rfl, rfl⟩))
                      (with_reducible refine ci.mono ?_)
                      rintro e W4 ⟨rfl, k4⟩
                      have K4 := Lib.hid (K3.out.trans k4)
                      clear k4
                      go_wp2_with fail
                      go_ret
                      exact ⟨rbool (by rw [F.out]), K4.out⟩
      · intro K hK
        go_wp2_with fail
        refine hK _ _ ((Kept.refl _ _).drew.alloc _) ?_
        clear hK
        refine wpTr_loud (k := 0) (by kernel_rfl) (by kernel_rfl) rfl rfl ?_
        intro K hK
        go_wp2_with fail
        refine (hjr _).mono ?_
        rintro e W2 ⟨rfl, k2, s2⟩
        go_wp2_with fail
        refine hK _ _ (((Kept.refl _ _).drew.alloc _).trans k2) ?_
        clear hK
        refine wpTr_float (k := 3) (by kernel_rfl) rfl rfl (fun W hW => by go_simp; rfl) ?_
        go_frame
        have hB : W2.heap[W1.heap.size]? = some (.cells #[.int .i64 0, .int .i64 0, .int .u8 0, .bool false, .int .i64 0] 201 (0, 0)) := k2.heap (heap_alloc_new W1.drew (.cells #[.int .i64 0, .int .i64 0, .int .u8 0, .bool false, .int .i64 0] 201)) (fun h => h)
        have z0 : W2.cell? ⟨W1.heap.size, 0, none⟩ = some (.int .i64 0) := cells_at hB rfl
        have z1 : W2.cell? ⟨W1.heap.size, 1, none⟩ = some (.int .i64 0) := cells_at hB rfl
        have z2 : W2.cell? ⟨W1.heap.size, 2, none⟩ = some (.int .u8 0) := cells_at hB rfl
        have z3 : W2.cell? ⟨W1.heap.size, 3, none⟩ = some (.bool false) := cells_at hB rfl
        have z4 : W2.cell? ⟨W1.heap.size, 4, none⟩ = some (.int .i64 0) := cells_at hB rfl
        have f0 := free_at hB 0
        have f1 := free_at hB 1
        have f2 := free_at hB 2
        have f3 := free_at hB 3
        have f4 := free_at hB 4
        have kW := kept5 (a := .int .i64 (jLeast d.kind : Int)) (b := .int .i64 (jMost d.kind : Int)) (c := .int .u8 (jTy d.kind)) (d := .bool (jAcc d.kind)) (e := .int .i64 (jN d.kind)) (((Kept.refl none' W1).drew.alloc (.cells #[.int .i64 0, .int .i64 0, .int .u8 0, .bool false, .int .i64 0] 201)).trans k2) (Nat.le_refl _)
        have hR := RuleCells.of (set5 (a' := .int .i64 (jLeast d.kind : Int)) (b' := .int .i64 (jMost d.kind : Int)) (c' := .int .u8 (jTy d.kind)) (d' := .bool (jAcc d.kind)) (e' := .int .i64 (jN d.kind)) hB)
        have KW := Lib.hid kW
        have HR := Lib.hid hR
        clear kW hR hB
        refine wpTr_loud (k := 5) (by kernel_rfl) (by kernel_rfl) rfl rfl ?_
        intro K hK
        go_wp2_with fail
        refine hK _ _ KW.out ?_
        clear hK
        refine wpTr_nil (by kernel_rfl) KW.out ?_
        have kW := KW.out
        have hR := HR.out
        clear KW HR z0 z1 z2 z3 z4 f0 f1 f2 f3 f4
        generalize (((((W2.setCell ⟨W1.heap.size, 0, none⟩ (.int .i64 (jLeast d.kind : Int))).setCell ⟨W1.heap.size, 1, none⟩ (.int .i64 (jMost d.kind : Int))).setCell ⟨W1.heap.size, 2, none⟩ (.int .u8 (jTy d.kind))).setCell ⟨W1.heap.size, 3, none⟩ (.bool (jAcc d.kind))).setCell ⟨W1.heap.size, 4, none⟩ (.int .i64 (jN d.kind))) = W3 at *
        have K3 := Lib.hid (K1.out.trans kW)
        have c0 := kW.cell (p := ⟨w.heap.size, 0, none⟩) (fun h => h) c0
        have c1 := kW.cell (p := ⟨w.heap.size, 1, none⟩) (fun h => h) c1
        have c2 := kW.cell (p := ⟨w.heap.size, 2, none⟩) (fun h => h) c2
        have c3 := kW.cell (p := ⟨w.heap.size, 3, none⟩) (fun h => h) c3
        have c4 := kW.cell (p := ⟨w.heap.size, 4, none⟩) (fun h => h) c4
        have c5 := kW.cell (p := ⟨w.heap.size, 5, none⟩) (fun h => h) c5
        have c6 := kW.cell (p := ⟨w.heap.size, 6, none⟩) (fun h => h) c6
        have e0 := kW.cell (p := ⟨w.heap.size + 1, 0, none⟩) (fun h => h) e0
        have HM2 : mayN at_ d = (if d.ins.length < jLeast d.kind ∨ jMost d.kind < d.ins.length ∨ goodIns d.ins at_ = false then false else if d.n < min (jN d.kind) 1 ∨ jN d.kind < d.n then false else if jTy d.kind = 0 then exNone d.x else exIs d.x (jAcc d.kind) (jTy d.kind)) := by
          rw [HM.out]; unfold mayP; rw [if_neg (by simp; omega)]
        have HM2 := Lib.hid HM2
        generalize jLeast d.kind = L at *
        generalize jMost d.kind = M at *
        generalize jTy d.kind = ty at *
        generalize jAcc d.kind = ac at *
        generalize jN d.kind = N at *
        obtain ⟨r0, r1, r2, r3, r4⟩ := hR
        clear kW hidx hrv hjr HM k2 s2
        by_cases b1 : d.ins.length < L
        · have F := Lib.hid (show mayN at_ d = false by rw [HM2.out, if_pos (.inl b1)])
          clear HM2
          go_wp2_with fail
          go_ret
          exact ⟨rbool (by rw [F.out]), K3.out⟩
        · by_cases b2 : M < d.ins.length
          · have F := Lib.hid (show mayN at_ d = false by rw [HM2.out, if_pos (.inr (.inl b2))])
            clear HM2
            go_wp2_with fail
            go_ret
            exact ⟨rbool (by rw [F.out]), K3.out⟩
          · have ct := twiceI_any _ d.ins W3 (H.out.2.1.pure K3.out)
            have cf := containsFuncI_any _ d.ins (at_ : Int) (w.heap.size + 1) W3 (H.out.2.1.pure K3.out) e0
            have hg : goodIns d.ins at_ = (decide d.ins.Nodup && !(d.ins.any (outB (at_ : Int)))) := by
              unfold goodIns
              rw [List.not_any_eq_all_not]
              congr 2
              funext k
              unfold outB
              simp
            have HG := Lib.hid hg
            clear hg
            generalize decide d.ins.Nodup = bn at *
            generalize d.ins.any (outB (at_ : Int)) = bo at *
            cases bn with
            | false =>
              have F := Lib.hid (show mayN at_ d = false by rw [HM2.out, if_pos (.inr (.inr (by rw [HG.out]; rfl)))])
              clear HM2
              go_wp2_with (go_at_call 128; refine ct.mono ?_; rintro e w' ⟨rfl, rfl⟩)
              go_ret
              exact ⟨rbool (by rw [F.out]), K3.out⟩
            | true =>
              cases bo with
              | true =>
                have F := Lib.hid (show mayN at_ d = false by rw [HM2.out, if_pos (.inr (.inr (by rw [HG.out]; rfl)))])
                clear HM2
                go_wp2_with (first | (go_at_call 128; refine ct.mono ?_; rintro e w' ⟨rfl, rfl⟩) | (go_at_call 129; refine cf.mono ?_; rintro e w' ⟨rfl, rfl⟩))
                go_ret
                exact ⟨rbool (by rw [F.out]), K3.out⟩
              | false =>
                have HM3 := Lib.hid (show mayN at_ d = (if d.n < min N 1 ∨ N < d.n then false else if ty = 0 then exNone d.x else exIs d.x ac ty) by
                  rw [HM2.out, if_neg (by rw [HG.out]; simp; omega)])
                clear HM2 HG
                by_cases b3 : d.n < min N 1
                · have F := Lib.hid (show mayN at_ d = false by rw [HM3.out, if_pos (.inl b3)])
                  clear HM3
                  go_wp2_with (first | (go_at_call 128; refine ct.mono ?_; rintro e w' ⟨rfl, rfl⟩) | (go_at_call 129; refine cf.mono ?_; rintro e w' ⟨rfl, rfl⟩))
                  go_ret
                  exact ⟨rbool (by rw [F.out]), K3.out⟩
                · by_cases b4 : N < d.n
                  · have F := Lib.hid (show mayN at_ d = false by rw [HM3.out, if_pos (.inr b4)])
                    clear HM3
                    go_wp2_with (first | (go_at_call 128; refine ct.mono ?_; rintro e w' ⟨rfl, rfl⟩) | (go_at_call 129; refine cf.mono ?_; rintro e w' ⟨rfl, rfl⟩))
                    go_ret
                    exact ⟨rbool (by rw [F.out]), K3.out⟩
                  · by_cases b5 : ty = 0
                    · subst b5
                      have F := Lib.hid (show mayN at_ d = exNone d.x by rw [HM3.out, if_neg (by omega), if_pos rfl])
                      have cs := same0_any d.x _ W3 (ExAt.pure K3.out H.out.1)
                      clear HM3
                      go_wp2_with (first | (go_at_call 128; refine ct.mono ?_; rintro e w' ⟨rfl, rfl⟩) | (go_at_call 129; refine cf.mono ?_; rintro e w' ⟨rfl, rfl⟩))
                      (with_reducible refine cs.mono ?_)
                      rintro e W4 ⟨rfl, k4⟩
                      have K4 := Lib.hid (K3.out.trans k4)
                      clear k4
                      go_wp2_with fail
                      go_ret
                      exact ⟨rbool (by rw [F.out]), K4.out⟩
                    · have F := Lib.hid (show mayN at_ d = exIs d.x ac ty by rw [HM3.out, if_neg (by omega), if_neg b5])
                      have ci := is_any d.x ac ty _ W3 (ExAt.pure K3.out H.out.1)
                      have hb : (ty == 0) = false := by simp [b5]
                      clear HM3
                      go_wp2_with (first | (go_at_call 128; refine ct.mono ?_; rintro e w' ⟨rfl, rfl⟩) | (go_at_call 129; refine cf.mono ?_; rintro e w' ⟨rfl, rfl⟩))
                      (with_reducible refine ci.mono ?_)
                      rintro e W4 ⟨rfl, k4⟩
                      have K4 := Lib.hid (K3.out.trans k4)
                      clear k4
                      go_wp2_with fail
                      go_ret
                      exact ⟨rbool (by rw [F.out]), K4.out⟩
end Go.Proofs.YtglbkodmmogomaaGreatDoor
