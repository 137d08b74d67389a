/-
  OperGets, whatever the node and the rows of records: the law returns true, and what came in reads as it did. Proved: 'operGets.proved : Rows.OperGetsSaid', of any node and any rows that can be read.
-/
import Derived.Test.YtaalpijohdlabaaRows
import Derived.WalkKit
import Derived.Test.YtaalpijohdlabaaRow3
namespace Go.Proofs.Ytaalpijohdlabaa
open Go Go.RowKit Go.ChangeShapes Go.WideShapes Go.ChangeAt Go.Deep
theorem weights_all {H : Type} {P : Program} {e : TypeId} : ∀ {l : List (DataW H)} {d : DataW H}, d ∈ l → ∀ n ∈ d.weights P e, n ∈ DataW.weightsAll P e l
  | x :: l, d, h, n, hn => by
    simp only [DataW.weightsAll, List.mem_append]
    rcases List.mem_cons.1 h with rfl | h
    · exact .inl hn
    · exact .inr (weights_all h n hn)
/-- ROWS OF RECORDS THAT CAME IN. -/
theorem open_rows2 {H : Type} {enc : TypeId × Value → H} {w : World} {ts : List TypeId} {ds : List (DataW H)} {fuel n cap j : Nat} {a : Option Addr} {d : DataW H} {p : List MemPlace}
    (h : DataW.trod enc Try.prog w 0 (fun _ => true) true fuel 57 [.slice a n cap] = some (d, p)) (hsz : (DataW.weightsEach Try.prog ts ds).all (· ≤ reachBytes) = true) (hj : ts[j]? = some 57) (hd : ds[j]? = some d) :
    ∃ LL : List (List Rec), Rows2 w (.slice a n cap) LL ∧ (∀ L ∈ LL, L.length ≤ 5864062014805) ∧ ∀ L ∈ LL, ∀ r ∈ L, RecOk r := by
  obtain ⟨f, cs, es, rfl, hl, hr, hel, hx, heach⟩ := open_readsF (k := 1) Try.underlying57 (by kernel_rfl) (by omega) h
  rw [Nat.mul_one] at hl
  have each : ∀ i, i < n → ∃ L : List Rec, (∀ u, cs[i]? = some u → Reads w 3 u (recs L)) ∧ L.length ≤ 5864062014805 ∧ ∀ r ∈ L, RecOk r := by
    intro i hi
    obtain ⟨e, q, he, ht⟩ := heach i hi
    rw [Nat.mul_one, List.drop_eq_getElem_cons (by omega), List.take_succ_cons, List.take_zero] at ht
    obtain ⟨ua, un, uc, hu⟩ : ∃ ua un uc, cs[i] = .slice ua un uc := by
      rcases DataW.trod_slice Try.underlying42 ht with ⟨e, _⟩ | ⟨_, _, _, _, _, _, _, e, _⟩
      · injection e with e _; exact ⟨_, _, _, e⟩
      · injection e with e _; exact ⟨_, _, _, e⟩
    rw [hu] at ht
    obtain ⟨L, hLn, hLr, hLo⟩ := open_recs ht
    refine ⟨L, fun u hu' => ?_, ?_, hLo⟩
    · rw [List.getElem?_eq_getElem (by omega), hu] at hu'
      cases hu'
      exact hLr
    · rcases hx with ⟨rest, hx⟩ | hx
      · simp only at hx
        subst hx
        obtain ⟨f2, cs2, es2, _, _, _, hel2, hx2, _⟩ := open_readsF (k := 3) Try.underlying42 (by kernel_rfl) (by omega) ht
        rcases hx2 with ⟨rest2, hx2⟩ | hx2
        · simp only at hx2
          subst hx2
          have hw1 : (es2.length + rest2.length) * Try.prog.bytesOf 46 ∈ DataW.weights Try.prog 42 (.slice es2 rest2 : DataW H) := by
            simp only [DataW.weights, Try.underlying42]
            exact List.mem_cons_self
          have hw2 := weights_all (List.mem_of_getElem? he) _ hw1
          have hw3 : (es2.length + rest2.length) * Try.prog.bytesOf 46 ∈ DataW.weights Try.prog 57 (.slice es rest : DataW H) := by
            simp only [DataW.weights, Try.underlying57]
            exact List.mem_cons_of_mem _ (List.mem_append_left _ hw2)
          have hw4 := List.all_eq_true.1 hsz _ (DataW.weights_mem_each hj hd _ hw3)
          rw [show Try.prog.bytesOf 46 = 24 by kernel_rfl] at hw4
          have hw5 := of_decide_eq_true hw4
          have h2 : reachBytes = 140737488351232 := by decide
          rw [h2] at hw5
          omega
        · omega
      · omega
  obtain ⟨F, hF⟩ := choose_lt each
  have hm : ∀ L ∈ (List.range n).map F, ∃ i, i < n ∧ F i = L := fun L hL => by
    obtain ⟨i, hi, rfl⟩ := List.mem_map.1 hL
    exact ⟨i, List.mem_range.1 hi, rfl⟩
  refine ⟨(List.range n).map F, ⟨cs, by simpa using hl, hr, fun i u L h1 h2 => ?_⟩, fun L hL => ?_, fun L hL => ?_⟩
  · rw [List.getElem?_map] at h2
    obtain ⟨i', hi', rfl⟩ := Option.map_eq_some_iff.1 h2
    obtain ⟨hlt, rfl⟩ := List.getElem?_eq_some_iff.1 hi'
    simp only [List.length_range] at hlt
    simpa using (hF i hlt).1 u h1
  · obtain ⟨i, hi, rfl⟩ := hm L hL; exact (hF i hi).2.1
  · obtain ⟨i, hi, rfl⟩ := hm L hL; exact (hF i hi).2.2
end Go.Proofs.Ytaalpijohdlabaa
namespace Go.Proofs.Ytaalpijohdlabaa.operGets
open Go.ChangeShapes Go.WideShapes Go.ChangeAt Go.RowKit
set_option linter.unusedVariables false

set_option maxRecDepth 100000 in
theorem lifted (os : Os) (started : os.Started) (H : Type) (enc : TypeId × Value → H) :
    ReturnsInHanded {} Try.checked os 7 .any (Rows.operGetsSpec.pre6 enc Try.prog Try.f7 Rows.operGetsRow.domain false) (Rows.operGetsSpec.post enc Try.prog Try.f7 false true false false) := by
  refine lifted_sized Try.func7 rfl rfl (by kernel_rfl) (by kernel_rfl) (by kernel_rfl) (fun H ds hl => ?_) ?_ os started H enc (ChangeSpec.witness6 (enc := enc) (C := Try.checked) false ⟨#[], #[.agg #[.string ⟨#[]⟩, .int .u8 0, .slice none 0 0, .int .u8 0, .int .i64 0, .slice none 0 0, .int .i64 0], .slice none 0 0], []⟩ 8 (by kernel_rfl) (by kernel_rfl) (by kernel_rfl) (by kernel_rfl))
  · rw [Try.params7] at hl
    match ds, hl with
    | [d, d1], _ => rfl
  · intro H enc W base args ds p hA hval hfz hsz
    rw [Try.params7] at hA hval hsz
    obtain ⟨v0, vs0, d0, ds0, p0, q0, hargs, rfl, rfl, h0, r0⟩ := trodAll_cons hA
    obtain ⟨v1, vs1, d1, ds1, p1, q1, rfl, rfl, rfl, h1, r1⟩ := trodAll_cons r0
    obtain ⟨rfl, rfl, rfl⟩ := trodAll_nil r1
    obtain rfl : args = #[v0, v1] := by cases args; simp_all
    obtain ⟨cs, rfl, _⟩ := okWide_struct Try.underlying54 (hval 0 54 v0 rfl rfl)
    obtain ⟨a', n', cap', rfl⟩ := okWide_slice Try.underlying57 (hval 1 57 v1 rfl rfl)
    obtain ⟨fuel, hf⟩ := h0
    obtain ⟨fuel', hf'⟩ := h1
    obtain ⟨nd, hn⟩ := open_node hf
    obtain ⟨LL, hr, hL, _⟩ := open_rows2 (j := 1) hf' hsz rfl rfl
    exact gets_walk cs nd _ LL W hn hr hL

theorem over : Rows.operGetsRow.holds Try.pinned (OpenSpec.ofChange Rows.operGetsSpec) :=
  OpenClaim.holds_of_wide 7 Try.f7 rfl rfl rfl rfl rfl rfl rfl ⟨rfl, rfl, rfl, rfl, rfl⟩ rfl rfl rfl rfl rfl (by kernel_rfl) Try.func7 (by kernel_rfl)
    (of_decide_eq_true (by kernel_rfl)) (by unfold Func.isWrapper; first | (rw [if_pos (by decide +kernel)]; kernel_rfl) | (rw [if_neg (by decide +kernel)]; exact ⟨rfl, rfl⟩))
    (fun os started H enc _ => lifted os started H enc)

theorem proved : Rows.OperGetsSaid := over
#print axioms proved
end Go.Proofs.Ytaalpijohdlabaa.operGets
