/-
  TableOwn: the law 'a table keeps its own copy of what is put into it': the walk parts on the slice's length (Own1), and the row's step. Proved: 'tableOwn.proved : Rows.TableOwnSaid'. Its skeleton was printed by the kit's program; the hole, the fact about frozen cells and the walk are ours.
-/
import Derived.Test.YtaalpijohdlabaaRows
import Derived.WalkKit
import Derived.ProofKit
import Derived.OpenShut
import Derived.ShutString
import Derived.ChangeOld
import Derived.Below
import Derived.Test.YtaalpijohdlabaaOwn1
namespace Go.Proofs.Ytaalpijohdlabaa.tableOwn
open Go.ChangeShapes Go.WideShapes Go.ChangeAt Go.RowKit
open Go.ChangeMaps (open_string shut_string)
set_option linter.unusedVariables false

theorem own : ownKnob Try.prog.godebug = none := by kernel_rfl
theorem laidOut : laidOutB Try.prog = true := by kernel_rfl

theorem R64.of_wf {n : Int} (h : (Lit.int .i64 n).wf = true) : R64 n := by
  have h2 : IntKind.i64.min ≤ n ∧ n ≤ 9223372036854775807 := by simpa [Lit.wf] using h
  exact ⟨by have : IntKind.i64.min = -9223372036854775808 := by decide
            omega, h2.2⟩

/-- WHAT THE WALK IS TOLD OF A SLICE OF INTEGERS THAT CAME IN: it is nil; or it leads to a row of 'cap' cells, the numbers 'zs' (the first 'len' are its elements, the rest its spare room), each fitting its kind. -/
def IsRow (k : IntKind) (w : World) (a : Option Addr) (len cap : Nat) (zs : List Int) : Prop :=
  (a = none ∧ len = 0 ∧ cap = 0 ∧ zs = []) ∨
  ∃ x, a = some x ∧ len ≤ cap ∧ cap ≤ maxLen ∧ zs.length = cap ∧ (∀ i, i < zs.length → w.cell? (x.add i) = some (.int k (zs.getD i 0))) ∧ ∀ n ∈ zs, (Lit.int k n).wf = true

/-! ### STEP 1: THE WALK: the Go text returns true, AND WRITES NOTHING THAT WAS THERE: 'Below w.heap.size w w'' (Derived/Below.lean: '.refl', '.alloc', '.drew', '.setCell' at a new block, '.trans'). Open each 'IsRow' by 'rcases' AHEAD of 'go_enter'; part every test ahead of the walk. -/
theorem walk (a0 : Int) (a1 : Option Addr) (len1 cap1 : Nat) (z1 : List Int) (a2 : Int) (w : World) (w0 : (Lit.int .i64 a0).wf = true) (w1 : IsRow .i64 w a1 len1 cap1 z1) (w2 : (Lit.int .i64 a2).wf = true)
    (fz : ∀ x, a1 = some x → 0 < len1 → w.frozen? ⟨x.block, x.off, none⟩ = false) :
    Calls Try.prog 3 #[.int .i64 a0, .slice a1 len1 cap1, .int .i64 a2] w fun e w' => e = .returned (.bool true) ∧ Below w.heap.size w w' := by
  have fin : ∀ e w', Gives w (.bool true) e w' → e = .returned (.bool true) ∧ Below w.heap.size w w' := fun e w' h => ⟨h.1, h.2.below⟩
  by_cases hn : len1 = 0 ∨ 16 < len1
  · exact (own_no a0 a2 a1 len1 cap1 w hn).mono fin
  · rcases w1 with ⟨rfl, rfl, rfl, rfl⟩ | ⟨x, rfl, hl, hm, hz, hcell, hwf⟩
    · exact absurd (.inl rfl) hn
    · have c0 := hcell 0 (by omega)
      have hs : x.spot = none := by
        rw [Addr.add_zero'] at c0
        unfold World.cell? at c0
        split at c0
        · by_cases h : x.spot.isSome = true
          · rw [if_pos h] at c0; cases c0
          · simpa using h
        · cases c0
      obtain ⟨b, off, sp⟩ := x
      simp only at hs
      subst hs
      obtain ⟨y, l, hyl⟩ : ∃ y l, z1.take len1 = y :: l := by
        cases h : z1.take len1 with
        | nil => have := congrArg List.length h; rw [List.length_take, hz, Nat.min_eq_left hl] at this; simp only [List.length_nil] at this; omega
        | cons y l => exact ⟨y, l, rfl⟩
      have hlen : (y :: l).length = len1 := by rw [← hyl]; simp; omega
      simp only [List.length_cons] at hlen
      subst hlen
      refine (own_yes a0 a2 y l b off cap1 w (R64.of_wf w0) ?_ (by omega) hl hm ?_ (fz _ rfl (by omega))).mono fin
      · intro v hv
        exact R64.of_wf (hwf v (List.mem_of_mem_take (by rw [hyl]; exact hv)))
      · intro i v hv
        rw [← hyl, List.getElem?_take] at hv
        split at hv
        · obtain ⟨hi, hiv⟩ := List.getElem?_eq_some_iff.1 hv
          have := hcell i hi
          rw [Addr.add_lit] at this
          rw [this]
          simp [List.getD, hv]
        · cases hv

/-! ### THE ROW's STEP: WRITTEN OUT: LEAVE IT -/
set_option maxRecDepth 100000 in
theorem lifted (os : Os) (started : os.Started) (H : Type) (enc : TypeId × Value → H) :
    ReturnsInHanded {} Try.checked os 3 .any (Rows.tableOwnSpec.pre6 enc Try.prog Try.f3 Rows.tableOwnRow.domain false) (Rows.tableOwnSpec.post enc Try.prog Try.f3 false true false false) := by
  refine returnsInHanded_of_change (C := Try.checked) own started (by kernel_rfl) Try.func3
    (ChangeSpec.witness6 (enc := enc) (C := Try.checked) false ⟨#[], #[.int .i64 0, .slice none 0 0, .int .i64 0], []⟩ 8 (by kernel_rfl) (by kernel_rfl) (by kernel_rfl) (by kernel_rfl)) ?_
  intro W base args ds gs before hval0 hW hcnd _
  have hval : ∀ (j : Nat) t v, Try.f3.params[j]? = some t → args[j]? = some v → Value.okWide Try.prog W .any base t v := hval0
  have hW' := hW
  obtain ⟨p, q, hA0, hV, rfl, hfz, hnd⟩ := hW
  have hA : DataW.TrodAll enc Try.prog W 0 (fun _ => true) true Try.f3.params.toList args.toList ds p := hA0
  rw [Try.params3] at hA hval
  obtain ⟨v0, vs0, d0, ds0, p0, q0, hargs, rfl, rfl, h0, r0⟩ := trodAll_cons hA
  obtain ⟨v1, vs1, d1, ds1, p1, q1, rfl, rfl, rfl, h1, r1⟩ := trodAll_cons r0
  obtain ⟨v2, vs2, d2, ds2, p2, q2, rfl, rfl, rfl, h2, r2⟩ := trodAll_cons r1
  obtain ⟨rfl, rfl, rfl⟩ := trodAll_nil r2
  obtain rfl : args = #[v0, v1, v2] := by cases args; simp_all
  obtain ⟨rfl, rfl⟩ := trodVars_none hV
  obtain ⟨a0, rfl, rfl, rfl, w0⟩ := open_int Try.underlying2 (hval 0 2 v0 rfl rfl) h0
  obtain ⟨a1, len1, cap1, rfl⟩ := okWide_slice Try.underlying22 (hval 1 22 v1 rfl rfl)
  have k1 := h1
  have lt1 : ∀ x ∈ p1, x.block < W.heap.size := by obtain ⟨m, hm⟩ := k1; exact DataW.trod_lt m _ _ _ hm
  obtain ⟨z1, w1, fz⟩ : ∃ zs, IsRow .i64 W a1 len1 cap1 zs ∧ ∀ x, a1 = some x → 0 < len1 → W.frozen? ⟨x.block, x.off, none⟩ = false := by
    obtain ⟨fuel, hf⟩ := h1
    rcases open_ints Try.underlying22 Try.underlying2 (by kernel_rfl) hf with ⟨hcs, _⟩ | ⟨x, l, c, zs, hcs, _, hl, hm, hz, hx, hcell, hwz⟩
    · simp [Value.cells] at hcs
      obtain ⟨rfl, rfl, rfl⟩ := hcs
      exact ⟨[], .inl ⟨rfl, rfl, rfl, rfl⟩, fun x h => by cases h⟩
    · simp [Value.cells] at hcs
      obtain ⟨rfl, rfl, rfl⟩ := hcs
      have hp1 : p1 = MemPlace.row x zs.length := congrArg Prod.snd hx
      simp only [if_true] at hz
      refine ⟨zs, .inr ⟨_, rfl, hl, hm, hz, hcell, hwz⟩, fun x' h h0 => ?_⟩
      cases h
      refine hfz x.block x.off ?_
      rw [hp1]
      simp only [List.mem_append]
      exact .inl (.inr (.inl (MemPlace.mem_row.2 ⟨0, by omega, rfl⟩)))
  obtain ⟨a2, rfl, rfl, rfl, w2⟩ := open_int Try.underlying2 (hval 2 2 v2 rfl rfl) h2
  clear hA0 hval0
  refine (walk a0 a1 len1 cap1 z1 a2 W w0 w1 w2 fz).mono fun e W' ⟨he, bel⟩ => ?_
  subst he
  exact ⟨_, rfl, _, _, _, [], _, [], hW', trodAll_mk1 (shut_bool Try.underlying4 _), (trodAll_cons_mk (shut_int Try.underlying2 w0) (trodAll_cons_mk (Below.trod laidOut (by kernel_rfl) (of_decide_eq_true (by kernel_rfl)) k1 bel lt1) (trodAll_cons_mk (shut_int Try.underlying2 w2) trodAll_mk0))), rfl, bel.frame _, fun h => by cases h⟩

theorem over : Rows.tableOwnRow.holds Try.pinned (OpenSpec.ofChange Rows.tableOwnSpec) :=
  OpenClaim.holds_of_wide 3 Try.f3 rfl rfl rfl rfl rfl rfl rfl ⟨rfl, rfl, rfl, rfl, rfl⟩ rfl rfl rfl rfl rfl (by kernel_rfl) Try.func3 (by kernel_rfl)
    (of_decide_eq_true (by kernel_rfl)) (by unfold Func.isWrapper; first | (rw [if_pos (by decide +kernel)]; kernel_rfl) | (rw [if_neg (by decide +kernel)]; exact ⟨rfl, rfl⟩))
    (fun os started H enc _ => lifted os started H enc)

/-- ████ THE STATEMENT ████ -/
theorem proved : Rows.TableOwnSaid := over
#print axioms proved
end Go.Proofs.Ytaalpijohdlabaa.tableOwn
