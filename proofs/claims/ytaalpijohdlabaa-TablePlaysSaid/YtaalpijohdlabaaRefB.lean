/-
  The document's tables: Put.
-/
import Derived.Test.YtaalpijohdlabaaRefA
import Derived.Test.YtaalpijohdlabaaOpeA
namespace Go.Proofs.Ytaalpijohdlabaa
open Go Go.RowKit
attribute [local irreducible] wpL
section
variable {P : Program}
/-- The first ones of a slice. -/
theorem slk_take {T E sz : Nat} (hT : P.underlying T = some (.slice E)) {w : World} (hsz : (sizeOf E).run P w = .ok sz w) {a : Option Addr} {n cap k : Nat} {cs : List Value} (h : Reads w sz (.slice a n cap) cs) (hk : k ≤ n) :
    (Instr.slice T (.slice a n cap) none (some (.int .i64 (k : Int))) none).run P w = .ok (.slice a k cap) w ∧ Reads w sz (.slice a k cap) (cs.take (k * sz)) := by
  obtain ⟨a', n', cap', e, h1, h2, h3, h4⟩ := h
  cases e
  have hkn : k * sz ≤ n * sz := Nat.mul_le_mul_right _ hk
  refine ⟨?_, ?_⟩
  · have hb : (Instr.sliceBounds true n cap none (some (.int .i64 (k : Int))) none).run P w = .ok (0, k, cap) w := by
      simp [Instr.sliceBounds, Instr.sliceBound, asIntOf]
      intro h; omega
    simp only [Instr.slice, Sem.run_bind, run_underlying hT, Result.andThen_ok, hb, hsz, Sem.run_pure]
    cases a with
    | none => simp
    | some a => simp [Addr.add]
  · refine ⟨a, k, cap, rfl, by omega, h2, by rw [List.length_take]; omega, ?_⟩
    rcases h4 with rfl | ⟨b, off, rfl, h4⟩
    · left; simp
    · right
      refine ⟨b, off, rfl, fun i x hx => h4 i x ?_⟩
      rw [List.getElem?_take] at hx
      split at hx
      · exact hx
      · cases hx
/-- The others. -/
theorem slk_drop {T E sz : Nat} (hT : P.underlying T = some (.slice E)) {w : World} (hsz : (sizeOf E).run P w = .ok sz w) {a : Option Addr} {n cap k : Nat} {cs : List Value} (h : Reads w sz (.slice a n cap) cs) (hk : k ≤ n) :
    ∃ v, (Instr.slice T (.slice a n cap) (some (.int .i64 (k : Int))) none none).run P w = .ok v w ∧ Reads w sz v (cs.drop (k * sz)) := by
  obtain ⟨a', n', cap', e, h1, h2, h3, h4⟩ := h
  cases e
  have hkn : k * sz ≤ n * sz := Nat.mul_le_mul_right _ hk
  refine ⟨.slice (if cap = k then a else a.map (·.add (k * sz))) (n - k) (cap - k), ?_, ?_⟩
  · have hb : (Instr.sliceBounds true n cap (some (.int .i64 (k : Int))) none none).run P w = .ok (k, n, cap) w := by
      simp [Instr.sliceBounds, Instr.sliceBound, asIntOf]
      intro h; omega
    simp only [Instr.slice, Sem.run_bind, run_underlying hT, Result.andThen_ok, hb, hsz, Sem.run_pure]
  · refine ⟨_, n - k, cap - k, rfl, by omega, by omega, by rw [List.length_drop, h3, Nat.sub_mul], ?_⟩
    rcases h4 with rfl | ⟨b, off, rfl, h4⟩
    · left; simp
    · by_cases hc : cap = k
      · left
        exact List.drop_eq_nil_of_le (by rw [h3]; exact Nat.mul_le_mul_right _ (by omega))
      · right
        refine ⟨b, off + k * sz, by rw [if_neg hc]; simp only [Option.map_some]; rw [Addr.add_lit], fun i x hx => ?_⟩
        rw [Nat.add_assoc]
        rw [List.getElem?_drop] at hx
        exact h4 (k * sz + i) x hx
/-- append at a place of its own, its run known. -/
theorem wp_append_run {w w' : World} {o : Oper} {a : Act} {K : Act → World → Prop} {Q : Exit → Act → World → Prop} (s x : Operand) (t : TypeId)
    (ho : o.op = .call { callee := .builtin .append, args := #[s, x], argTypes := #[t, t] }) (v u v' : Value) (hs : a.eval s = v) (hx : a.eval x = u) (hr : (Builtin.append_ #[t, t] o.type #[v, u]).run P w = .ok v' w')
    (h : K (a.put o.dst v') w') : o.wp P a w K Q := by
  unfold Oper.wp execOp
  simp only [ho, resolve, invoke, builtin, Sem.run_bind, Sem.run_pure, Result.andThen_ok, List.map_toArray, List.map_cons, List.map_nil, hs, hx, hr]
  exact h
end
theorem RRows.nil (w : World) : RRows w [] [] := ⟨rfl, fun i p h => by cases h⟩
theorem RRows.append {w : World} {cs ds : List Value} {T U : Tab} (h : RRows w cs T) (k : RRows w ds U) : RRows w (cs ++ ds) (T ++ U) := by
  refine ⟨by rw [List.length_append, List.length_append, h.1, k.1, Nat.add_mul], fun i p hp => ?_⟩
  rw [List.getElem?_append] at hp
  split at hp
  · rename_i hlt
    obtain ⟨a, b, lv, c, d⟩ := h.2 i p hp
    have hl := h.1
    exact ⟨by rw [List.getElem?_append_left (by omega)]; exact a, by rw [List.getElem?_append_left (by omega)]; exact b, lv, by rw [List.getElem?_append_left (by omega)]; exact c, d⟩
  · rename_i hge
    obtain ⟨a, b, lv, c, d⟩ := k.2 (i - T.length) p hp
    have hl := h.1
    have e0 : i * 3 - cs.length = (i - T.length) * 3 := by omega
    have e1 : i * 3 + 1 - cs.length = (i - T.length) * 3 + 1 := by omega
    have e2 : i * 3 + 2 - cs.length = (i - T.length) * 3 + 2 := by omega
    exact ⟨by rw [List.getElem?_append_right (by omega), e0]; exact a, by rw [List.getElem?_append_right (by omega), e1]; exact b, lv, by rw [List.getElem?_append_right (by omega), e2]; exact c, d⟩
theorem RRows.take {w : World} {cs : List Value} {T : Tab} (h : RRows w cs T) (k : Nat) : RRows w (cs.take (k * 3)) (T.take k) := by
  refine ⟨by rw [List.length_take, List.length_take, h.1]; omega, fun i p hp => ?_⟩
  rw [List.getElem?_take] at hp
  split at hp
  · obtain ⟨a, b, lv, c, d⟩ := h.2 i p hp
    exact ⟨by rw [List.getElem?_take, if_pos (by omega)]; exact a, by rw [List.getElem?_take, if_pos (by omega)]; exact b, lv, by rw [List.getElem?_take, if_pos (by omega)]; exact c, d⟩
  · cases hp
theorem RRows.drop {w : World} {cs : List Value} {T : Tab} (h : RRows w cs T) (k : Nat) : RRows w (cs.drop (k * 3)) (T.drop k) := by
  refine ⟨by rw [List.length_drop, List.length_drop, h.1, Nat.sub_mul], fun i p hp => ?_⟩
  rw [List.getElem?_drop] at hp
  obtain ⟨a, b, lv, c, d⟩ := h.2 (k + i) p hp
  refine ⟨?_, ?_, lv, ?_, d⟩
  · rw [List.getElem?_drop, ← a]; congr 1; omega
  · rw [List.getElem?_drop, ← b]; congr 1; omega
  · rw [List.getElem?_drop, ← c]; congr 1; omega
theorem RRows.one {w : World} {k acc : Int} {lv : Value} {l : List Int} (h : Reads w 1 lv (ints l)) : RRows w [.int .i64 k, .int .i64 acc, lv] [(k, (acc, l))] := by
  refine ⟨rfl, fun i p hp => ?_⟩
  match i, hp with
  | 0, hp => cases hp; exact ⟨rfl, rfl, lv, rfl, h⟩
theorem RRows.cells {w : World} {cs : List Value} {T : Tab} (h : RRows w cs T) : ∀ x ∈ cs, x.oneCell' = true := by
  intro x hx
  obtain ⟨j, hj, rfl⟩ := List.mem_iff_getElem.1 hx
  have hl := h.1
  obtain ⟨p, hp⟩ : ∃ p, T[j / 3]? = some p := ⟨_, List.getElem?_eq_getElem (by omega)⟩
  obtain ⟨a, b, lv, c, d⟩ := h.2 (j / 3) p hp
  have hm : j % 3 = 0 ∨ j % 3 = 1 ∨ j % 3 = 2 := by omega
  have e : cs[j]? = some cs[j] := List.getElem?_eq_getElem hj
  rcases hm with hm | hm | hm
  · rw [show j / 3 * 3 = j by omega, e] at a; injection a with a; rw [a]; rfl
  · rw [show j / 3 * 3 + 1 = j by omega, e] at b; injection b with b; rw [b]; rfl
  · rw [show j / 3 * 3 + 2 = j by omega, e] at c; injection c with c; rw [c]
    obtain ⟨q, m, cap, rfl, _⟩ := d
    rfl
theorem Try.info118 : ∃ i z, Try.prog.info? 118 = some i ∧ i.zero = some z ∧ i.size = 3 ∧ i.bytes = 40 ∧ z.cells.size = 3 := by
  have h : (Try.prog.info? 118).map (fun i => (i.zero, i.size, i.bytes)) = some (some (.agg #[.int .i64 0, .int .i64 0, .slice none 0 0]), 3, 40) := by kernel_rfl
  obtain ⟨i, h1, h2, h3, h4⟩ := info_parts h
  exact ⟨i, _, h1, h2, h3, h4, rfl⟩
theorem size118 (w : World) : (sizeOf 118).run Try.prog w = .ok 3 w := by kernel_rfl
/-- append to rows of the call's own. -/
theorem rtap_any {w : World} {base n : Nat} {v u : Value} {cs ds : List Value} (hown : w.ownsRow base 118 3 v n cs) (hr : Reads w 3 u ds) (h1 : ∀ x ∈ ds, x.oneCell' = true) (hb : base ≤ w.heap.size) (hlen : cs.length + ds.length ≤ 1000000) :
    ∃ v' n' w', (Builtin.append_ #[72, 72] 72 #[v, u]).run Try.prog w = .ok v' w' ∧ w'.ownsRow base 118 3 v' n' (cs ++ ds) ∧ n' * 3 = cs.length + ds.length ∧ w.grownBy w' v.ownBlock := by
  obtain ⟨i, z, hi, hz, hs, hby, hzs⟩ := Try.info118
  have hn := hown.1
  obtain ⟨v', n', w', g1, g2, g3, g4, g5⟩ := run_append_reads (P := Try.prog) base 72 72 118 i z 3 40 Try.underlying72 hi hz hs hby hzs (by omega) hown hr h1 (by omega) (by unfold maxLen; omega) hb
  exact ⟨v', n', w', g1, g2, by omega, g4⟩
/-- The table with a key put, by its place. -/
theorem tput_find {k : Int} {c : Cell} : ∀ {T : Tab}, Rises T → tput k c T = T.take (tfind k T) ++ [(k, c)] ++ T.drop (if (tget T k).isSome then tfind k T + 1 else tfind k T)
  | [], _ => rfl
  | q :: T, h => by
    obtain ⟨h1, h2⟩ := List.pairwise_cons.1 h
    have ih := tput_find (k := k) (c := c) h2
    unfold tput tfind tget
    rw [List.find?_cons]
    by_cases hl : lessB q.1 k = true
    · have hne : (k == q.1) = false := by
        simp; intro e; subst e; rw [lessB_irrefl] at hl; cases hl
      rw [if_pos hl, if_pos hl, hne, ih]
      unfold tget
      split <;> simp
    · rw [if_neg hl, if_neg hl]
      by_cases he : q.1 = k
      · subst he; simp
      · have hkq : lessB k q.1 = true := (lessB_total (fun e => he e.symm)).resolve_right hl
        have e1 : (k == q.1) = false := by simp; exact fun e => he e.symm
        rw [if_neg he, e1]
        have : T.find? (fun p => k == p.1) = none := by
          rw [List.find?_eq_none]
          intro x hx e
          have := lessB_trans hkq (h1 x hx)
          simp at e; rw [e, lessB_irrefl] at this; cases this
        rw [this]; simp
end Go.Proofs.Ytaalpijohdlabaa
