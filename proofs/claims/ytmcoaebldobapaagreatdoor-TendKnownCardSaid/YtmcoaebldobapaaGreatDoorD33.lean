/-
  The machine tells the truth.
-/
import Derived.Test.YtmcoaebldobapaaGreatDoorD32
set_option linter.unusedVariables false
set_option linter.unusedSimpArgs false
namespace Go.Proofs.YtmcoaebldobapaaGreatDoor
namespace Eng
open Go Go.RowKit
theorem startL_ok {sz : Nat} : ∀ (al : List Nat) (L : Array Bool), L.size = sz → (∀ i ∈ al, i < sz) → (al.foldl (fun L i => L.setIfInBounds i true) L).size = sz ∧ (∀ j, j ∉ al → ∀ d, (al.foldl (fun L i => L.setIfInBounds i true) L).getD j d = L.getD j d) ∧
    (∀ j, j ∈ al ∨ (∀ d, L.getD j d = true) → ∀ d, (al.foldl (fun L i => L.setIfInBounds i true) L).getD j d = true)
  | [], L, hL, _ => ⟨hL, fun _ _ _ => rfl, fun j hj d => by rcases hj with h | h; cases h; exact h d⟩
  | i :: al, L, hL, hlt => by
    have hi := hlt i (by simp)
    obtain ⟨h1, h2, h3⟩ := startL_ok al (L.setIfInBounds i true) (by simp [hL]) fun j hj => hlt j (by simp [hj])
    refine ⟨h1, fun j hj d => ?_, fun j hj d => ?_⟩
    · simp only [List.mem_cons, not_or] at hj
      rw [List.foldl_cons, h2 j hj.2, getD_set_ne d (Ne.symm hj.1)]
    · rw [List.foldl_cons]
      refine h3 j ?_ d
      by_cases e : j = i
      · subst e; right; intro d; simp [hL, hi]
      · rcases hj with h | h
        · rcases List.mem_cons.1 h with h | h
          · exact absurd h e
          · exact .inl h
        · right; intro d; rw [getD_set_ne d (Ne.symm e)]; exact h d
theorem useAl_ok (ops : Array Oper) : (∀ i ∈ useAl ops, alAt ops i = true) ∧ (useAl ops).Nodup ∧ (useAl ops).length ≤ ops.size ∧ (∀ i ∈ useAl ops, i < ops.size) ∧ (∀ j, j < ops.size → j ∈ useAl ops ∨ early ops (useAl ops) j = true ∨ late ops (useAl ops) j = true) ∧
    ∀ i ∈ useAl ops, ∀ j ∈ useAl ops, i ≠ j → ∀ oi oj d, ops[i]? = some oi → ops[j]? = some oj → oi.dst = some d → oj.dst ≠ some d := by
  cases hc : condA ops (alOf ops) with
  | false =>
    have e : useAl ops = [] := by simp [useAl, hc]
    rw [e]
    refine ⟨by simp, by simp, by simp, by simp, fun j hj => .inr (.inl ?_), by simp⟩
    simp [early, hj]
  | true =>
    have e : useAl ops = alOf ops := by simp [useAl, hc]
    rw [e]
    simp only [condA, Bool.and_eq_true, List.all_eq_true, List.mem_range, Bool.or_eq_true, beq_iff_eq, Bool.not_eq_true', List.contains_iff_mem] at hc
    refine ⟨fun i hi => ?_, List.nodup_range.filter _, ?_, fun i hi => ?_, fun j hj => ?_, fun i hi j hj hne oi oj d hoi hoj hdi hdj => ?_⟩
    · exact (List.mem_filter.1 hi).2
    · have := List.length_filter_le (alAt ops) (List.range ops.size)
      simpa [alOf] using this
    · exact List.mem_range.1 (List.mem_filter.1 hi).1
    · rcases hc.1 j hj with (h | h) | h
      · exact .inl h
      · exact .inr (.inl h)
      · exact .inr (.inr h)
    · rcases hc.2 i hi j hj with h | h
      · exact hne h
      · simp [dstAt, hoi, hoj, hdi, hdj] at h
section
variable {P : Program} {g : Nat} {w0 : World}
theorem wpAnyIn_of_D {ro : Option Nat} {ops : Array Oper} {bar : Bool} (hd : ∀ (i : Nat) (o : Oper), ops[i]? = some o → ∀ c, o.op ≠ .defer c) {Q : Act → World → Prop} {Q' : Exit → Act → World → Prop} (hQ : ∀ a w, Q a w → Q' .normal a w) : ∀ (fuel : Nat) (listed : Array Bool) (C : Nat → World → Prop) (a : Act) (w : World),
    wpAnyD P ops bar Q fuel listed C a w → wpAnyIn (W ro) 0 P .any ops Q' fuel listed a w
  | 0, _, _, _, _, h => ⟨ready_nil h.2.1, hQ _ _ h.2.2⟩
  | fuel + 1, _, _, _, _, h => ⟨fun h0 => hQ _ _ (h.2.1 h0), fun i hi => by
      have h1 := h.2.2 i hi
      unfold wpOp at h1
      unfold wpOpIn
      split
      · rename_i ho
        rw [ho] at h1
        obtain ⟨C', _, h1⟩ := h1
        exact wpAnyIn_of_D hd hQ fuel _ C' _ _ h1
      · rename_i o ho
        rw [ho] at h1
        dsimp only at h1
        split
        · rename_i hw
          rw [if_pos hw] at h1
          rcases h1 with h1 | ⟨_, _, _, hq⟩
          · refine operIn (hd i o ho) (Oper.wp_mono (fun a w ⟨C', _, h⟩ => wpAnyIn_of_D hd hQ fuel _ C' a w h) (Oper.wp_monoQ (fun e a w h => by cases e <;> first | exact hQ _ _ h | exact h.elim) h1))
          · exact hq.elim
        · rename_i hw
          rw [if_neg hw] at h1
          obtain ⟨C', _, h1⟩ := h1
          exact ⟨fun _ _ => trivial, wpAnyIn_of_D hd hQ fuel _ C' _ _ h1⟩⟩
theorem plainB_ok {ops : Array Oper} (h : plainB ops = true) : Region.noSelect ops = true ∧ ∀ (i : Nat) (o : Oper), ops[i]? = some o → ∀ c, o.op ≠ .defer c := by
  unfold plainB at h
  rw [Array.all_eq_true'] at h
  refine ⟨?_, fun i o ho c e => ?_⟩
  · unfold Region.noSelect
    rw [Array.all_eq_true']
    intro o ho
    have := h o ho
    cases hop : o.op <;> rw [hop] at this <;> first | rfl | cases this
  · have := h o (Array.mem_of_getElem? ho)
    rw [e] at this
    cases this
theorem draw_ok {orc : Orc} (hm : P.follows .mixedOrders = true) (hO : OSnd P g w0 orc) : DSnd P g w0 orc := by
  intro ih hI id ops N env h nx k hk ro D ρ a w H hF Q hQ
  unfold drawK at hk
  obtain ⟨hs, hk⟩ := iff_ok hk
  obtain ⟨hs, hnd⟩ := plainB_ok hs
  obtain ⟨u1, u2, u3, u4, u5, u6⟩ := useAl_ok ops
  generalize useAl ops = al at *
  have H0 : HR P g w0 ρ h (nx + ops.size) { w with drawn := w.drawn + 1 } := H.drew.widen (by omega)
  obtain ⟨env1, h1, pre, hk, H1, hF1, _, _, hA⟩ := preK_ok (nx0 := nx) (Nat.le_refl _) u1 (fun i _ => H.fresh _ (by omega)) H0 hF hk
  obtain ⟨hpre, hk⟩ := iff_ok hk
  rw [fN_eq] at hk
  rw [llen_eq] at hk
  obtain ⟨s1, s2, s3⟩ := startL_ok (sz := ops.size) al (Array.replicate ops.size false) (by simp) u4
  have hunl : ∀ j, j < ops.size → (Array.replicate ops.size false).getD j true = false := fun j hj => by simp [hj]
  refine wpIn_region_any hm (wpAnyIn_of_D (bar := barT ops) (Q := Q .normal) hnd (fun _ _ h => h) ops.size _ (fun _ _ => True) _ _ ?_)
  refine regK_any (ρ0 := ρ) (nx0 := nx) (pre := pre) (al := al) hO hI hs (fun i hi => (hA i hi).1) u6 u5 ops.size ?_ (ops.size - al.length) al (by omega) _ [] env1 h1 (nx + ops.size) _ _ ρ a _ hk
    ⟨H1, hF1, Nat.le_refl _, H.gnx, ⟨ρ.le_refl, by omega, fun _ _ h => h⟩, s1, by simp, fun k o ho hl => absurd hl (by rw [Array.getD_eq_getD_getElem?, Array.getElem?_replicate]; split <;> simp), fun j hj d => s2 j hj d, fun j hj d => s3 j (.inl hj) d, fun j hj => hunl j (u4 j hj), fun _ h => h, u2, fun j hj => H.fresh _ (by omega), fun i hi hn => absurd hi hn, fun i hi => (hA i hi).2, rdsOk_ok hpre, fun p hp => (by cases hp), fun i o ho _ _ => H.fresh _ (by omega), fun _ _ _ _ _ _ _ _ => trivial⟩
  intro n L rs env h nx' cl C ρ' a w hk hE S
  obtain ⟨env', hk, hF'⟩ := postK_ok (fun i hi => S.done i hi (by simp)) S.F hk
  refine regK_any (ρ0 := ρ) (nx0 := nx) (pre := []) (al := []) hO hI hs (by simp) (by simp) (fun j hj => .inr (.inl (by simp [early, hj]))) n ?_ n [] (by simp) _ rs env' h nx' _ _ ρ' a _ hk
    ⟨S.H, hF', S.up, S.g0, S.ext, S.s1, S.s2, S.clo, S.rel, by simp, by simp, by simp, by simp, by simp, by simp, by simp, by simp, S.rok, S.bs, S.stab⟩
  intro n L rs env h nx' cl C ρ' a w hk hE S
  obtain ⟨h0, hk⟩ := iff_ok hk
  obtain rfl := nateq h0
  refine ⟨fun hb => ?_, fun j o ho => ?_, hQ env h nx' ρ' a w hk S.ext S.H S.F⟩
  · exact S.cw
  · rw [← S.rel j (by simp)]
    have hlt := (Array.getElem?_eq_some_iff.1 ho).1
    simp only [allE, List.all_eq_true, List.mem_range, Bool.or_eq_true, Bool.not_eq_true'] at hE
    rcases hE j hlt with h | h
    · exact h
    · simp [early, hlt] at h
/-- **THE MACHINE TELLS THE TRUTH.** -/
theorem exec_snd {orc : Orc} (hm : P.follows .mixedOrders = true) (hO : OSnd P g w0 orc) (n : Nat) : Snd P g w0 (exec P g orc n) := exec_ok hO (draw_ok hm hO) n n (Nat.le_refl _)
/-- At the start every variable has its block. -/
theorem HR.start (w : World) (hg : g ≤ w.heap.size) : HR P g w (fun i => if i < g then some (.blk i 0 0) else none) .leaf g w := by
  refine ⟨fun id hid => if_neg (by omega), Nat.le_refl _, fun id o ho => (by cases ho), fun i j oi oj b hi => (by cases hi), fun id b ⟨x, y, hb⟩ hid => ?_, fun id b ⟨x, y, hb⟩ => ?_, ⟨rfl, rfl, rfl, Nat.le_refl _, fun _ _ => rfl⟩, fun i hi => ⟨0, if_pos hi⟩, fun _ _ => rfl⟩
  · dsimp only at hb; rw [if_neg (by omega)] at hb; cases hb
  · dsimp only at hb; split at hb
    · cases hb; omega
    · cases hb
/-- A closed call: what it answers, and that it leaves the world as it was, but for what is new. -/
theorem closed {orc : Orc} (hm : P.follows .mixedOrders = true) {w : World} (hO : OSnd P g w orc) (hg : g ≤ w.heap.size) {n : Nat} {f : FuncId} {args : List AV} {xs : List Value} (hx : ∀ ρ, F2 (GA ρ) args xs) {k : KV} (hk : callK P g orc (exec P g orc n) f args .leaf g k = true) (hf : orc f = none) :
    Calls P f xs.toArray w fun e w' => ∃ r x ρ h nx, e = .returned x ∧ k r h nx = true ∧ HR P g w ρ h nx w' ∧ GR ρ r x := by
  rcases callK_ok hO (exec_snd hm hO n) (HR.start w hg) (hx _) hk with ⟨_, h2⟩ | ⟨r, x, h1, h2, h3⟩
  · exact Calls.mono h2 fun e w' ⟨r, x, ρ', h', nx', he, h3, h4, h5, h6⟩ => ⟨r, x, ρ', h', nx', he, h3, h5, h6⟩
  · exfalso
    unfold callK at hk
    rw [hf] at hk
    have := (callB_ok (exec_snd hm hO n) (HR.start w hg) (hx _) hk).1 w
    rw [this] at h3
    cases h3
end
end Eng
end Go.Proofs.YtmcoaebldobapaaGreatDoor
