/-
  The machine's operations: a select of one case, with a default, in a region of its own.
-/
import Derived.Test.YtmcoaebldobapaaGreatDoorD26
import Derived.Conc.LoneSelectN
set_option linter.unusedVariables false
set_option linter.unusedSimpArgs false
namespace Go.Proofs.YtmcoaebldobapaaGreatDoor
namespace Eng
open Go Go.RowKit
theorem wpIn_region_comm {P : Program} {ro : Option Nat} {id : Nat} {ops : Array Oper} {o : Oper} {rest : List Oper} {Q : Exit → Act → World → Prop} {a : Act} {w w' : World} {cases : Array CommCase} {v : Value}
    (hl : ops.toList = o :: rest) (hg : o.guard = none) (hd : ∀ c, o.op ≠ .defer c) (hop : (execOp a.eval o).run P w = .ok (.comm cases false .select) w)
    (hst : ∀ fr cs es, stepG P true (Go.Conc.G fr cs) w = .comm (Go.Conc.G fr cs) cases false .select w es → step P (Go.Conc.solo (Go.Conc.G fr cs) w) = .next (Go.Conc.solo (Go.Conc.G (fr.finish v) cs) w'))
    (hQ : wpListIn (W ro) 0 P ops Q rest (a.put o.dst v) w') : (Code.region id ops false).wpIn (W ro) 0 P Q a w := by
  intro b k cs hro hb hr
  have ho : ops[0]? = some o := by rw [← Array.getElem?_toList, hl]; rfl
  have hw : Region.wanted o (yielded ops a.tmps) = true := by unfold Region.wanted; rw [hg]
  have hsz : List.range ops.size = 0 :: List.range' 1 rest.length := by
    have : ops.size = rest.length + 1 := by rw [← Array.length_toList, hl]; rfl
    rw [this, List.range_eq_range', List.range'_succ]
  have hgop := stepGR_op (P := P) (b := b) (k := k) (cs := cs) (w := w) (rest := List.range' 1 rest.length) ho hw
  have hse : o.semAt b.roundOf a.eval = execOp a.eval o := by
    cases b.roundOf with
    | none => rfl
    | some l => exact Oper.semAt_some l _ _ hd
  rw [hse] at hgop
  have hs : step P (lone (b.atR a (.inRegion ops (0 :: List.range' 1 rest.length) :: k)) cs w) = .next (lone (b.atR (a.put o.dst v) (.inRegion ops (List.range' 1 rest.length) :: k)) cs w') := by
    have h1 : ∃ es, stepG P true (Go.Conc.G (b.atR a (.inRegion ops (0 :: List.range' 1 rest.length) :: k)) cs) w = .comm (Go.Conc.G (b.atR a (.inRegion ops (0 :: List.range' 1 rest.length) :: k)) cs) cases false .select w es := by
      have hgop' : stepG P true (Go.Conc.G (b.atR a (.inRegion ops (0 :: List.range' 1 rest.length) :: k)) cs) w = _ := hgop
      rw [hgop']
      simp only [stepG.apply, Sem.runT_eq, hop]
      exact ⟨_, rfl⟩
    obtain ⟨es, h1⟩ := h1
    have h2 := hst _ _ es h1
    rw [Frame.finish_atR, ho] at h2
    exact h2
  have hQ' : wpOpsIn (W ro) 0 P ops Q (List.range' 1 rest.length) (a.put o.dst v) w' := by
    rw [wpOpsIn_eq_wpListIn rest 1 (fun j => by rw [← Array.getElem?_toList, hl, Nat.add_comm]; rfl)]
    exact hQ
  obtain ⟨e, a', w'', q, r⟩ := wp_opsIn _ _ _ hQ' b k cs hro hb hr
  have h0 := stepR_region (P := P) (b := b) (a := a) (k := k) (cs := cs) (w := w) (ops := ops) (id := id)
  rw [hsz] at h0
  exact ⟨e, a', w'', q, .of_steps (.head (fen_W _) h0 (.one (fen_W _) hs)) r⟩
theorem res_send (b : Nat) (v z u : Value) (ok : Bool) (k : Int) : commResult #[Go.Conc.scase b v z] .select k u ok = .tuple [goInt k, .bool ok].toArray := by simp [commResult, Go.Conc.scase]
theorem res_recv (b : Nat) (z u : Value) (ok : Bool) : commResult #[Go.Conc.rcase b z] .select 0 u ok = .tuple [goInt 0, .bool ok, u].toArray := by simp [commResult, Go.Conc.rcase]
theorem res_none (b : Nat) (z u : Value) (ok : Bool) : commResult #[Go.Conc.rcase b z] .select (-1) u ok = .tuple [goInt (-1), .bool ok, z].toArray := by simp [commResult, Go.Conc.rcase]
section
variable {P : Program} {g : Nat} {w0 : World} {ρ : Ren} {h : Hp} {nx : Nat} {w : World} {N : Nat} {env : Env} {a : Act} {D : List Deferred}
noncomputable def selK (P : Program) (g : Nat) (cases : List SelectCase) (env : Env) (h : Hp) (k : RV → Hp → Bool) : Bool := match cases with
  | [c] => evK g env c.chan fun r => (match r with
    | .c (.ch id) => iff (Nat.ble g id) (optK (h.get id) fun o => (match o with
      | .chan cap buf s r => zeroV P c.elem fun z => (match c.send with
        | some x => evK g env x fun v => rv2 v fun a => Bool.casesOn (Nat.ble (Nat.succ (llen buf)) cap) (k (.tup [.c (.int .i64 (Int.negSucc 0)), .c (.bool false)]) h)
            (fL (buf ++ [a]) fun b => fN (Nat.succ s) fun s => h.setK id (some (.chan cap b s r)) fun h => k (.tup [.c (.int .i64 (Int.ofNat 0)), .c (.bool false)]) h)
        | none => (match buf with
          | a :: t => fN (Nat.succ r) fun r => h.setK id (some (.chan cap t s r)) fun h => k (.tup [.c (.int .i64 (Int.ofNat 0)), .c (.bool true), a]) h
          | [] => k (.tup [.c (.int .i64 (Int.negSucc 0)), .c (.bool false), z]) h))
      | _ => false))
    | _ => false)
  | _ => false
theorem selK_ok {ro : Option Nat} (H : HR P g w0 ρ h nx w) (hF : Fr D ρ N env a) {id : Nat} {ops : Array Oper} {o : Oper} {rest : List Oper} {cases : Array SelectCase} (hl : ops.toList = o :: rest) (ho : o.op = .select cases false) (hg : o.guard = none) {k : RV → Hp → Bool} (hk : selK P g cases.toList env h k = true)
    {Q : Exit → Act → World → Prop} (hQ : ∀ r x h' w', k r h' = true → HR P g w0 ρ h' nx w' → GR ρ r x → wpListIn (W ro) 0 P ops Q rest (a.put o.dst x) w') : (Code.region id ops false).wpIn (W ro) 0 P Q a w := by
  have hd : ∀ c, o.op ≠ .defer c := fun c e => by rw [ho] at e; cases e
  unfold selK at hk
  split at hk
  case h_2 => cases hk
  rename_i c hc
  obtain rfl : cases = #[c] := by apply Array.ext'; simpa using hc
  obtain ⟨r, hk, hr⟩ := evK_ok H.glob hF.er hk
  split at hk
  case h_2 => cases hk
  rename_i id
  obtain ⟨hgi, hk⟩ := iff_ok hk
  have hgi := natle hgi
  obtain ⟨ob, hob, hk⟩ := optK_ok hk
  cases ob <;> try (cases hk; done)
  rename_i cap buf s rr
  dsimp only at hk
  obtain ⟨za, z, hk, hz, hzv⟩ := zeroV_ok (ρ := ρ) hk
  obtain ⟨bb, base, cp, hrb, hcv⟩ : ∃ bb base cp, ρ id = some (.blk bb base cp) ∧ a.eval c.chan = .chan (some bb) := by
    generalize a.eval c.chan = X at hr
    cases hr with
    | c hr => cases hr with
      | ch hr => exact ⟨_, _, _, hr, rfl⟩
  obtain ⟨xs, hrb, hh, hx⟩ : ∃ xs : List Value, ρ id = some (.blk bb 0 0) ∧ w.heap[bb]? = some (.chan cap xs.toArray false s rr false) ∧ F2 (GA ρ) buf xs := by
    cases H.ob hob hrb with
    | chan hr' hh hx => rw [hrb] at hr'; cases hr'; exact ⟨_, hrb, hh, hx⟩
  have hrun : ∀ cc : CommCase, cc = { chan := .chan (some bb), send := c.send.map a.eval, zero := z } → (execOp a.eval o).run P w = .ok (.comm #[cc] false .select) w := fun cc e => by
    subst e
    obtain ⟨dst, op, type, pos, after, guard⟩ := o
    subst ho
    simp [execOp, hcv, hzv]
  split at hk
  · rename_i x hx'
    obtain ⟨v, hk, hv⟩ := evK_ok H.glob hF.er hk
    obtain ⟨va, hk, hva⟩ := rv2_ok hv hk
    have hcc : ({ chan := .chan (some bb), send := c.send.map a.eval, zero := z } : CommCase) = Go.Conc.scase bb (a.eval x) z := by rw [hx']; rfl
    have hrun := hrun _ hcc.symm
    cases hle : Nat.ble (Nat.succ (llen buf)) cap with
    | false =>
      rw [hle] at hk
      have hfull : cap ≤ xs.toArray.size := by
        have : ¬ (llen buf + 1 ≤ cap) := fun hh => by have := Nat.ble_eq_true_of_le hh; rw [hle] at this; cases this
        rw [llen_eq, f2_len hx] at this
        simp; omega
      have hG : GR ρ (.tup [.c (.int .i64 (Int.negSucc 0)), .c (.bool false)]) (commResult #[Go.Conc.scase bb (a.eval x) z] .select (-1) undef false) := by
        rw [res_send]; exact .tup (.cons (.c (.int _ _)) (.cons (.c (.bool _)) .nil))
      refine wpIn_region_comm hl hg hd hrun (fun fr cs es h => Go.Conc.step_lone_sel_default h fun cc hcc' => ?_) (hQ _ _ _ _ hk H hG)
      simp only [List.mem_toArray, List.mem_singleton, Array.mem_def] at hcc'
      rw [hcc']
      exact Go.Conc.noWay_send hh hfull
    | true =>
      rw [hle] at hk
      dsimp only at hk
      rw [fL_eq, fN_eq] at hk
      obtain ⟨h', hk, hh'⟩ := Tr.setK_ok hk
      have hroom : xs.toArray.size < cap := by
        have : llen buf + 1 ≤ cap := by rw [← Nat.ble_eq]; exact hle
        rw [llen_eq, f2_len hx] at this
        simp; omega
      have e1 : w.setChan bb cap (xs.toArray.push (a.eval x)) false (s + 1) rr false = setO w bb (.chan cap (xs ++ [a.eval x]).toArray false (s + 1) rr false) := by simp [World.setChan, setO]
      have H' := H.setO (x := .chan cap (xs ++ [a.eval x]).toArray false (s + 1) rr false) hob hgi ⟨_, _, hrb⟩ (fun w' hw' => .chan hrb hw' (f2_app hx (.cons hva .nil))) hh'
      have hG : GR ρ (.tup [.c (.int .i64 (Int.ofNat 0)), .c (.bool false)]) (commResult #[Go.Conc.scase bb (a.eval x) z] .select (0 : Nat) undef false) := by
        rw [res_send]; exact .tup (.cons (.c (.int _ _)) (.cons (.c (.bool _)) .nil))
      refine wpIn_region_comm hl hg hd hrun (fun fr cs es h => ?_) (hQ _ _ _ _ hk H' hG)
      have h2 := Go.Conc.step_lone_sel_send_room (k := 0) h rfl (fun m c' hm hc' => by
        rcases m with _ | m
        · exact absurd rfl hm
        · simp at hc') hh hroom
      rw [h2, e1]
  · rename_i hx'
    have hcc : ({ chan := .chan (some bb), send := c.send.map a.eval, zero := z } : CommCase) = Go.Conc.rcase bb z := by rw [hx']; rfl
    have hrun := hrun _ hcc.symm
    split at hk
    · rename_i va t0 _
      cases hx with
      | @cons _ y _ ys hva ht =>
        rw [fN_eq] at hk
        obtain ⟨h', hk, hh'⟩ := Tr.setK_ok hk
        have H' := H.setO (x := .chan cap ys.toArray false s (rr + 1) false) hob hgi ⟨_, _, hrb⟩ (fun w' hw' => .chan hrb hw' ht) hh'
        have e1 : w.setChan bb cap ((y :: ys).toArray.extract 1 (y :: ys).toArray.size) false s (rr + 1) false = setO w bb (.chan cap ys.toArray false s (rr + 1) false) := by simp [World.setChan, setO]
        have hG : GR ρ (.tup [.c (.int .i64 (Int.ofNat 0)), .c (.bool true), va]) (commResult #[Go.Conc.rcase bb z] .select (0 : Nat) y true) := by
          have := res_recv bb z y true
          rw [show ((0 : Nat) : Int) = 0 from rfl, this]; exact .tup (.cons (.c (.int _ _)) (.cons (.c (.bool _)) (.cons hva .nil)))
        refine wpIn_region_comm hl hg hd hrun (fun fr cs es h => ?_) (hQ _ _ _ _ hk H' hG)
        have h2 := Go.Conc.step_lone_sel_recv_buf (k := 0) h rfl (fun m c' hm hc' => by
          rcases m with _ | m
          · exact absurd rfl hm
          · simp at hc') hh (by simp)
        rw [h2, e1]
        simp
    · cases hx
      refine wpIn_region_comm hl hg hd hrun (fun fr cs es h => Go.Conc.step_lone_sel_default h fun cc hcc' => ?_) (hQ _ _ _ _ hk H (by rw [res_none]; exact .tup (.cons (.c (.int _ _)) (.cons (.c (.bool _)) (.cons hz .nil)))))
      simp only [List.mem_toArray, List.mem_singleton, Array.mem_def] at hcc'
      rw [hcc']
      exact Go.Conc.noWay_recv hh
end
end Eng
end Go.Proofs.YtmcoaebldobapaaGreatDoor
