/-
  The machine's operations: pointers that are seen as no type's and back.
-/
import Derived.Test.YtmcoaebldobapaaGreatDoorD22
import Derived.Lib.Builder
set_option linter.unusedVariables false
set_option linter.unusedSimpArgs false
namespace Go.Proofs.YtmcoaebldobapaaGreatDoor
namespace Eng
open Go Go.RowKit
theorem liesAt_one {P : Program} {e : TypeId} (hc : P.cellsOf e ≠ 0) (count : Nat) (hn : 1 ≤ count) : liesAt P P.depth e count 0 e 1 = true := by
  have hd : P.depth = (2 * (P.types.size + Made.depth) + 1) + 1 := rfl
  rw [hd]
  simp only [liesAt, Bool.or_eq_true]
  left
  rw [hd]
  simp [rowAt, hc, hn, sameLayout]
section
variable {P : Program} {g : Nat} {w0 : World} {ρ : Ren} {h : Hp} {nx : Nat} {w : World}
noncomputable def convUK (P : Program) (h : Hp) (src dst : TypeId) (x : RV) (k : RV → List Nat → Bool) : Bool :=
  optK (undL P src) fun ds => optK (undL P dst) fun dd => (match ds, dd, x with
    | .pointer t, .unsafePointer, .c (.ptr id off) => optK (infL P t) fun j => iff (!Nat.beq j.size 0) (optK (h.get id) fun o => optK (rowOf o) fun cells => iff (Nat.ble (Nat.succ off) (llen cells)) (k (.c (.ptr id off)) [id]))
    | .unsafePointer, .pointer u, .c (.ptr id off) => optK (infL P u) fun _ => iff (Nat.beq off 0) (optK (h.get id) fun o => (match o with
      | .row cells e (some 0) => iff (Nat.beq e u) (iff (!Nat.beq (P.cellsOf u) 0) (iff (Nat.ble (P.cellsOf u) (llen cells)) (k (.c (.ptr id 0)) [id])))
      | _ => false))
    | _, _, _ => convK P h src dst x k)
theorem row_shape {id : Nat} {o : AO} (ho : Ob P ρ id o w) {cells : List CV} (hrow : rowOf o = some cells) {b base cap : Nat} (hr : ρ id = some (.blk b base cap)) : ∃ e n, w.shape? b = some (e, n) ∧ ∀ j, j < cells.length → base + j < n := by
  have key : ∀ {cs : Array Value} {e : TypeId} {fr : Nat × Nat}, w.heap[b]? = some (.cells cs e fr) → (∀ j v, cells[j]? = some v → ∃ x, G ρ v x ∧ cs[base + j]? = some x) → ∃ e n, w.shape? b = some (e, n) ∧ ∀ j, j < cells.length → base + j < n := fun {cs e fr} hh hc =>
    ⟨e, cs.size, by simp [World.shape?, hh], fun j hj => by
      obtain ⟨x, _, h2⟩ := hc j cells[j] (by simp [hj])
      exact (Array.getElem?_eq_some_iff.1 h2).1⟩
  cases ho with
  | row hr' hh hc hcap hsz hm => cases hrow; rw [hr] at hr'; cases hr'; exact key hh hc
  | ro hr' hh hc => cases hrow; rw [hr] at hr'; cases hr'; exact key hh hc
  | map => cases hrow
  | chan => cases hrow
  | sit => cases hrow
  | mit => cases hrow
  | clo => cases hrow
  | ifc => cases hrow
  | dfr => cases hrow
  | any => cases hrow
  | loop => cases hrow
theorem convUK_ok (H : HR P g w0 ρ h nx w) {src dst : TypeId} {x : RV} {v : Value} (hx : GR ρ x v) {k : RV → List Nat → Bool} (hk : convUK P h src dst x k = true) : Rd P ρ h k (convert src dst v) := by
  unfold convUK at hk
  obtain ⟨ds, hds, hk1⟩ := optK_ok hk
  try simp only [undL_eq, infL_eq, fnL_eq] at hds
  obtain ⟨dd, hdd, hk2⟩ := optK_ok hk1
  try simp only [undL_eq, infL_eq, fnL_eq] at hdd
  split at hk2
  · rename_i t id off
    obtain ⟨j, hj, hk3⟩ := optK_ok hk2
    try simp only [undL_eq, infL_eq, fnL_eq] at hj
    obtain ⟨hj0, hk4⟩ := iff_ok hk3
    have hj0 : j.size ≠ 0 := by
      intro e; rw [e] at hj0; cases hj0
    obtain ⟨o, ho, hk5⟩ := optK_ok hk4
    obtain ⟨cells, hrow, hk6⟩ := optK_ok hk5
    obtain ⟨hlt, hk7⟩ := iff_ok hk6
    have hlt : off < cells.length := by rw [← llen_eq]; exact natle hlt
    cases hx with
    | c hx => cases hx with
      | @ptr _ b base cap _ hr =>
        refine ⟨_, _, _, hk7, .c (.ptr off hr), fun i hi => by rw [List.mem_singleton.1 hi, hr]; simp, fun u hu => ?_⟩
        obtain ⟨e, n, hsh, hn⟩ := row_shape (hu id (by simp) o ho) hrow hr
        exact Lib.run_to_unsafe u ⟨b, base + off, none⟩ hds hdd hj hj0 hsh (hn off hlt)
  · rename_i u id off
    obtain ⟨j, hj, hk3⟩ := optK_ok hk2
    try simp only [undL_eq, infL_eq, fnL_eq] at hj
    obtain ⟨h0, hk4⟩ := iff_ok hk3
    have h0 := nateq h0
    subst h0
    obtain ⟨o, ho, hk5⟩ := optK_ok hk4
    split at hk5
    case h_2 => cases hk5
    rename_i cells e
    obtain ⟨he, hk6⟩ := iff_ok hk5
    have he := nateq he
    subst he
    obtain ⟨hc0, hk7⟩ := iff_ok hk6
    have hc0 : P.cellsOf e ≠ 0 := by
      intro q; rw [q] at hc0; cases hc0
    obtain ⟨hle, hk8⟩ := iff_ok hk7
    have hle : P.cellsOf e ≤ cells.length := by rw [← llen_eq]; exact natle hle
    cases hx with
    | c hx => cases hx with
      | @ptr _ b base cap _ hr =>
        refine ⟨_, _, _, hk8, .c (.ptr 0 hr), fun i hi => by rw [List.mem_singleton.1 hi, hr]; simp, fun u hu => ?_⟩
        cases hu id (by simp) _ ho with
        | @row _ _ _ _ _ _ _ cs hr' hh hcl hcap hsz hm =>
          rw [hr] at hr'; cases hr'
          have hb0 := (hcap 0 rfl).2 rfl
          subst hb0
          have hlast : cells[P.cellsOf e - 1]? = some (cells[P.cellsOf e - 1]'(by omega)) := by simp
          obtain ⟨x, _, h2⟩ := hcl _ _ hlast
          have hsz2 := (Array.getElem?_eq_some_iff.1 h2).1
          refine Lib.run_from_unsafe u ⟨b, 0 + 0, none⟩ hds hdd hj (by simp [World.shape?, hh] : u.shape? b = some (e, cs.size)) (liesAt_one hc0 _ ?_)
          exact (Nat.le_div_iff_mul_le (Nat.pos_of_ne_zero hc0)).2 (by omega)
  · exact convK_ok H hx hk2
end
end Eng
end Go.Proofs.YtmcoaebldobapaaGreatDoor
/-
  The machine: interface values held against each other; copy.
-/
namespace Go.Proofs.YtmcoaebldobapaaGreatDoor
namespace Eng
open Go Go.RowKit
section
variable {P : Program} {g : Nat} {w0 : World} {ρ : Ren} {h : Hp} {nx : Nat} {w : World}
noncomputable def opB (op : BinOp) (r : Bool) (k : RV → Bool) : Bool := match op with
  | .eql => kB k r
  | .neq => kB k (!r)
  | _ => false
/-- Interface values that hold numbers. -/
noncomputable def ifcEqK (P : Program) (h : Hp) (op : BinOp) (t : TypeId) (i j : Nat) (k : RV → Bool) : Bool :=
  optK (h.get i) fun o => optK (h.get j) fun o' => (match o, o' with
    | .ifc t1 (.c (.int q m)), .ifc t2 (.c (.int q' n)) => optK (undL P t) fun d => (match d with
      | .interface _ => Bool.casesOn (Nat.beq t1 t2) (opB op false k) (optK (infL P t1) fun inf => iff inf.comparable (optK (undL P t1) fun d1 => (match d1 with
        | .int _ => iff (decide (q = q')) (opB op (eqI m n) k)
        | _ => false)))
      | _ => false)
    | _, _ => false)
noncomputable def binHK (P : Program) (h : Hp) (op : BinOp) (t : TypeId) (con : Bool) (x y : RV) (k : RV → List Nat → Bool) : Bool := match x, y with
  | .c (.ifc i), .c (.ifc j) => ifcEqK P h op t i j fun r => k r []
  | x, y => binK P op t con x y fun r => k r []
theorem opB_ok {op : BinOp} {t : TypeId} {r : Bool} {k : RV → Bool} {s : Sem Value} {x y : Value} (hk : opB op r k = true) (he : ∀ w, (Op.equal t x y).run P w = .ok r w) (h1 : (binOp .eql t x y) = (do pure (.bool (← Op.equal t x y)))) (h2 : (binOp .neq t x y) = (do pure (.bool (!(← Op.equal t x y))))) (hs : ∀ w, s.run P w = (binOp op t x y).run P w) : Pu P ρ k s := by
  unfold opB at hk
  split at hk
  · exact pu_bool hk fun w => by rw [hs, h1]; simp [he]
  · exact pu_bool hk fun w => by rw [hs, h2]; simp [he]
  · cases hk
theorem ifcEqK_ok (H : HR P g w0 ρ h nx w) {op : BinOp} {t : TypeId} {xo yo : Operand} {i j : Nat} {vx vy : Value} {k : RV → Bool} (hx : G ρ (.ifc i) vx) (hy : G ρ (.ifc j) vy) (hk : ifcEqK P h op t i j k = true) :
    Pu P ρ k (do eqGuard op t xo yo vx vy; binOp op t vx vy) := by
  replace hk := optK_ok hk
  obtain ⟨o, ho, hk⟩ := hk
  replace hk := optK_ok hk
  obtain ⟨o', ho', hk⟩ := hk
  split at hk
  case h_2 => cases hk
  rename_i t1 q m t2 q' n
  replace hk := optK_ok hk
  obtain ⟨d, hd, hk⟩ := hk
  try simp only [undL_eq, infL_eq, fnL_eq] at hd
  split at hk
  case h_2 => cases hk
  rename_i ms
  cases hx with
  | @ifc _ _ x hr =>
    cases hy with
    | @ifc _ _ y hr' =>
      cases H.ob ho hr with
      | ifc hq hv =>
        rw [hr] at hq; cases hq
        cases hv with
        | c hv =>
          cases hv
          cases H.ob ho' hr' with
          | ifc hq' hv' =>
            rw [hr'] at hq'; cases hq'
            cases hv' with
            | c hv' =>
              cases hv'
              have hg : ∀ w, (eqGuard op t xo yo (.iface t1 (.int q m)) (.iface t2 (.int q' n))).run P w = .ok () w := fun w => by cases op <;> rfl
              have fin : ∀ r, (∀ w, (Op.equal t (.iface t1 (.int q m)) (.iface t2 (.int q' n))).run P w = .ok r w) → opB op r k = true → Pu P ρ k (do eqGuard op t xo yo (.iface t1 (.int q m)) (.iface t2 (.int q' n)); binOp op t (.iface t1 (.int q m)) (.iface t2 (.int q' n))) := fun r he hk =>
                opB_ok (x := .iface t1 (.int q m)) (y := .iface t2 (.int q' n)) hk he rfl rfl fun w => by simp only [Sem.run_bind, hg, Result.andThen_ok]
              cases hb : Nat.beq t1 t2 with
              | false =>
                rw [hb] at hk
                have hne := natne hb
                have he : ∀ (N : Nat) (w : World), (Op.equalIn (N + 1) t (.iface t1 (.int q m)) (.iface t2 (.int q' n))).run P w = .ok false w := fun N w => by simp [Op.equalIn, run_underlying hd, hne]
                exact fin false (fun w => he 9999 w) hk
              | true =>
                rw [hb] at hk
                have e := nateq hb
                subst e
                obtain ⟨inf, hi, hk1⟩ := optK_ok hk
                try simp only [undL_eq, infL_eq, fnL_eq] at hi
                obtain ⟨hcmp, hk2⟩ := iff_ok hk1
                obtain ⟨d1, hd1, hk3⟩ := optK_ok hk2
                try simp only [undL_eq, infL_eq, fnL_eq] at hd1
                split at hk3
                case h_2 => cases hk3
                obtain ⟨hqq, hk4⟩ := iff_ok hk3
                have hqq := of_decide_eq_true hqq
                subst hqq
                have he : ∀ (N : Nat) (w : World), (Op.equalIn (N + 1 + 1) t (.iface t1 (.int q m)) (.iface t1 (.int q n))).run P w = .ok (eqI m n) w := fun N w => by
                  simp [Op.equalIn, run_underlying hd, run_underlying hd1, typeInfo, hi, hcmp, eqI_eq]
                  by_cases e : m = n <;> simp [e]
                exact fin (eqI m n) (fun w => he 9998 w) hk4
theorem binHK_ok (H : HR P g w0 ρ h nx w) {op : BinOp} {t : TypeId} {xo yo : Operand} {x y : RV} {vx vy : Value} {k : RV → List Nat → Bool} (hx : GR ρ x vx) (hy : GR ρ y vy) (hk : binHK P h op t (isCon xo || isCon yo) x y k = true) :
    Rd P ρ h k (do eqGuard op t xo yo vx vy; binOp op t vx vy) := by
  have fin : Pu P ρ (fun r => k r []) (do eqGuard op t xo yo vx vy; binOp op t vx vy) := by
    unfold binHK at hk
    split at hk
    · cases hx with
      | c hx => cases hy with
        | c hy => exact ifcEqK_ok H hx hy hk
    · exact binK_ok hx hy hk
  obtain ⟨r, v, h1, h2, h3⟩ := fin
  exact ⟨r, v, [], h1, h2, fun _ h => (by cases h), fun w _ => h3 w⟩
/-- copy, of no more than there is room for. -/
noncomputable def cpyK (P : Program) (g : Nat) (h : Hp) (t : TypeId) (d s : RV) (k : RV → Hp → Bool) : Bool :=
  optK (undL P t) fun dd => (match dd with
    | .slice e => optK (szT P e) fun sz => (match d with
      | .c (.sl id off len _ _) => srcK h sz s fun n l => iff (Nat.ble n len) (rowPutK g h id off l fun h => fN n fun n => k (.c (.int .i64 (Int.ofNat n))) h)
      | _ => false)
    | _ => false)
theorem cpyK_ok (H : HR P g w0 ρ h nx w) {t t2 ty : TypeId} {d s : RV} {dv sv : Value} (hd : GR ρ d dv) (hs : GR ρ s sv) {k : RV → Hp → Nat → Bool} (hk : cpyK P g h t d s (fun r h => k r h nx) = true) : Do P g w0 ρ nx w k (Builtin.copy_ #[t, t2] ty #[dv, sv]) := by
  obtain ⟨dd, hdd, hk⟩ := optK_ok hk
  try simp only [undL_eq, infL_eq, fnL_eq] at hdd
  split at hk
  case h_2 => cases hk
  rename_i e
  obtain ⟨sz, hsz, hk⟩ := optK_ok hk
  split at hk
  case h_2 => cases hk
  rename_i id off len cut lim _ _
  obtain ⟨n, l, xs, hk, hxs, hlen, h1, h2, _⟩ := srcK_ok H hs hk
  obtain ⟨hn, hk⟩ := iff_ok hk
  have hn := natle hn
  cases hd with
  | c hd => cases hd with
    | @sl _ b base cap _ _ _ _ hr q1 q2 q3 =>
      obtain ⟨h', w', hk, hst, H'⟩ := rowPutK_ok H hr hxs hk
      rw [fN_eq] at hk
      refine ⟨_, .int .i64 (n : Int), ρ, h', nx, w', hk, Ext.refl _ _, H', .c (.int _ _), ?_⟩
      have hmin : Nat.min n len = n := Nat.min_eq_left hn
      have hst' : (storeCells ⟨b, base + off, none⟩ xs).run P w = .ok () w' := hst
      simp only [Builtin.copy_, Sem.run_bind, run_underlying hdd, Result.andThen_ok, h1, hmin, run_sizeOf' hsz, h2, List.toList_toArray, hst', Sem.run_pure, List.getElem?_toArray, List.getElem?_cons_zero, List.getElem?_cons_succ]
      rfl
end
end Eng
end Go.Proofs.YtmcoaebldobapaaGreatDoor
