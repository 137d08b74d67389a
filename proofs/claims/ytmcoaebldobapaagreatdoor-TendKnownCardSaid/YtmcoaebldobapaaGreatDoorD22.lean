/-
  The machine's operations: bytes taken as a string where they lie.
-/
import Derived.Test.YtmcoaebldobapaaGreatDoorD21
import Derived.Lib.UnsafeStr
set_option linter.unusedVariables false
set_option linter.unusedSimpArgs false
namespace Go.Proofs.YtmcoaebldobapaaGreatDoor
namespace Eng
open Go Go.RowKit
theorem liesAt_off {P : Program} {e : TypeId} (hc : P.cellsOf e = 1) (count off n : Nat) (hn : off + n ≤ count) : liesAt P P.depth e count off e n = true := by
  have hd : P.depth = (2 * (P.types.size + Made.depth) + 1) + 1 := rfl
  rw [hd]
  simp only [liesAt, Bool.or_eq_true]
  left
  rw [hd]
  simp [rowAt, hc, hn, sameLayout]
  exact .inl (Nat.mod_one off)
theorem run_unsafeString_off {P : Program} {w : World} (pt it ty e : TypeId) (hp : P.underlying pt = some (.pointer e)) (hc : P.cellsOf e = 1) (g off cells : Nat) (hsh : w.shape? g = some (e, cells)) (l : List UInt8) (h0 : l ≠ []) (hn : off + l.length ≤ cells) (h63 : l.length ≤ 9223372036854775807) (q : IntKind)
    (hcell : ∀ j x, l[j]? = some x → w.cell? ((⟨g, off, none⟩ : Addr).add j) = some (.int .u8 x.toNat)) :
    (Builtin.unsafeString_ #[pt, it] ty #[.pointer (some ⟨g, off, none⟩), .int q l.length]).run P w = .ok (.string ⟨l.toArray⟩) (w.freeze ⟨g, off, none⟩ l.length) := by
  have hl : l.length ≠ 0 := by simpa using h0
  have hlb := Lib.run_loadBytes (P := P) w l ⟨g, off, none⟩ .empty hcell
  have hlies := liesAt_off (P := P) hc (cells / P.cellsOf e) off l.length (by rw [hc]; simpa using hn)
  have h63' : ¬ (9223372036854775807 : Int) < (l.length : Int) := by omega
  have hdef : Builtin.unsafeString_ #[pt, it] ty #[.pointer (some ⟨g, off, none⟩), .int q l.length] =
      (do
        let n ← asInt (.int q l.length)
        if n < 0 then runtimePanic (.error "unsafe.String: len out of range")
        if n > IntKind.i64.max then unsupported (.unsafePointer "String: a length above the largest int")
        if n = 0 then pure (.string .empty)
        else if ← variablesAt ⟨g, off, none⟩ (← elemOf pt) n.toNat then do
          let s ← loadBytes ⟨g, off, none⟩ .empty n.toNat
          freeze ⟨g, off, none⟩ n.toNat
          pure (.string s)
        else unsupported (.unsafePointer "String: not so many bytes at ptr")) := rfl
  rw [hdef]
  have hmax : IntKind.i64.max = 9223372036854775807 := rfl
  have hneg : ¬ (l.length : Int) < 0 := by omega
  simp [asInt, asIntOf, hmax, h63', hneg, hl, variablesAt, hsh, elemOf, run_underlying hp, hlies, hlb]
section
variable {P : Program} {g : Nat} {w0 : World} {ρ : Ren} {h : Hp} {nx : Nat} {w : World}
noncomputable def bytesK (l : List CV) : (List Nat → Bool) → Bool :=
  List.rec (motive := fun _ => (List Nat → Bool) → Bool) (fun k => k []) (fun v _ ih k => match v with
    | .int .u8 (.ofNat n) => iff (Nat.ble (Nat.succ n) 256) (ih fun t => k (n :: t))
    | _ => false) l
theorem bytesK_ok : ∀ {l : List CV} {k : List Nat → Bool}, bytesK l k = true → ∃ s, k s = true ∧ small s ∧ l = s.map fun n => .int .u8 (.ofNat n)
  | [], k, hk => ⟨[], hk, fun _ h => (by cases h), rfl⟩
  | v :: l, k, hk => by
    cases v <;> try (cases hk; done)
    rename_i q z
    cases q <;> try (cases hk; done)
    cases z <;> try (cases hk; done)
    rename_i n
    have hk0 : iff (Nat.ble (Nat.succ n) 256) (bytesK l fun t => k (n :: t)) = true := hk
    obtain ⟨hn, hk1⟩ := iff_ok hk0
    have hn : n < 256 := natle hn
    obtain ⟨s, hk2, hs, e⟩ := bytesK_ok (l := l) (k := fun t => k (n :: t)) hk1
    exact ⟨n :: s, hk2, fun b hb => by
      rcases List.mem_cons.1 hb with rfl | hb
      · exact hn
      · exact hs b hb, by rw [e]; rfl⟩
noncomputable def usDataK (r : RV) (k : RV → Bool) : Bool := match r with
  | .c .nils => k (.c .nilp)
  | .c (.sl id off len _ _) => iff (Nat.ble 1 len) (k (.c (.ptr id off)))
  | _ => false
theorem usDataK_ok {ts : Array TypeId} {ty : TypeId} {r : RV} {v : Value} (hr : GR ρ r v) {k : RV → Bool} (hk : usDataK r k = true) : ∃ q x, k q = true ∧ GR ρ q x ∧ ∀ w, (Builtin.unsafeSliceData_ ts ty #[v]).run P w = .ok x w := by
  unfold usDataK at hk
  split at hk
  · cases hr with
    | c hr => cases hr; exact ⟨_, _, hk, .c .nilp, fun w => Lib.run_unsafeSliceData_nil (P := P) w ts ty 0 0⟩
  · rename_i id off len cut lim
    cases hr with
    | c hr => cases hr with
      | @sl _ b base cap _ _ _ _ hb h1 h2 h3 =>
        obtain ⟨hl, hk⟩ := iff_ok hk
        have hl := natle hl
        exact ⟨_, _, hk, .c (.ptr off hb), fun w => Lib.run_unsafeSliceData_row (P := P) w ts ty _ _ _ (by omega)⟩
  · cases hk
noncomputable def usStrK (P : Program) (g : Nat) (h : Hp) (pt : TypeId) (p n : RV) (k : RV → Hp → Bool) : Bool := match p with
  | .c .nilp => optK (natOf n) fun m => iff (Nat.beq m 0) (k (.c (.str [])) h)
  | .c (.ptr id off) => optK (natOf n) fun m => Bool.casesOn (Nat.beq m 0)
      (iff (Nat.ble g id) (optK (h.get id) fun o => (match o with
        | .row cells e _ => optK (undL P pt) fun d => (match d with
          | .pointer e' => iff (Nat.beq e e') (iff (Nat.beq (P.cellsOf e) 1) (iff (Nat.ble m 16777216) (fL (List.take m (List.drop off cells)) fun cs => iff (Nat.beq (llen cs) m) (bytesK cs fun s => h.setK id (some (.ro cells)) fun h => k (.c (.str s)) h))))
          | _ => false)
        | _ => false)))
      (k (.c (.str [])) h)
  | _ => false
theorem usStrK_ok (H : HR P g w0 ρ h nx w) {pt it ty : TypeId} {p n : RV} {pv nv : Value} (hp : GR ρ p pv) (hn : GR ρ n nv) {k : RV → Hp → Nat → Bool} (hk : usStrK P g h pt p n (fun r h => k r h nx) = true) : Do P g w0 ρ nx w k (Builtin.unsafeString_ #[pt, it] ty #[pv, nv]) := by
  have nil : ∀ (x : Option Addr) (q : IntKind), (Builtin.unsafeString_ #[pt, it] ty #[.pointer x, .int q ((0 : Nat) : Int)]).run P w = .ok (.string .empty) w := fun x q => by
    have hmax : IntKind.i64.max = 9223372036854775807 := rfl
    cases x with
    | none =>
      have hdef : Builtin.unsafeString_ #[pt, it] ty #[.pointer none, .int q ((0 : Nat) : Int)] = (do
        let n ← asInt (.int q ((0 : Nat) : Int))
        if n < 0 then runtimePanic (.error "unsafe.String: len out of range")
        if n > IntKind.i64.max then unsupported (.unsafePointer "String: a length above the largest int")
        if n = 0 then pure (.string .empty)
        else runtimePanic (.error "unsafe.String: ptr is nil and len is not zero")) := rfl
      rw [hdef]
      simp [asInt, asIntOf, hmax]
    | some a =>
      have hdef : Builtin.unsafeString_ #[pt, it] ty #[.pointer (some a), .int q ((0 : Nat) : Int)] = (do
        let n ← asInt (.int q ((0 : Nat) : Int))
        if n < 0 then runtimePanic (.error "unsafe.String: len out of range")
        if n > IntKind.i64.max then unsupported (.unsafePointer "String: a length above the largest int")
        if n = 0 then pure (.string .empty)
        else if ← variablesAt a (← elemOf pt) n.toNat then do
          let s ← loadBytes a .empty n.toNat
          freeze a n.toNat
          pure (.string s)
        else unsupported (.unsafePointer "String: not so many bytes at ptr")) := rfl
      rw [hdef]
      simp [asInt, asIntOf, hmax]
  unfold usStrK at hk
  split at hk
  · obtain ⟨m, hm, hk⟩ := optK_ok hk
    obtain ⟨h0, hk⟩ := iff_ok hk
    have h0 := nateq h0
    subst h0
    obtain ⟨q, rfl⟩ := natOf_ok hm hn
    cases hp with
    | c hp => cases hp; exact ⟨_, _, ρ, h, nx, w, hk, Ext.refl _ _, H, .c (.str [] (fun _ h => by cases h)), nil _ _⟩
  · rename_i id off
    obtain ⟨m, hm, hk⟩ := optK_ok hk
    obtain ⟨q, rfl⟩ := natOf_ok hm hn
    cases hp with
    | c hp => cases hp with
      | @ptr _ b base cap _ hb =>
        cases h0 : Nat.beq m 0 with
        | true =>
          rw [h0] at hk
          have h0 := nateq h0
          subst h0
          exact ⟨_, _, ρ, h, nx, w, hk, Ext.refl _ _, H, .c (.str [] (fun _ h => by cases h)), nil _ _⟩
        | false =>
          rw [h0] at hk
          have h0 := natne h0
          obtain ⟨hg, hk1⟩ := iff_ok hk
          have hg := natle hg
          obtain ⟨o, ho, hk2⟩ := optK_ok hk1
          cases o <;> try (cases hk2; done)
          rename_i cells e cp
          dsimp only at hk2
          obtain ⟨d, hd, hk3⟩ := optK_ok hk2
          try simp only [undL_eq, infL_eq, fnL_eq] at hd
          cases d <;> try (cases hk3; done)
          rename_i e'
          dsimp only at hk3
          obtain ⟨he, hk4⟩ := iff_ok hk3
          have he := nateq he
          subst he
          obtain ⟨hc1, hk5⟩ := iff_ok hk4
          have hc1 := nateq hc1
          obtain ⟨hm1, hk6⟩ := iff_ok hk5
          have hm1 := natle hm1
          rw [fL_eq] at hk6
          obtain ⟨hl, hk7⟩ := iff_ok hk6
          have hl := nateq hl
          rw [llen_eq] at hl
          obtain ⟨s, hk8, hs, hcs⟩ := bytesK_ok hk7
          obtain ⟨h', hk9, hh'⟩ := Tr.setK_ok hk8
          have hsl : s.length = m := by rw [← hl, hcs]; simp
          cases H.ob ho hb with
          | @row _ _ _ _ _ _ _ xs hr' hh hcl hcap hsz hmx =>
            rw [hb] at hr'; cases hr'
            have hcell : ∀ (j n : Nat), s[j]? = some n → xs[base + (off + j)]? = some (.int .u8 (n : Int)) := fun j n hj => by
              have h1 : (List.take m (List.drop off cells))[j]? = some (.int .u8 (.ofNat n)) := by rw [hcs]; simp [hj]
              have h2 : cells[off + j]? = some (.int .u8 (.ofNat n)) := by
                rw [List.getElem?_take] at h1
                split at h1
                · rwa [List.getElem?_drop] at h1
                · cases h1
              obtain ⟨x, g1, g2⟩ := hcl _ _ h2
              cases g1
              exact g2
            have hbig : base + off + m ≤ xs.size := by
              have hlast : s[m - 1]? = some (s[m - 1]'(by omega)) := by simp
              have := (Array.getElem?_eq_some_iff.1 (hcell (m - 1) _ hlast)).1
              omega
            have hlen : (s.map UInt8.ofNat).length = m := by simp [hsl]
            have hrun := run_unsafeString_off (P := P) (w := w) pt it ty e hd hc1 b (base + off) xs.size (by simp [World.shape?, hh]) (s.map UInt8.ofNat) (by
              intro e; rw [e] at hlen; exact h0 hlen.symm) (by rw [hlen]; exact hbig) (by rw [hlen]; omega) q (fun j x hj => by
                rw [List.getElem?_map] at hj
                obtain ⟨n, hn, rfl⟩ := Option.map_eq_some_iff.1 hj
                have hlt : n < 256 := hs n (List.mem_of_getElem? hn)
                have := hcell j n hn
                have e1 : ((⟨b, base + off, none⟩ : Addr).add j) = ⟨b, base + off + j, none⟩ := by
                  unfold Addr.add
                  by_cases hj0 : j = 0
                  · subst hj0; simp
                  · simp [hj0]
                rw [e1]
                simp only [World.cell?, hh]
                rw [Nat.add_assoc, this]
                simp [UInt8.toNat_ofNat', Nat.mod_eq_of_lt hlt])
            rw [hlen] at hrun
            refine ⟨_, _, ρ, h', nx, w.freeze ⟨b, base + off, none⟩ m, hk9, Ext.refl _ _, ?_, .c (.str s hs), hrun⟩
            obtain ⟨F, hfz, hF⟩ : ∃ F : Obj → Obj, w.freeze ⟨b, base + off, none⟩ m = { w with heap := w.heap.modify b F } ∧ F (.cells xs e (0, 0)) = .cells xs e (base + off, base + off + m) := ⟨_, by unfold World.freeze; rw [if_neg h0], rfl⟩
            have hb' : (w.freeze ⟨b, base + off, none⟩ m).heap[b]? = some (.cells xs e (base + off, base + off + m)) := by rw [hfz]; simp [Array.getElem?_modify, hh, hF]
            refine H.turn (id := id) (b := b) (o' := .ro cells) ho hg ⟨_, _, hb⟩ (by rw [hfz]; simp) (by rw [hfz]) (by rw [hfz]) (by rw [hfz]) (fun k hk => by rw [hfz]; simp [Array.getElem?_modify, Ne.symm hk]) hh' (.ro hb hb' hcl)
  · cases hk
end
end Eng
end Go.Proofs.YtmcoaebldobapaaGreatDoor
