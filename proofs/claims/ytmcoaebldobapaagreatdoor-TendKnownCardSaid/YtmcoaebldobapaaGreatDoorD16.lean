/-
  The machine's operations: lengths, conversions, maps, iterators, functions, copy.
-/
import Derived.Test.YtmcoaebldobapaaGreatDoorD15
import Derived.Laws.IdiomRangeMap
import Derived.Laws.RangeString
import Derived.Laws.BytesString
set_option linter.unusedVariables false
set_option linter.unusedSimpArgs false
namespace Go.Proofs.YtmcoaebldobapaaGreatDoor
namespace Eng
open Go Go.RowKit
section
variable {P : Program} {g : Nat} {w0 : World} {ρ : Ren} {h : Hp} {nx : Nat} {w : World}
/-- What an operation that turns no memory came to; 'ids': what it looked at. -/
def Fl (P : Program) (g : Nat) (w0 : World) (ρ : Ren) (h : Hp) (nx : Nat) (k : RV → Hp → Nat → List Nat → Bool) (s : Sem Value) : Prop :=
  ∃ r x ρ' h' nx' ids, k r h' nx' ids = true ∧ Ext nx nx' ρ ρ' ∧ GR ρ' r x ∧ (∀ id ∈ ids, ρ id ≠ none) ∧ (∀ m o, h.get m = some o → h'.get m = some o) ∧ (∀ w, HR P g w0 ρ h nx w → HR P g w0 ρ' h' nx' w) ∧ ∀ w, (∀ id ∈ ids, ∀ o, h.get id = some o → Ob P ρ id o w) → s.run P w = .ok x w
/-- What an operation that looks at the memory came to. -/
def Rd (P : Program) (ρ : Ren) (h : Hp) (k : RV → List Nat → Bool) (s : Sem Value) : Prop :=
  ∃ r x ids, k r ids = true ∧ GR ρ r x ∧ (∀ id ∈ ids, ρ id ≠ none) ∧ ∀ w, (∀ id ∈ ids, ∀ o, h.get id = some o → Ob P ρ id o w) → s.run P w = .ok x w
theorem Rd.fl {k : RV → Hp → Nat → List Nat → Bool} {s : Sem Value} (hp : Rd P ρ h (fun r ids => k r h nx ids) s) : Fl P g w0 ρ h nx k s := by
  obtain ⟨r, x, ids, h1, h2, hn, h3⟩ := hp
  exact ⟨r, x, ρ, h, nx, ids, h1, Ext.refl _ _, h2, hn, fun _ _ h => h, fun _ H => H, h3⟩
theorem Pu.rd {k : RV → List Nat → Bool} {s : Sem Value} (hp : Pu P ρ (fun r => k r []) s) : Rd P ρ h k s := by
  obtain ⟨r, x, h1, h2, h3⟩ := hp
  exact ⟨r, x, [], h1, h2, fun _ h => (by cases h), fun w _ => h3 w⟩
theorem Pf.fl {k : RV → Hp → Nat → List Nat → Bool} {s : Sem Value} (hp : Pf P g w0 ρ h nx (fun r h nx => k r h nx []) s) : Fl P g w0 ρ h nx k s := by
  obtain ⟨r, x, ρ', h', nx', h1, h2, h3, h6, h4, h5⟩ := hp
  exact ⟨r, x, ρ', h', nx', [], h1, h2, h3, fun _ h => (by cases h), h6, h4, fun w _ => h5 w⟩
theorem Pu.fl {k : RV → Hp → Nat → List Nat → Bool} {s : Sem Value} (hp : Pu P ρ (fun r => k r h nx []) s) : Fl P g w0 ρ h nx k s := Pf.fl (Pu.pf (k := fun r h nx => k r h nx []) hp)
theorem loadK_ok (H : HR P g w0 ρ h nx w) {t : TypeId} {p : RV} {v : Value} (hp : GR ρ p v) {k : RV → List Nat → Bool} (hk : loadK P h t p k = true) : Rd P ρ h k (Instr.loadAt t v) := by
  unfold loadK at hk
  split at hk
  · rename_i id off
    obtain ⟨o, ho, hk⟩ := optK_ok hk
    obtain ⟨cells, hrow, hk⟩ := optK_ok hk
    cases hp with
    | c hp => cases hp with
      | ptr _ hr =>
        obtain ⟨r, x, h1, h2, h3⟩ := partK_load hrow hr hk (H.ob ho hr)
        refine ⟨r, x, [id], h1, h2, fun id hid => by have e : id = _ := List.mem_singleton.1 hid; rw [e, hr]; simp, fun w hw => ?_⟩
        simp [Instr.loadAt, Instr.sureAddr, h3 w (hw id (by simp) _ ho)]
  · cases hk
/-! ### one operand -/
noncomputable def unK (op : UnOp) (x : RV) (k : RV → Bool) : Bool := match op, x with
  | .neg, .c (.int q n) => kI q k (wrF q (Int.sub 0 n))
  | .not, .c (.bool b) => kB k (!b)
  | .xor, .c (.int q n) => kI q k (wrF q (Int.ofNat (Nat.xor (uN (mB q) (if q.signed then -1 else q.max)) (uN (mB q) n))))
  | _, _ => false
theorem unK_ok {op : UnOp} {x : RV} {v : Value} {k : RV → Bool} (hx : GR ρ x v) (hk : unK op x k = true) : Pu P ρ k (Op.unary op v) := by
  unfold unK at hk
  split at hk
  · cases hx with
    | c hx => cases hx; exact pu_int hk fun w => by simp only [Op.unary, Op.intArith, wrF_eq, Sem.run_pure]; rfl
  · cases hx with
    | c hx => cases hx; exact pu_bool hk fun w => by simp [Op.unary]
  · cases hx with
    | c hx => cases hx; exact pu_int hk fun w => by simp only [Op.unary, Op.intBits, wrF_eq, uN_eq]; simp only [BitVec.toNat_xor]; rfl
  · cases hk
/-- Bytes of a row. -/
noncomputable def cellBytes (l : List CV) : Option (List Nat) := List.rec (motive := fun _ => Option (List Nat)) (some []) (fun c _ ih => match c with
  | .int .u8 n => Int.casesOn n (fun m => Bool.casesOn (Nat.ble 256 m) (Option.casesOn ih none fun l => some (m :: l)) none) fun _ => none
  | _ => none) l
theorem cellBytes_ok {l : List CV} {xs : List Value} (hx : F2 (G ρ) l xs) : ∀ {s : List Nat}, cellBytes l = some s → small s ∧ xs = (s.map Int.ofNat).map (Value.int .u8) := by
  induction hx with
  | nil => intro s h; cases h; exact ⟨fun b hb => (by cases hb), rfl⟩
  | @cons c x l xs hc _ ih =>
    intro s h
    cases c <;> try (cases h; done)
    rename_i q n
    cases q <;> try (cases h; done)
    cases n with
    | negSucc => cases h
    | ofNat m =>
      change Bool.casesOn (motive := fun _ => Option (List Nat)) (Nat.ble 256 m) (Option.casesOn (motive := fun _ => Option (List Nat)) (cellBytes l) none fun l => some (m :: l)) none = some s at h
      cases hb : Nat.ble 256 m with
      | true => rw [hb] at h; cases h
      | false =>
        rw [hb] at h
        have hm : m < 256 := by
          rcases Nat.lt_or_ge m 256 with h | h
          · exact h
          · rw [natble h] at hb; cases hb
        cases hl : cellBytes l with
        | none => rw [hl] at h; cases h
        | some s' =>
          rw [hl] at h
          cases h
          obtain ⟨h1, h2⟩ := ih hl
          cases hc
          refine ⟨fun b hb => ?_, by rw [h2]; rfl⟩
          cases hb with
          | head => exact hm
          | tail _ hb => exact h1 b hb
noncomputable def convK (P : Program) (h : Hp) (src dst : TypeId) (x : RV) (k : RV → List Nat → Bool) : Bool :=
  optK (undL P src) fun ds => optK (undL P dst) fun dd => (match ds, dd, x with
    | _, .int q, .c (.int _ n) => kI q (fun r => k r []) (wrF q n)
    | _, .string, .c (.str s) => k (.c (.str s)) []
    | .int _, .string, .c (.int _ (.ofNat n)) => iff (Nat.ble (Nat.succ n) 128) (k (.c (.str [n])) [])
    | .slice e, .string, .c .nils => optK (undL P e) fun de => (match de with | .int .u8 => k (.c (.str [])) [] | _ => false)
    | .slice e, .string, .c (.sl id off len _ _) => optK (undL P e) fun de => (match de with
      | .int .u8 => optK (h.get id) fun o => optK (rowOf o) fun cells => iff (Nat.ble (Nat.add off len) (llen cells)) (optK (cellBytes ((cells.drop off).take len)) fun s => fLN s fun s => k (.c (.str s)) [id])
      | _ => false)
    | _, _, _ => false)
theorem foldl_bytes : ∀ (s : List Nat) (acc : List Nat), (s.map Int.ofNat).foldl (fun (r : ByteArray) (n : Int) => r.push (UInt8.ofNat n.toNat)) (ba acc) = ba (acc ++ s)
  | [], acc => by simp
  | b :: s, acc => by
    have : (ba acc).push (UInt8.ofNat (Int.ofNat b).toNat) = ba (acc ++ [b]) := by
      apply ByteArray.ext
      simp [ba, ByteArray.push]
    simp only [List.map_cons, List.foldl_cons]
    rw [this, foldl_bytes s]
    simp
theorem convK_ok (H : HR P g w0 ρ h nx w) {src dst : TypeId} {x : RV} {v : Value} (hx : GR ρ x v) {k : RV → List Nat → Bool} (hk : convK P h src dst x k = true) : Rd P ρ h k (convert src dst v) := by
  obtain ⟨ds, hds, hk1⟩ := optK_ok hk
  try simp only [undL_eq, infL_eq, fnL_eq] at hds
  clear hk
  obtain ⟨dd, hdd, hk⟩ := optK_ok hk1
  try simp only [undL_eq, infL_eq, fnL_eq] at hdd
  clear hk1
  split at hk
  · cases hx with
    | c hx => cases hx; exact (pu_int (k := fun r => k r []) hk fun w => by simp [convert, run_underlying hds, run_underlying hdd, Conv.intToInt, wrF_eq]).rd
  · cases hx with
    | c hx => cases hx with
      | str _ hs => exact Pu.rd ⟨_, _, hk, .c (.str _ hs), fun w => by cases ds <;> simp [convert, run_underlying hds, run_underlying hdd]⟩
  · rename_i n
    obtain ⟨hn, hk⟩ := iff_ok hk
    have hn : n < 128 := natle hn
    cases hx with
    | c hx =>
      cases hx
      refine Pu.rd ⟨_, _, hk, .c (.str [n] fun b hb => by have := List.mem_singleton.1 hb; omega), fun w => ?_⟩
      have hv : Utf8.valid (Int.ofNat n) = true := by
        have : (Int.ofNat n) < 0xD800 := by show (n : Int) < 55296; omega
        simp [Utf8.valid]; omega
      have he : Utf8.encode (Int.ofNat n) = ba [n] := by
        simp only [Utf8.encode, hv, if_true]
        have : (Int.ofNat n).toNat = n := rfl
        rw [this, if_pos (by omega)]
        rfl
      simp only [convert, run_underlying hds, run_underlying hdd, Sem.run_bind, Result.andThen_ok, Conv.intToString, he, Sem.run_pure]
  · obtain ⟨de, hde, hk⟩ := optK_ok hk
    try simp only [undL_eq, infL_eq, fnL_eq] at hde
    split at hk
    · cases hx with
      | c hx => cases hx; exact Pu.rd ⟨_, _, hk, .c (.str [] fun b hb => (by cases hb)), fun w => by
          rw [run_convert_bytes_string w src dst _ _ _ _ hds hde hdd]
          simp [Conv.bytesToString]; rfl⟩
    · cases hk
  · rename_i e id off len _ _
    obtain ⟨de, hde, hk⟩ := optK_ok hk
    try simp only [undL_eq, infL_eq, fnL_eq] at hde
    split at hk
    · obtain ⟨o, ho, hk⟩ := optK_ok hk
      obtain ⟨cells, hrow, hk⟩ := optK_ok hk
      obtain ⟨hfit, hk⟩ := iff_ok hk
      have hfit : off + len ≤ cells.length := by rw [← llen_eq]; exact natle hfit
      obtain ⟨s, hs, hk⟩ := optK_ok hk
      rw [fLN_eq] at hk
      cases hx with
      | c hx => cases hx with
        | sl _ _ _ _ hr h1 h2 h3 =>
          obtain ⟨xs, hxs, _⟩ := (H.ob ho hr).cells hrow hr off len
          obtain ⟨hsm, hxe⟩ := cellBytes_ok hxs hs
          have hlen : xs.length = len := by rw [← f2_len hxs]; simp; omega
          refine ⟨_, _, _, hk, .c (.str s hsm), fun id hid => by have e : id = _ := List.mem_singleton.1 hid; rw [e, hr]; simp, fun w hw => ?_⟩
          obtain ⟨ys, hys, hc⟩ := (hw _ (by simp) _ ho).cells hrow hr off len
          have := f2_det hxs hys
          subst this
          have hl := run_loadCells_list (P := P) w _ xs hc
          rw [hlen, hxe] at hl
          rw [run_convert_bytes_string w src dst _ _ _ _ hds hde hdd, run_bytesToString w _ len _ (s.map Int.ofNat) hl]
          have := foldl_bytes s []
          simp only [List.nil_append] at this
          rw [← this]; rfl
    · cases hk
  · cases hk
/-! ### lengths -/
noncomputable def lenK (P : Program) (h : Hp) (t : TypeId) (x : RV) (k : RV → List Nat → Bool) : Bool :=
  optK (undL P t) fun d => (match d, x with
    | .string, .c (.str s) => k (.c (.int .i64 (Int.ofNat (llen s)))) []
    | .array n _, _ => k (.c (.int .i64 (Int.ofNat n))) []
    | .slice _, .c .nils => k (.c (.int .i64 (Int.ofNat 0))) []
    | .slice _, .c (.esl _) => k (.c (.int .i64 (Int.ofNat 0))) []
    | .slice _, .c (.sl _ _ n _ _) => k (.c (.int .i64 (Int.ofNat n))) []
    | .map .., .c .nilm => k (.c (.int .i64 (Int.ofNat 0))) []
    | .map .., .c (.mp id) => optK (h.get id) fun o => (match o with | .map es _ => fN (llen es) fun n => k (.c (.int .i64 (Int.ofNat n))) [id] | _ => false)
    | .chan .., .c (.ch id) => optK (h.get id) fun o => (match o with | .chan _ buf _ _ => fN (llen buf) fun n => k (.c (.int .i64 (Int.ofNat n))) [id] | _ => false)
    | _, _ => false)
theorem Ob.mapAt {id : Nat} {es : List ME} {clock : Nat} (ho : Ob P ρ id (.map es clock) w) {b x y : Nat} (hr : ρ id = some (.blk b x y)) : ∃ xs, w.heap[b]? = some (.map xs.toArray clock) ∧ F2 (GE ρ) es xs := by
  cases ho with
  | map hr' hh hx => rw [hr] at hr'; cases hr'; exact ⟨_, hh, hx⟩
theorem run_getObj {b : Nat} {o : Obj} (hh : w.heap[b]? = some o) (hc : ∀ c e f, o ≠ .cells c e f) : (getObj b).run P w = .ok o w := by
  cases o <;> simp [getObj, Sem.run, hh]
  exact absurd rfl (hc _ _ _)
theorem lenK_ok (H : HR P g w0 ρ h nx w) {t ty : TypeId} {x : RV} {v : Value} (hx : GR ρ x v) {k : RV → List Nat → Bool} (hk : lenK P h t x k = true) : Rd P ρ h k (Builtin.len_ #[t] ty #[v]) := by
  obtain ⟨d, hd, hk1⟩ := optK_ok hk
  try simp only [undL_eq, infL_eq, fnL_eq] at hd
  clear hk
  split at hk1
  · cases hx with
    | c hx => cases hx; exact Pu.rd ⟨_, _, hk1, .c (.int _ _), fun w => by simp [Builtin.len_, run_underlying hd, size_ba, llen_eq, goInt]⟩
  · exact Pu.rd ⟨_, _, hk1, .c (.int _ _), fun w => by simp [Builtin.len_, run_underlying hd, goInt]⟩
  · cases hx with
    | c hx => cases hx; exact Pu.rd ⟨_, _, hk1, .c (.int _ _), fun w => by simp [Builtin.len_, run_underlying hd, goInt]⟩
  · cases hx with
    | c hx => cases hx; exact Pu.rd ⟨_, _, hk1, .c (.int _ _), fun w => by simp [Builtin.len_, run_underlying hd, goInt]⟩
  · cases hx with
    | c hx => cases hx; exact Pu.rd ⟨_, _, hk1, .c (.int _ _), fun w => by simp [Builtin.len_, run_underlying hd, goInt]⟩
  · cases hx with
    | c hx => cases hx; exact Pu.rd ⟨_, _, hk1, .c (.int _ _), fun w => by simp [Builtin.len_, run_underlying hd, goInt]⟩
  · obtain ⟨o, ho, hk⟩ := optK_ok hk1
    cases o <;> try (cases hk; done)
    dsimp only at hk
    rw [fN_eq] at hk
    cases hx with
    | c hx => cases hx with
      | mp hr =>
        refine ⟨_, _, _, hk, .c (.int _ _), fun id hid => by have e : id = _ := List.mem_singleton.1 hid; rw [e, hr]; simp, fun w hw => ?_⟩
        obtain ⟨xs, hh, hxs⟩ := (hw _ (by simp) _ ho).mapAt hr
        simp [Builtin.len_, run_underlying hd, goInt, run_getObj hh (fun _ _ _ => by simp), llen_eq, f2_len hxs]
  · obtain ⟨o, ho, hk⟩ := optK_ok hk1
    cases o <;> try (cases hk; done)
    dsimp only at hk
    rw [fN_eq] at hk
    cases hx with
    | c hx => cases hx with
      | ch hr =>
        refine ⟨_, _, _, hk, .c (.int _ _), fun id hid => by have e : id = _ := List.mem_singleton.1 hid; rw [e, hr]; simp, fun w hw => ?_⟩
        cases hw _ (by simp) _ ho with
        | chan hr' hh hxs =>
          rw [hr] at hr'; cases hr'
          simp [Builtin.len_, run_underlying hd, goInt, run_getObj hh (fun _ _ _ => by simp), llen_eq, f2_len hxs]
  · cases hk1
noncomputable def capK (P : Program) (h : Hp) (t : TypeId) (x : RV) (k : RV → List Nat → Bool) : Bool :=
  optK (undL P t) fun d => (match d, x with
    | .slice _, .c .nils => k (.c (.int .i64 (Int.ofNat 0))) []
    | .slice _, .c (.sl id _ _ cut lim) => optK (roomOf h id cut lim) fun n => fN n fun n => k (.c (.int .i64 (Int.ofNat n))) []
    | .chan .., .c (.ch id) => optK (h.get id) fun o => (match o with | .chan n _ _ _ => k (.c (.int .i64 (Int.ofNat n))) [id] | _ => false)
    | _, _ => false)
theorem capK_ok (H : HR P g w0 ρ h nx w) {t ty : TypeId} {x : RV} {v : Value} (hx : GR ρ x v) {k : RV → List Nat → Bool} (hk : capK P h t x k = true) : Rd P ρ h k (Builtin.cap_ #[t] ty #[v]) := by
  obtain ⟨d, hd, hk1⟩ := optK_ok hk
  try simp only [undL_eq, infL_eq, fnL_eq] at hd
  clear hk
  split at hk1
  · cases hx with
    | c hx => cases hx; exact Pu.rd ⟨_, _, hk1, .c (.int _ _), fun w => by simp [Builtin.cap_, run_underlying hd, goInt]⟩
  · obtain ⟨n, hn, hk⟩ := optK_ok hk1
    rw [fN_eq] at hk
    cases hx with
    | c hx => cases hx with
      | sl _ _ _ _ hr h1 h2 h3 =>
        have := roomOf_ok H hr hn
        exact Pu.rd ⟨_, _, hk, .c (.int _ _), fun w => by simp [Builtin.cap_, run_underlying hd, goInt, this]⟩
  · obtain ⟨o, ho, hk⟩ := optK_ok hk1
    cases o <;> try (cases hk; done)
    dsimp only at hk
    cases hx with
    | c hx => cases hx with
      | ch hr =>
        refine ⟨_, _, _, hk, .c (.int _ _), fun id hid => by have e : id = _ := List.mem_singleton.1 hid; rw [e, hr]; simp, fun w hw => ?_⟩
        cases hw _ (by simp) _ ho with
        | chan hr' hh hxs =>
          rw [hr] at hr'; cases hr'
          simp [Builtin.cap_, run_underlying hd, goInt, run_getObj hh (fun _ _ _ => by simp)]
  · cases hk1
end
end Eng
end Go.Proofs.YtmcoaebldobapaaGreatDoor
