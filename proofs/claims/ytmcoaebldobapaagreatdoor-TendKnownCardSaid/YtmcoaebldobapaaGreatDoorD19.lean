/-
  The machine's operations: iterators, function values, copy, the least and the greatest.
-/
import Derived.Test.YtmcoaebldobapaaGreatDoorD18
import Derived.Laws.IdiomStrings
set_option linter.unusedVariables false
set_option linter.unusedSimpArgs false
namespace Go.Proofs.YtmcoaebldobapaaGreatDoor
namespace Eng
open Go Go.RowKit
section
variable {P : Program} {g : Nat} {w0 : World} {ρ : Ren} {h : Hp} {nx : Nat} {w : World}
/-! ### iterators -/
noncomputable def rangeK (P : Program) (h : Hp) (nx : Nat) (t : TypeId) (x : RV) (k : RV → Hp → Nat → Bool) : Bool :=
  optK (undL P t) fun d => (match d, x with
    | .string, .c (.str s) => newK h nx (.sit s 0) fun id h nx => k (.c (.ptr id 0)) h nx
    | .map _ _, .c (.mp id) => optK (h.get id) fun o => (match o with
      | .map _ clock => newK h nx (.mit id clock [] clock) fun id h nx => k (.c (.ptr id 0)) h nx
      | _ => false)
    | _, _ => false)
theorem rangeK_ok (H : HR P g w0 ρ h nx w) {t : TypeId} {x : RV} {v : Value} (hx : GR ρ x v) {k : RV → Hp → Nat → Bool} (hk : rangeK P h nx t x k = true) : Do P g w0 ρ nx w k (Instr.range t v) := by
  replace hk := optK_ok hk
  obtain ⟨d, hd, hk⟩ := hk
  try simp only [undL_eq, infL_eq, fnL_eq] at hd
  split at hk
  · cases hx with
    | c hx => cases hx with
      | str _ hs =>
        replace hk := Tr.setK_ok hk
        obtain ⟨h', hk, hh⟩ := hk
        obtain ⟨ρ', hle, hr', H'⟩ := H.new (.stringIter (ba _) 0) (base := 0) (cap := 0) hh fun ρ' _ hr' => .sit hr' (heap_alloc_new _ _) hs
        exact ⟨_, _, ρ', h', nx + 1, _, hk, hle, H', .c (.ptr 0 hr'), by simp [Instr.range, run_underlying hd]⟩
  · replace hk := optK_ok hk
    obtain ⟨o, ho, hk⟩ := hk
    cases o <;> try (cases hk; done)
    cases hx with
    | c hx => cases hx with
      | @mp _ bm _ _ hr =>
        replace hk := Tr.setK_ok hk
        obtain ⟨h', hk, hh⟩ := hk
        obtain ⟨xs, hm, hxs⟩ := (H.ob ho hr).mapAt hr
        obtain ⟨ρ', hle, hr', H'⟩ := H.new (.mapIter (some bm) _ #[] _) (base := 0) (cap := 0) hh fun ρ' hle hr' => .mit (seen := []) hr' (hle _ _ hr) (heap_alloc_new _ _)
        exact ⟨_, _, ρ', h', nx + 1, _, hk, hle, H', .c (.ptr 0 hr'), run_range_map w t _ _ bm _ _ hd hm⟩
  · cases hk
/-- Entries that were not seen. -/
noncomputable def memN (n : Nat) (l : List Nat) : Bool := List.rec (motive := fun _ => Bool) false (fun a _ ih => Bool.casesOn (Nat.beq n a) ih true) l
theorem memN_eq (n : Nat) (l : List Nat) : memN n l = l.contains n := by
  induction l with
  | nil => rfl
  | cons a l ih =>
    show Bool.casesOn (motive := fun _ => Bool) (Nat.beq n a) (memN n l) true = _
    rw [List.contains_cons, ih]
    cases hb : Nat.beq n a
    · simp [natne hb]
    · simp [nateq hb]
noncomputable def nextK (g : Nat) (h : Hp) (x : RV) (isS : Bool) (k : RV → Hp → Bool) : Bool := match x with
  | .c (.ptr id off) => iff (Nat.beq off 0) (iff (Nat.ble g id) (optK (h.get id) fun o => (match o with
    | .sit s pos => iff isS (match lget s pos with
      | none => iff (Nat.ble (llen s) pos) (k (.tup [.c (.bool false)]) h)
      | some b => iff (Nat.ble (Nat.succ b) 128) (fN (Nat.succ pos) fun p => h.setK id (some (.sit s p)) fun h => k (.tup [.c (.bool true), .c (.int .i64 (Int.ofNat pos)), .c (.int .i32 (Int.ofNat b))]) h))
    | .mit m since seen stepped => iff (!isS) (optK (h.get m) fun o => (match o with
      | .map es clock => (match seen with
        | [] => (match es with
          | [] => k (.tup [.c (.bool false)]) h
          | [e] => iff (Nat.ble (Nat.succ e.born) since) (h.setK id (some (.mit m since [e.born] clock)) fun h => k (.tup [.c (.bool true), e.key, e.val]) h)
          | _ => false)
        | [b] => (match es with
          | [] => k (.tup [.c (.bool false)]) h
          | [e] => iff (Nat.beq e.born b) (iff (Nat.ble (Nat.succ e.born) stepped) (k (.tup [.c (.bool false)]) h))
          | _ => false)
        | _ => false)
      | _ => false))
    | _ => false)))
  | _ => false
theorem nextK_ok (H : HR P g w0 ρ h nx w) {x : RV} {v : Value} {ty : TypeId} (hx : GR ρ x v) {isS : Bool} {k : RV → Hp → Nat → Bool} (hk : nextK g h x isS (fun r h => k r h nx) = true) : Do P g w0 ρ nx w k (Instr.next v isS ty) := by
  unfold nextK at hk
  split at hk
  · rename_i id off
    replace hk := iff_ok hk
    obtain ⟨h0, hk⟩ := hk
    have h0 := nateq h0
    subst h0
    replace hk := iff_ok hk
    obtain ⟨hg, hk⟩ := hk
    have hg := natle hg
    replace hk := optK_ok hk
    obtain ⟨o, ho, hk⟩ := hk
    cases hx with
    | c hx => cases hx with
      | @ptr _ b base cap _ hr =>
        cases o <;> try (cases hk; done)
        · rename_i s pos
          dsimp only at hk
          replace hk := iff_ok hk
          obtain ⟨hi, hk⟩ := hk
          subst hi
          cases H.ob ho hr with
          | @sit _ b' _ _ hr' hh hs =>
            rw [hr] at hr'; cases hr'
            have hget := run_getObj (P := P) hh (fun _ _ _ => by simp)
            split at hk
            · replace hk := iff_ok hk
              obtain ⟨hl, hk⟩ := hk
              have hl := natle hl
              rw [llen_eq] at hl
              refine ⟨_, _, ρ, h, nx, w, hk, Ext.refl _ _, H, .tup (.cons (.c (.bool _)) .nil), ?_⟩
              have : ¬ pos < (ba s).size := by rw [size_ba]; omega
              simp [Instr.next, hget, this]
            · rename_i bb hbb
              rw [lget_eq] at hbb
              replace hk := iff_ok hk
              obtain ⟨ha, hk⟩ := hk
              have ha : bb < 128 := natle ha
              rw [fN_eq] at hk
              replace hk := Tr.setK_ok hk
              obtain ⟨h', hk, hh'⟩ := hk
              have hlt := (List.getElem?_eq_some_iff.1 hbb).1
              have hlt' : pos < (ba s).size := by rw [size_ba]; exact hlt
              obtain ⟨e1, e2⟩ := ba_get hs hbb
              have e3 : (ba s)[pos] = UInt8.ofNat bb := by
                have := e1
                rw [getElem?_pos (ba s) pos hlt'] at this
                exact Option.some.inj this
              refine ⟨_, _, ρ, h', nx, _, hk, Ext.refl _ _, H.setO (x := .stringIter (ba s) (pos + 1)) ho hg ⟨_, _, hr⟩ (fun w' hw' => .sit hr hw' hs) hh', .tup (.cons (.c (.bool _)) (.cons (.c (.int _ _)) (.cons (.c (.int _ _)) .nil))), ?_⟩
              have hdec : Utf8.decode (ba s) pos = (((ba s)[pos]).toNat, 1) := decode_ascii (ba s) pos hlt' (by rw [e3, e2]; exact ha)
              simp only [Instr.next, hget, Sem.run_bind, Result.andThen_ok, hlt', if_true, hdec]
              rw [run_setO hh (fun _ _ _ => by simp)]
              simp [e3, e2, goInt]
        · rename_i m since seen stepped
          dsimp only at hk
          replace hk := iff_ok hk
          obtain ⟨hi, hk⟩ := hk
          have hi : isS = false := by simpa using hi
          subst hi
          replace hk := optK_ok hk
          obtain ⟨om, hom, hk⟩ := hk
          cases om <;> try (cases hk; done)
          rename_i es clock
          dsimp only at hk
          cases H.ob ho hr with
          | @mit _ b' _ bm _ _ _ _ _ hr' hm hh =>
            rw [hr] at hr'; cases hr'
            have hget := run_getObj (P := P) hh (fun _ _ _ => by simp)
            obtain ⟨xs, hhm, hxs⟩ := (H.ob hom hm).mapAt hm
            have hgm := run_getObj (P := P) hhm (fun _ _ _ => by simp)
            split at hk
            · split at hk
              · cases hxs
                exact ⟨_, _, ρ, h, nx, w, hk, Ext.refl _ _, H, .tup (.cons (.c (.bool _)) .nil), by simp [Instr.next, hget, hgm, Question.forced]⟩
              · rename_i e
                replace hk := iff_ok hk
                obtain ⟨hb, hk⟩ := hk
                have hb : e.born < since := natle hb
                replace hk := Tr.setK_ok hk
                obtain ⟨h', hk, hh'⟩ := hk
                cases hxs with
                | @cons _ xe _ _ hge t =>
                  cases t
                  have hbx : xe.born < since := by rw [hge.2.2]; exact hb
                  refine ⟨_, _, ρ, h', nx, _, hk, Ext.refl _ _, H.setO (x := .mapIter (some bm) since [xe.born].toArray clock) ho hg ⟨_, _, hr⟩ (fun w' hw' => by rw [hge.2.2] at hw'; exact .mit hr hm hw') hh', .tup (.cons (.c (.bool _)) (.cons hge.1 (.cons hge.2.1 .nil))), ?_⟩
                  have hbx' : ¬ since ≤ xe.born := by omega
                  simp [Instr.next, hget, hgm, Question.forced, hbx, hbx']
                  rw [run_setO hh (fun _ _ _ => by simp)]
                  simp
              · cases hk
            · rename_i b0
              split at hk
              · cases hxs
                exact ⟨_, _, ρ, h, nx, w, hk, Ext.refl _ _, H, .tup (.cons (.c (.bool _)) .nil), by simp [Instr.next, hget, hgm, Question.forced]⟩
              · rename_i e
                replace hk := iff_ok hk
                obtain ⟨hb, hk⟩ := hk
                have hb := nateq hb
                replace hk := iff_ok hk
                obtain ⟨hst, hk⟩ := hk
                have hst : e.born < stepped := natle hst
                cases hxs with
                | @cons _ xe _ _ hge t =>
                  cases t
                  have hbx : xe.born = b0 := by rw [hge.2.2]; exact hb
                  have hst' : ¬ stepped ≤ b0 := by rw [← hb]; omega
                  refine ⟨_, _, ρ, h, nx, w, hk, Ext.refl _ _, H, .tup (.cons (.c (.bool _)) .nil), ?_⟩
                  simp [Instr.next, hget, hgm, Question.forced, hbx, hst']
              · cases hk
            · cases hk
  · cases hk
/-! ### function values -/
theorem HR.keepNew (H : HR P g w0 ρ h nx w) {o : AO} {h' : Hp} (hh : ∀ m, h'.get m = if m = nx then some o else h.get m) : ∀ m o, h.get m = some o → h'.get m = some o := fun m o hm => by
  rw [hh]
  split
  · rename_i e
    rw [e, H.hfr nx (Nat.le_refl _)] at hm
    cases hm
  · exact hm
noncomputable def makeFuncK (h : Hp) (nx : Nat) (fn : Fn) (first caps : List AV) (k : RV → Hp → Nat → Bool) : Bool := match fn with
  | .func f => newK h nx (.clo f first caps) fun id h nx => k (.c (.clo id)) h nx
  | _ => false
theorem makeFuncK_ok {fn : Fn} {first caps : List AV} {xs ys : List Value} (hx : F2 (GA ρ) first xs) (hy : F2 (GA ρ) caps ys) (H : HR P g w0 ρ h nx w) {k : RV → Hp → Nat → Bool} (hk : makeFuncK h nx fn first caps k = true) :
    Pf P g w0 ρ h nx k (Instr.makeFunc fn xs.toArray ys.toArray) := by
  cases fn <;> try (cases hk; done)
  rename_i f
  replace hk := Tr.setK_ok hk
  obtain ⟨h', hk, hh⟩ := hk
  have hle := Ren.le_put (H.fresh nx (Nat.le_refl _)) (.fnv f xs.toArray ys.toArray)
  refine ⟨_, _, ρ.put nx (.fnv f xs.toArray ys.toArray), h', nx + 1, hk, Ext.put (H.fresh nx (Nat.le_refl _)) _, .c (.clo (Ren.put_self _ _ _)), H.keepNew hh, fun w' H' => (H'.name (fun _ _ _ e => by cases e) hh ?_).2, fun w => by simp [Instr.makeFunc]⟩
  exact .clo (Ren.put_self _ _ _) (GAs.mono hle hx) (GAs.mono hle hy)
noncomputable def makeIfcK (P : Program) (h : Hp) (nx : Nat) (t : TypeId) (x : RV) (k : RV → Hp → Nat → Bool) : Bool :=
  iff (P.concrete t) (rv2 x fun a => newK h nx (.ifc t a) fun id h nx => k (.c (.ifc id)) h nx)
theorem makeIfcK_ok {t : TypeId} {x : RV} {v : Value} (hx : GR ρ x v) (H : HR P g w0 ρ h nx w) {k : RV → Hp → Nat → Bool} (hk : makeIfcK P h nx t x k = true) : Pf P g w0 ρ h nx k (Instr.makeInterface t v) := by
  replace hk := iff_ok hk
  obtain ⟨hc, hk⟩ := hk
  replace hk := rv2_ok hx hk
  obtain ⟨a, hk, ha⟩ := hk
  replace hk := Tr.setK_ok hk
  obtain ⟨h', hk, hh⟩ := hk
  have hle := Ren.le_put (H.fresh nx (Nat.le_refl _)) (.ifv t v)
  refine ⟨_, _, ρ.put nx (.ifv t v), h', nx + 1, hk, Ext.put (H.fresh nx (Nat.le_refl _)) _, .c (.ifc (Ren.put_self _ _ _)), H.keepNew hh, fun w' H' => (H'.name (fun _ _ _ e => by cases e) hh ?_).2, fun w => run_makeInterface w t v hc⟩
  exact .ifc (Ren.put_self _ _ _) (ha.mono hle)
/-! ### copy -/
noncomputable def copyK (P : Program) (g : Nat) (h : Hp) (t : TypeId) (d s : RV) (k : RV → Hp → Bool) : Bool :=
  optK (undL P t) fun dd => (match dd with
    | .slice e => optK (szT P e) fun sz => (match d with
      | .c (.sl id off len _ _) => srcK h sz s fun n l => Bool.casesOn (Nat.ble n len) (fL (l.take (Nat.mul len sz)) fun l => rowPutK g h id off l fun h => k (.c (.int .i64 (Int.ofNat len))) h) (rowPutK g h id off l fun h => k (.c (.int .i64 (Int.ofNat n))) h)
      | _ => false)
    | _ => false)
/-! ### the least and the greatest -/
noncomputable def mmK (mx : Bool) (l : List AV) (k : RV → Bool) : Bool := match l with
  | [.c (.int q a), .c (.int _ b)] => Bool.casesOn mx (Bool.casesOn (ltI b a) (k (.c (.int q a))) (k (.c (.int q b)))) (Bool.casesOn (ltI a b) (k (.c (.int q a))) (k (.c (.int q b))))
  | _ => false
theorem min_ok {l : List AV} {xs : List Value} (hx : F2 (GA ρ) l xs) {ts : Array TypeId} {t : TypeId} {k : RV → Bool} (hk : mmK false l k = true) : Pu P ρ k (Builtin.min_ ts t xs.toArray) := by
  unfold mmK at hk
  split at hk
  · rename_i q a q' b
    cases hx with
    | cons h1 t1 => cases t1 with
      | cons h2 t2 => cases t2; cases h1 with
        | c h1 => cases h1; cases h2 with
          | c h2 =>
            cases h2
            dsimp only at hk
            cases hb : ltI b a with
            | true =>
              rw [hb] at hk
              have : b < a := by rw [ltI_eq] at hb; simpa using hb
              exact ⟨_, _, hk, .c (.int _ _), fun w => by simp [Builtin.min_, Builtin.min2, this]⟩
            | false =>
              rw [hb] at hk
              have : ¬ b < a := by rw [ltI_eq] at hb; simpa using hb
              exact ⟨_, _, hk, .c (.int _ _), fun w => by simp [Builtin.min_, Builtin.min2, this]⟩
  · cases hk
theorem max_ok {l : List AV} {xs : List Value} (hx : F2 (GA ρ) l xs) {ts : Array TypeId} {t : TypeId} {k : RV → Bool} (hk : mmK true l k = true) : Pu P ρ k (Builtin.max_ ts t xs.toArray) := by
  unfold mmK at hk
  split at hk
  · rename_i q a q' b
    cases hx with
    | cons h1 t1 => cases t1 with
      | cons h2 t2 => cases t2; cases h1 with
        | c h1 => cases h1; cases h2 with
          | c h2 =>
            cases h2
            dsimp only at hk
            cases hb : ltI a b with
            | true =>
              rw [hb] at hk
              have : b > a := by rw [ltI_eq] at hb; simpa using hb
              exact ⟨_, _, hk, .c (.int _ _), fun w => by simp [Builtin.max_, Builtin.max2, this]⟩
            | false =>
              rw [hb] at hk
              have : ¬ b > a := by rw [ltI_eq] at hb; simpa using hb
              exact ⟨_, _, hk, .c (.int _ _), fun w => by simp [Builtin.max_, Builtin.max2, this]⟩
  · cases hk
/-! ### bytes of a string -/
noncomputable def cvbK (P : Program) (h : Hp) (nx : Nat) (src dst : TypeId) (x : RV) (k : RV → Hp → Nat → Bool) : Bool :=
  optK (undL P src) fun ds => optK (undL P dst) fun dd => (match ds, dd, x with
    | .string, .slice e, .c (.str s) => optK (undL P e) fun de => (match de with
      | .int .u8 => fL (bytesCV s) fun l => fN (llen s) fun n => iff (Nat.ble n 1099511627776) (newK h nx (.ro l) fun id h nx => k (.c (.sl id 0 n 0 none)) h nx)
      | _ => false)
    | _, _, _ => false)
theorem cvbK_ok (H : HR P g w0 ρ h nx w) {src dst : TypeId} {x : RV} {v : Value} (hx : GR ρ x v) {k : RV → Hp → Nat → Bool} (hk : cvbK P h nx src dst x k = true) : Do P g w0 ρ nx w k (convert src dst v) := by
  replace hk := optK_ok hk
  obtain ⟨ds, hds, hk⟩ := hk
  try simp only [undL_eq, infL_eq, fnL_eq] at hds
  replace hk := optK_ok hk
  obtain ⟨dd, hdd, hk⟩ := hk
  try simp only [undL_eq, infL_eq, fnL_eq] at hdd
  split at hk
  · rename_i e s
    replace hk := optK_ok hk
    obtain ⟨de, hde, hk⟩ := hk
    try simp only [undL_eq, infL_eq, fnL_eq] at hde
    split at hk
    · rw [fL_eq, fN_eq, llen_eq] at hk
      replace hk := iff_ok hk
      obtain ⟨hn, hk⟩ := hk
      have hn := natle hn
      cases hx with
      | c hx => cases hx with
        | str _ hs =>
          replace hk := Tr.setK_ok hk
          obtain ⟨h', hk, hh⟩ := hk
          have hrun := run_bytes_of_string (P := P) w src dst e (ba s) hds hdd hde
          have hge := grownCap_ge w (ba s).size 0 e
          have hcap := grownCap_le_maxLen w (ba s).size 0 e (by rw [size_ba]; unfold maxLen; omega)
          obtain ⟨ρ', hle, hr, H'⟩ := H.drew.new _ (base := 0) (cap := grownCap w (ba s).size 0 e) hh fun ρ' hle hr => .ro hr (heap_alloc_new _ (.cells (bytesRow (ba s) (grownCap w (ba s).size 0 e)) e ((bytesRow (ba s) (grownCap w (ba s).size 0 e)).size, (bytesRow (ba s) (grownCap w (ba s).size 0 e)).size + 1))) (fun j c hc => by
            obtain ⟨y, h1, h2⟩ := f2_get (bytesCV_ok (ρ := ρ') hs) hc
            have hlt := (List.getElem?_eq_some_iff.1 h1).1
            refine ⟨y, h2, ?_⟩
            unfold bytesRow
            rw [Nat.zero_add, Array.getElem?_append_left (by simpa using hlt)]
            simpa using h1)
          have hsl : G ρ' (.sl nx 0 s.length 0 none) (.slice (some ⟨w.heap.size, 0, none⟩) (ba s).size (grownCap w (ba s).size 0 e)) := by
            have := G.sl (ρ := ρ') 0 s.length 0 none hr (by rw [← size_ba]; simpa using hge) (by simpa using hcap) (by simp)
            rw [size_ba] at this ⊢
            simpa using this
          exact ⟨_, _, ρ', h', nx + 1, _, hk, hle, H', .c hsl, hrun⟩
    · cases hk
  · cases hk
end
end Eng
end Go.Proofs.YtmcoaebldobapaaGreatDoor
