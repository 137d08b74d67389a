/-
  The machine's answers for functions that it does not run: table keys in order; a byte's first place; how often a byte is there.
-/
import Derived.Test.YtmcoaebldobapaaGreatDoorD33
import Derived.Test.YtmcoaebldobapaaGreatDoorD39
import Derived.Laws.Externs
import Derived.Lib.Bytealg
set_option linter.unusedVariables false
set_option linter.unusedSimpArgs false
namespace Go.Proofs.YtmcoaebldobapaaGreatDoor
namespace Eng
open Go Go.RowKit
noncomputable def idxL (b : Nat) (s : List Nat) : Nat → Int := List.rec (motive := fun _ => Nat → Int) (fun _ => Int.negSucc 0) (fun a _ ih i => Bool.casesOn (Nat.beq a b) (ih (Nat.succ i)) (Int.ofNat i)) s
noncomputable def cntL (b : Nat) (s : List Nat) : Nat := List.rec (motive := fun _ => Nat) 0 (fun a _ ih => Bool.casesOn (Nat.beq a b) ih (Nat.succ ih)) s
noncomputable def idxA (l : List AV) (k : RV → Bool) : Bool := match l with
  | [.c (.str s), .c (.int .u8 (.ofNat b))] => iff (Nat.ble b 255) (fI (idxL b s 0) fun n => k (.c (.int .i64 n)))
  | _ => false
noncomputable def cntA (l : List AV) (k : RV → Bool) : Bool := match l with
  | [.c (.str s), .c (.int .u8 (.ofNat b))] => iff (Nat.ble b 255) (fN (cntL b s) fun n => k (.c (.int .i64 (Int.ofNat n))))
  | _ => false
/-! ### keys in order -/
noncomputable def intsOf (es : List ME) : (List Int → Bool) → Bool := List.rec (motive := fun _ => (List Int → Bool) → Bool) (fun k => k []) (fun e _ ih k => match e.key with
  | .c (.int .i64 n) => ih fun l => k (n :: l)
  | _ => false) es
def insL (x : Int) : List Int → List Int
  | [] => [x]
  | y :: r => if lessB x y then x :: y :: r else y :: insL x r
def sortL : List Int → List Int
  | [] => []
  | x :: r => insL x (sortL r)
def risesB : List Int → Bool
  | [] => true
  | x :: r => r.all (fun y => lessB x y) && risesB r
def bornsB (clock : Nat) : List Nat → Bool
  | [] => true
  | b :: r => r.all (fun c => !Nat.beq b c) && (Nat.ble (Nat.succ b) clock && bornsB clock r)
instance (x : Int) : Decidable (R64 x) := by unfold R64; infer_instance
def keysB (ss : List Int) : Bool := risesB ss && ss.all (fun x => decide (R64 x)) && Nat.ble ss.length 40
noncomputable def keysA (args : List AV) (h : Hp) (nx : Nat) (k : KV) : Bool := match args with
  | [.c (.clo id), .c (.fn bf)] => iff (Nat.beq bf 305) (optK (h.get id) fun o => (match o with
    | .clo f [] [.c (.ptr c 0)] => iff (Nat.beq f 376) (optK (h.get c) fun oc => (match oc with
      | .row [.mp m] _ (some 0) => optK (h.get m) fun om => (match om with
        | .map es clock => iff (bornsB clock (es.map (·.born))) (intsOf es fun ks => fL (sortL ks) fun ss => iff (keysB ss) (match ss with
          | [] => k (.c .nils) h nx
          | ss => newK h nx (.row (ss.map fun n => .int .i64 n) 2 none) fun id h nx => k (.c (.sl id 0 (llen ss) 0 none)) h nx))
        | _ => false)
      | _ => false))
    | _ => false))
  | _ => false
noncomputable def strsK (l : List CV) : (List (List Nat) → Bool) → Bool :=
  List.rec (motive := fun _ => (List (List Nat) → Bool) → Bool) (fun k => k []) (fun v _ ih k => match v with | .str s => ih fun ss => k (s :: ss) | _ => false) l
noncomputable def joinT (sep : List Nat) (l : List (List Nat)) : List Nat := List.rec (motive := fun _ => List Nat) [] (fun s _ ih => sep ++ (s ++ ih)) l
noncomputable def joinJ (sep : List Nat) (l : List (List Nat)) : List Nat := match l with | [] => [] | s :: l => s ++ joinT sep l
noncomputable def joinA (args : List AV) (h : Hp) (nx : Nat) (k : KV) : Bool := match args with
  | [.c (.sl id off len _ _), .c (.str sep)] => optK (h.get id) fun o => optK (rowOf o) fun cells => fL (List.take len (List.drop off cells)) fun cs => iff (Nat.beq (llen cs) len && Nat.ble len 1048576) (strsK cs fun ss => fLN (joinJ sep ss) fun s => iff (Nat.ble (llen s) 1073741824) (k (.c (.str s)) h nx))
  | _ => false
noncomputable def sameA (l : List AV) (k : RV → Bool) : Bool := match l with
  | [a] => k a.rv
  | _ => false
noncomputable def orcS : Orc := fun f => match f with
  | 434 => some (.val idxA)
  | 350 => some (.val cntA)
  | 308 => some (.call keysA)
  | 228 => some (.call joinA)
  | 197 => some .spine
  | 234 => some (.val sameA)
  | _ => none
noncomputable def runS (f : Nat) (args : List AV) (k : RV → Hp → Nat → Bool) : Bool := callK Tryz.prog 8 orcS (exec Tryz.prog 8 orcS 1000000) f args .leaf 8 k
noncomputable def isTrue (r : RV) : Bool := match r with | .c (.bool true) => true | _ => false
end Eng
end Go.Proofs.YtmcoaebldobapaaGreatDoor
/-
  The machine's answers tell the truth.
-/
namespace Go.Proofs.YtmcoaebldobapaaGreatDoor
namespace Eng
open Go Go.RowKit
theorem u8_beq {a b : Nat} (ha : a < 256) (hb : b < 256) : (UInt8.ofNat a == UInt8.ofNat b) = Nat.beq a b := by
  cases h : Nat.beq a b with
  | true => rw [nateq h]; simp
  | false =>
    have hne := natne h
    have : UInt8.ofNat a ≠ UInt8.ofNat b := fun e => hne (by
      have := congrArg UInt8.toNat e
      simpa [UInt8.toNat_ofNat', Nat.mod_eq_of_lt ha, Nat.mod_eq_of_lt hb] using this)
    simpa using this
theorem idxL_eq {b : Nat} (hb : b < 256) : ∀ (s : List Nat) (i : Nat), small s → idxL b s i = (if Lib.indexByte (s.map UInt8.ofNat) (UInt8.ofNat b) == -1 then -1 else Lib.indexByte (s.map UInt8.ofNat) (UInt8.ofNat b) + i)
  | [], i, _ => by simp [idxL, Lib.indexByte]
  | a :: s, i, hs => by
    have ha := hs a (by simp)
    have ih := idxL_eq hb s (i + 1) fun x hx => hs x (by simp [hx])
    have hge := Lib.indexByte_ge (s.map UInt8.ofNat) (UInt8.ofNat b)
    show (Bool.casesOn (Nat.beq a b) (idxL b s (i + 1)) (Int.ofNat i) : Int) = _
    simp only [List.map_cons, Lib.indexByte, u8_beq ha hb]
    cases h : Nat.beq a b with
    | true => simp
    | false =>
      simp only [ih, Bool.false_eq_true, if_false]
      by_cases h1 : Lib.indexByte (s.map UInt8.ofNat) (UInt8.ofNat b) = -1
      · simp [h1]
      · have h2 : ¬ Lib.indexByte (s.map UInt8.ofNat) (UInt8.ofNat b) + 1 = -1 := by omega
        simp only [beq_iff_eq, h1, if_false, h2]
        omega
theorem idxL_eq0 {b : Nat} (hb : b < 256) (s : List Nat) (hs : small s) : idxL b s 0 = Lib.indexByte (ba s).data.toList (UInt8.ofNat b) := by
  rw [idxL_eq hb s 0 hs]
  have : (ba s).data.toList = s.map UInt8.ofNat := by simp [ba]
  rw [this]
  by_cases h1 : Lib.indexByte (s.map UInt8.ofNat) (UInt8.ofNat b) = -1
  · simp [h1]
  · simp [h1]
theorem cntL_eq {b : Nat} (hb : b < 256) : ∀ (s : List Nat), small s → cntL b s = (s.map UInt8.ofNat).count (UInt8.ofNat b)
  | [], _ => rfl
  | a :: s, hs => by
    have ha := hs a (by simp)
    have ih := cntL_eq hb s fun x hx => hs x (by simp [hx])
    show (Bool.casesOn (Nat.beq a b) (cntL b s) (Nat.succ (cntL b s)) : Nat) = _
    rw [List.map_cons, List.count_cons, u8_beq ha hb, ih]
    cases h : Nat.beq a b <;> simp
theorem idxA_ok {l : List AV} {k : RV → Bool} (hk : idxA l k = true) {ρ : Ren} {xs : List Value} (hx : F2 (GA ρ) l xs) : ∃ r x, k r = true ∧ GR ρ r x ∧ ∀ w, (callFunc 434 xs.toArray).run Tryz.prog w = .ok (.value x) w := by
  unfold idxA at hk
  split at hk
  · rename_i s b
    replace hk := iff_ok hk
    obtain ⟨hb, hk⟩ := hk
    have hb : b < 256 := Nat.lt_succ_of_le (natle hb)
    rw [fI_eq] at hk
    cases hx with
    | cons h1 t => cases t with
      | cons h2 t => cases t with
        | nil =>
          cases h1 with
          | c h1 => cases h1 with
            | str _ hs =>
              cases h2 with
              | c h2 =>
                cases h2
                refine ⟨_, _, hk, .c (.int _ _), fun w => ?_⟩
                have he := run_callFunc_extern (P := Tryz.prog) Tryz.func434 (by kernel_rfl) (by kernel_rfl) (by kernel_rfl) (e := Extern.BytealgIndexByte.indexByte) (by kernel_rfl) #[.string (ba s), .int .u8 (Int.ofNat b)] w
                have hr := Lib.run_indexByteString (P := Tryz.prog) (ba s) (Int.ofNat b) w
                have hc : (Int.ofNat b).toNat.toUInt8 = UInt8.ofNat b := rfl
                rw [hc, ← idxL_eq0 hb s hs] at hr
                rw [hr] at he
                simpa using he
  · cases hk
theorem cntA_ok {l : List AV} {k : RV → Bool} (hk : cntA l k = true) {ρ : Ren} {xs : List Value} (hx : F2 (GA ρ) l xs) : ∃ r x, k r = true ∧ GR ρ r x ∧ ∀ w, (callFunc 350 xs.toArray).run Tryz.prog w = .ok (.value x) w := by
  unfold cntA at hk
  split at hk
  · rename_i s b
    replace hk := iff_ok hk
    obtain ⟨hb, hk⟩ := hk
    have hb : b < 256 := Nat.lt_succ_of_le (natle hb)
    rw [fN_eq] at hk
    cases hx with
    | cons h1 t => cases t with
      | cons h2 t => cases t with
        | nil =>
          cases h1 with
          | c h1 => cases h1 with
            | str _ hs =>
              cases h2 with
              | c h2 =>
                cases h2
                refine ⟨_, _, hk, .c (.int _ _), fun w => ?_⟩
                have he := run_callFunc_extern (P := Tryz.prog) Tryz.func350 (by kernel_rfl) (by kernel_rfl) (by kernel_rfl) (e := Extern.BytealgCount.count) (by kernel_rfl) #[.string (ba s), .int .u8 (Int.ofNat b)] w
                have hr := Lib.run_countString (P := Tryz.prog) (ba s) (Int.ofNat b) w
                have hc : (Int.ofNat b).toNat.toUInt8 = UInt8.ofNat b := rfl
                have hd : (ba s).data.toList = s.map UInt8.ofNat := by simp [ba]
                rw [hc, Lib.countByte, hd, ← cntL_eq hb s hs] at hr
                rw [hr] at he
                simpa using he
  · cases hk
end Eng
end Go.Proofs.YtmcoaebldobapaaGreatDoor
