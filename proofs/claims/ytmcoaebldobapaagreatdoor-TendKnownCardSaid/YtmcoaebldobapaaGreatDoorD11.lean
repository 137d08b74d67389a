/-
  The machine's operations that look at no memory.
-/
import Derived.Test.YtmcoaebldobapaaGreatDoorD10
import Derived.ChangeKeysEq
import Derived.LaidEql
set_option linter.unusedVariables false
set_option linter.unusedSimpArgs false
namespace Go.Proofs.YtmcoaebldobapaaGreatDoor
namespace Eng
open Go Go.RowKit
noncomputable def mB (q : IntKind) : Nat := IntKind.casesOn q 256 65536 4294967296 18446744073709551616 256 65536 4294967296 18446744073709551616
noncomputable def uN (fb : Nat) (a : Int) : Nat := Int.casesOn a (fun m => Nat.mod m fb) (fun m => Nat.sub (Nat.sub fb 1) (Nat.mod m fb))
theorem mB_eq (q : IntKind) : mB q = 2 ^ q.bits := by cases q <;> rfl
theorem uN_eq (q : IntKind) (a : Int) : uN (mB q) a = (BitVec.ofInt q.bits a).toNat := by
  have h0 : 0 < mB q := by cases q <;> decide
  have h := uW_eq (mB q) h0 a
  have h1 : ((uN (mB q) a : Nat) : Int) = uW (mB q) a := by cases a <;> rfl
  rw [BitVec.toNat_ofInt, ← mB_eq, ← h, ← h1]
  rfl
noncomputable def kI (q : IntKind) (k : RV → Bool) (n : Int) : Bool := fI n fun n => k (.c (.int q n))
noncomputable def kB (k : RV → Bool) (b : Bool) : Bool := fB b fun b => k (.c (.bool b))
noncomputable def binI (op : BinOp) (q : IntKind) (a b : Int) (k : RV → Bool) : Bool :=
  match op with
  | .add => kI q k (wrF q (Int.add a b))
  | .sub => kI q k (wrF q (Int.sub a b))
  | .mul => kI q k (wrF q (Int.mul a b))
  | .quo => iff (!eqI b 0) (kI q k (wrF q (Int.tdiv a b)))
  | .rem => iff (!eqI b 0) (kI q k (Int.tmod a b))
  | .and => kI q k (wrF q (Int.ofNat (Nat.land (uN (mB q) a) (uN (mB q) b))))
  | .or => kI q k (wrF q (Int.ofNat (Nat.lor (uN (mB q) a) (uN (mB q) b))))
  | .xor => kI q k (wrF q (Int.ofNat (Nat.xor (uN (mB q) a) (uN (mB q) b))))
  | .andNot => kI q k (wrF q (Int.ofNat (Nat.land (uN (mB q) a) (Nat.sub (Nat.sub (mB q) 1) (uN (mB q) b)))))
  | .eql => kB k (eqI a b)
  | .neq => kB k (!eqI a b)
  | .lss => kB k (ltI a b)
  | .leq => kB k (!ltI b a)
  | .gtr => kB k (ltI b a)
  | .geq => kB k (!ltI a b)
  | _ => false
noncomputable def shI (op : BinOp) (q : IntKind) (a : Int) (b : Int) (k : RV → Bool) : Bool :=
  Int.casesOn b (fun m => match op with
    | .shl => kI q k (wrF q (Int.mul a (Int.ofNat (Nat.pow 2 (Nat.min m q.bits)))))
    | .shr => kI q k (Int.fdiv a (Int.ofNat (Nat.pow 2 (Nat.min m q.bits))))
    | _ => false) fun _ => false
section
variable {P : Program} {ρ : Ren}
abbrev Pu (P : Program) (ρ : Ren) (k : RV → Bool) (s : Sem Value) : Prop := ∃ r x, k r = true ∧ GR ρ r x ∧ ∀ w, s.run P w = .ok x w
theorem pu_int {q : IntKind} {k : RV → Bool} {n : Int} {s : Sem Value} (h : kI q k n = true) (hs : ∀ w, s.run P w = .ok (.int q n) w) : Pu P ρ k s := by
  rw [kI, fI_eq] at h
  exact ⟨_, _, h, .c (.int _ _), hs⟩
theorem pu_bool {k : RV → Bool} {b : Bool} {s : Sem Value} (h : kB k b = true) (hs : ∀ w, s.run P w = .ok (.bool b) w) : Pu P ρ k s := by
  rw [kB, fB_eq] at h
  exact ⟨_, _, h, .c (.bool _), hs⟩
theorem binI_ok {op : BinOp} {t : TypeId} {q : IntKind} {a b : Int} {k : RV → Bool} (h : binI op q a b k = true) : Pu P ρ k (binOp op t (.int q a) (.int q b)) := by
  cases op <;> simp only [binI] at h
  case add => exact pu_int h fun w => by simp [binOp, Op.intArith, wrF_eq]; try rfl
  case sub => exact pu_int h fun w => by simp [binOp, Op.intArith, wrF_eq]; try rfl
  case mul => exact pu_int h fun w => by simp [binOp, Op.intArith, wrF_eq]; try rfl
  case quo =>
    obtain ⟨h0, h⟩ := iff_ok h
    have h0 : ¬ b = 0 := by simpa [eqI_eq] using h0
    exact pu_int h fun w => by simp [binOp, Op.intDiv, h0, wrF_eq]
  case rem =>
    obtain ⟨h0, h⟩ := iff_ok h
    have h0 : ¬ b = 0 := by simpa [eqI_eq] using h0
    exact pu_int h fun w => by simp [binOp, Op.intDiv, h0]
  case and => exact pu_int h fun w => by simp only [binOp, Op.intBits, wrF_eq, uN_eq, ne_eq, not_true, if_false]; simp only [BitVec.toNat_and]; rfl
  case or => exact pu_int h fun w => by simp only [binOp, Op.intBits, wrF_eq, uN_eq, ne_eq, not_true, if_false]; simp only [BitVec.toNat_or]; rfl
  case xor => exact pu_int h fun w => by simp only [binOp, Op.intBits, wrF_eq, uN_eq, ne_eq, not_true, if_false]; simp only [BitVec.toNat_xor]; rfl
  case andNot => exact pu_int h fun w => by simp only [binOp, Op.intBits, wrF_eq, uN_eq, ne_eq, not_true, if_false]; simp only [BitVec.toNat_and, BitVec.toNat_not, mB_eq]; rfl
  case eql => exact pu_bool h fun w => by simp [binOp, Op.intCmp, eqI_eq]; try rfl
  case neq => exact pu_bool h fun w => by simp [binOp, Op.intCmp, eqI_eq]; try rfl
  case lss => exact pu_bool h fun w => by simp [binOp, Op.intCmp, ltI_eq]
  case leq => exact pu_bool h fun w => by simp only [binOp, Op.intCmp, ltI_eq, ne_eq, not_true, if_false, Sem.run_pure, Result.ok.injEq, and_true, Value.bool.injEq]; by_cases h : b < a <;> simp [h] <;> omega
  case gtr => exact pu_bool h fun w => by simp [binOp, Op.intCmp, ltI_eq]
  case geq => exact pu_bool h fun w => by simp only [binOp, Op.intCmp, ltI_eq, ne_eq, not_true, if_false, Sem.run_pure, Result.ok.injEq, and_true, Value.bool.injEq]; by_cases h : a < b <;> simp [h] <;> omega
  all_goals cases h
theorem shI_ok {op : BinOp} {t : TypeId} {q q' : IntKind} {a b : Int} {k : RV → Bool} (hop : op = .shl ∨ op = .shr) (h : shI op q a b k = true) : Pu P ρ k (binOp op t (.int q a) (.int q' b)) := by
  cases b with
  | negSucc m => cases h
  | ofNat m =>
    have h0 : ¬ (Int.ofNat m < 0) := by simp
    have hp : (Int.ofNat (Nat.pow 2 (Nat.min m q.bits))) = (2 : Int) ^ (min m q.bits) := by
      show ((2 ^ (min m q.bits) : Nat) : Int) = _
      push_cast; rfl
    rcases hop with rfl | rfl
    · exact pu_int h fun w => by rw [hp]; simp [binOp, Op.shift, wrF_eq]; intro hh; omega
    · exact pu_int h fun w => by rw [hp]; simp [binOp, Op.shift]; intro hh; omega
end
/-! ### strings; no thing -/
noncomputable def strK (op : BinOp) (a b : List Nat) (k : RV → Bool) : Bool :=
  match op with
  | .add => iff (Nat.ble (Nat.add (llen a) (llen b)) 1099511627776) (fL (a ++ b) fun s => k (.c (.str s)))
  | .eql => kB k (lbeq a b)
  | .neq => kB k (!lbeq a b)
  | _ => false
noncomputable def isCon (x : Operand) : Bool := match x with | .const _ => true | _ => false
/-- Are they the same (of what is told apart without the memory)? -/
noncomputable def eqC (d : TypeDesc) (con : Bool) (a b : CV) : Option Bool :=
  match a, b with
  | .bool x, .bool y => (match d with | .bool => some (x == y) | _ => none)
  | .nilp, .nilp => (match d with | .pointer _ => some true | _ => none)
  | .nilp, .ptr _ _ => (match d with | .pointer _ => some false | _ => none)
  | .ptr _ _, .nilp => (match d with | .pointer _ => some false | _ => none)
  | .nils, .nils => (match d with | .slice _ => some true | _ => none)
  | .nils, .sl .. => (match d with | .slice _ => some false | _ => none)
  | .sl .., .nils => (match d with | .slice _ => some false | _ => none)
  | .nilm, .nilm => (match d with | .map .. => some true | _ => none)
  | .nilm, .mp _ => (match d with | .map .. => some false | _ => none)
  | .mp _, .nilm => (match d with | .map .. => some false | _ => none)
  | .nilf, .nilf => (match d with | .func .. => some true | _ => none)
  | .nilf, .fn _ => (match d with | .func .. => some false | _ => none)
  | .nilf, .clo _ => (match d with | .func .. => some false | _ => none)
  | .fn _, .nilf => (match d with | .func .. => some false | _ => none)
  | .clo _, .nilf => (match d with | .func .. => some false | _ => none)
  | .nili, .nili => (match d with | .interface _ => if con then some true else none | _ => none)
  | .nili, .ifc _ => (match d with | .interface _ => some false | _ => none)
  | .ifc _, .nili => (match d with | .interface _ => some false | _ => none)
  | _, _ => none
noncomputable def samePtr (a b : CV) : Bool := match a, b with
  | .ptr i o, .ptr j p => Nat.beq i j && Nat.beq o p
  | _, _ => false
noncomputable def eqK0 (P : Program) (op : BinOp) (t : TypeId) (con : Bool) (a b : CV) (k : RV → Bool) : Bool :=
  match op with
  | .eql => optK (undL P t) fun d => optK (eqC d con a b) fun r => kB k r
  | .neq => optK (undL P t) fun d => optK (eqC d con a b) fun r => kB k (!r)
  | _ => false
noncomputable def eqK (P : Program) (op : BinOp) (t : TypeId) (con : Bool) (a b : CV) (k : RV → Bool) : Bool :=
  Bool.casesOn (samePtr a b) (eqK0 P op t con a b k) (optK (undL P t) fun d => (match d with
    | .pointer te => optK (infL P te) fun _ => (match op with | .eql => kB k true | .neq => kB k false | _ => false)
    | _ => false))
/-- An array of so many numbers, each of one cell. -/
noncomputable def arrOf (P : Program) (t : TypeId) : Option Nat := match undL P t with
  | some (.array n e) => (match undL P e, infL P t, infL P e with
    | some (.int _), some i, some j => Bool.casesOn (Nat.beq i.size n) none (Bool.casesOn (Nat.beq j.size 1) none (some n))
    | _, _, _ => none)
  | _ => none
noncomputable def eqIs (a b : List CV) (off : Nat) (is : List Nat) : Option Bool := List.rec (motive := fun _ => Option Bool) (some true) (fun i _ rest => match lget a (Nat.add off i), lget b (Nat.add off i) with
  | some (.int q x), some (.int q' y) => if q = q' then Bool.casesOn (eqI x y) (some false) rest else none
  | _, _ => none) is
/-- Structs of numbers, strings and bools. -/
noncomputable def eqFs (P : Program) (a b : List CV) (fs : List Field) : Option Bool :=
  List.rec (motive := fun _ => Option Bool) (some true) (fun f _ rest =>
    if f.name ≠ "_" then
      match lget a f.offset, lget b f.offset, undL P f.type with
      | some (.int q x), some (.int q' y), some (.int _) => if q = q' then Bool.casesOn (eqI x y) (some false) rest else none
      | some (.str x), some (.str y), some .string => Bool.casesOn (lbeq x y) (some false) rest
      | some (.bool x), some (.bool y), some .bool => Bool.casesOn (x == y) (some false) rest
      | _, _, _ => (match arrOf P f.type with
        | some n => (match eqIs a b f.offset (List.range n) with | some true => rest | some false => some false | none => none)
        | none => none)
    else none) fs
noncomputable def aggEq (P : Program) (op : BinOp) (t : TypeId) (a b : List CV) (k : RV → Bool) : Bool :=
  iff (!P.stoodInHeld t) (iff (!P.eqGuardType P.depth t) (match undL P t with
    | some (.struct fs) => optK (eqFs P a b fs.toList) fun r => (match op with | .eql => kB k r | .neq => kB k (!r) | _ => false)
    | _ => false))
noncomputable def binK (P : Program) (op : BinOp) (t : TypeId) (con : Bool) (x y : RV) (k : RV → Bool) : Bool :=
  match x, y with
  | .c a, .c b => (match a, b with
    | .int q m, .int q' n => (match op with
      | .shl => shI .shl q m n k
      | .shr => shI .shr q m n k
      | op => iff (decide (q = q')) (binI op q m n k))
    | .str m, .str n => strK op m n k
    | a, b => eqK P op t con a b k)
  | .agg a, .agg b => aggEq P op t a b k
  | _, _ => false
section
variable {P : Program} {ρ : Ren}
theorem small_inj {a b : List Nat} (ha : small a) (hb : small b) : (ba a == ba b) = (a == b) := by
  have inj : ∀ {a b : List Nat}, small a → small b → a.map UInt8.ofNat = b.map UInt8.ofNat → a = b := by
    intro a
    induction a with
    | nil => intro b _ _ h; cases b with
      | nil => rfl
      | cons => simp at h
    | cons x a ih =>
      intro b ha hb h
      cases b with
      | nil => simp at h
      | cons y b =>
        simp at h
        have hx := ha x (by simp)
        have hy := hb y (by simp)
        have h1 : x = y := by
          have := congrArg UInt8.toNat h.1
          simpa [UInt8.toNat_ofNat', Nat.mod_eq_of_lt hx, Nat.mod_eq_of_lt hy] using this
        rw [h1, ih (fun b hb => ha b (by simp [hb])) (fun c hc => hb c (by simp [hc])) h.2]
  rw [beq_toListBytes, ByteArray.toList_eq, ByteArray.toList_eq]
  have e : ∀ l : List Nat, (ba l).data.toList = l.map UInt8.ofNat := fun l => by simp [ba]
  rw [e, e]
  by_cases h : a = b
  · subst h; simp
  · have h1 : a.map UInt8.ofNat ≠ b.map UInt8.ofNat := fun e => h (inj ha hb e)
    rw [beq_false_of_ne h, beq_false_of_ne h1]
theorem size_ba (a : List Nat) : (ba a).size = a.length := by simp [ba, ByteArray.size]
theorem ba_append (a b : List Nat) : ba a ++ ba b = ba (a ++ b) := by
  apply ByteArray.ext
  simp [ba]
theorem small_append {a b : List Nat} (ha : small a) (hb : small b) : small (a ++ b) := fun x hx => by
  rcases List.mem_append.1 hx with h | h
  · exact ha x h
  · exact hb x h
theorem strK_ok {op : BinOp} {t : TypeId} {a b : List Nat} {k : RV → Bool} (ha : small a) (hb : small b) (h : strK op a b k = true) : Pu P ρ k (binOp op t (.string (ba a)) (.string (ba b))) := by
  have he : ((ba a).toList == (ba b).toList) = lbeq a b := by rw [← beq_toListBytes, small_inj ha hb, lbeq_eq]
  cases op <;> simp only [strK] at h
  case add =>
    obtain ⟨h0, h⟩ := iff_ok h
    have h0 := natle h0
    rw [llen_eq, llen_eq] at h0
    rw [fL_eq] at h
    refine ⟨_, _, h, .c (.str _ (small_append ha hb)), fun w => ?_⟩
    show (Op.stringOp .add (ba a) (ba b)).run P w = _
    rw [run_string_add_sum w (ba a) (ba b) (by rw [size_ba, size_ba]; exact Nat.le_trans h0 (by omega)), ba_append]
  case eql => exact pu_bool h fun w => by show (Op.stringOp .eql (ba a) (ba b)).run P w = _; simp [Op.stringOp, he]
  case neq => exact pu_bool h fun w => by show (Op.stringOp .neq (ba a) (ba b)).run P w = _; simp [Op.stringOp, he]
  all_goals cases h
theorem eqC_in {t : TypeId} {d : TypeDesc} (hd : P.underlying t = some d) {con : Bool} {a b : CV} {r : Bool} {x y : Value} (h : eqC d con a b = some r) (hx : G ρ a x) (hy : G ρ b y) (n : Nat) (w : World) :
    (Op.equalIn (n + 1) t x y).run P w = .ok r w := by
  unfold eqC at h
  (repeat' split at h) <;> (try cases h) <;> cases hx <;> cases hy <;> simp [Op.equalIn, run_underlying hd]
theorem eqC_ok {t : TypeId} {d : TypeDesc} (hd : P.underlying t = some d) {con : Bool} {a b : CV} {r : Bool} {x y : Value} (h : eqC d con a b = some r) (hx : G ρ a x) (hy : G ρ b y) (w : World) :
    (Op.equal t x y).run P w = .ok r w := eqC_in hd h hx hy 9999 w
theorem guard_plain {op : BinOp} {t : TypeId} {xo yo : Operand} {a b : CV} {x y : Value} (hx : G ρ a x) (hy : G ρ b y) (h : x ≠ .nilIface ∨ y ≠ .nilIface ∨ (isCon xo || isCon yo) = true) (w : World) : (eqGuard op t xo yo x y).run P w = .ok () w := by
  by_cases hxn : x = .nilIface
  · by_cases hyn : y = .nilIface
    · have h : (isCon xo || isCon yo) = true := by
        rcases h with h | h | h
        · exact absurd hxn h
        · exact absurd hyn h
        · exact h
      subst hxn hyn
      cases op <;> first | rfl | (cases xo <;> cases yo <;> first | rfl | (simp [isCon] at h))
    · subst hxn
      cases hy <;> first | exact absurd rfl hyn | (cases op <;> rfl)
  · cases hx <;> first | exact absurd rfl hxn | (cases op <;> first | rfl | (cases hy <;> rfl))
theorem eqK0_ok {op : BinOp} {t : TypeId} {xo yo : Operand} {a b : CV} {x y : Value} {k : RV → Bool} (hx : G ρ a x) (hy : G ρ b y) (hk : eqK0 P op t (isCon xo || isCon yo) a b k = true) :
    Pu P ρ k (do eqGuard op t xo yo x y; binOp op t x y) := by
  have core : ∀ {d : TypeDesc} {r : Bool}, P.underlying t = some d → eqC d (isCon xo || isCon yo) a b = some r → (∀ w, (eqGuard op t xo yo x y).run P w = .ok () w) ∧
      (∀ w, (binOp .eql t x y).run P w = .ok (.bool r) w) ∧ (∀ w, (binOp .neq t x y).run P w = .ok (.bool !r) w) := fun {d r} hd hr => by
    have he := fun w => eqC_ok hd hr hx hy w
    refine ⟨fun w => guard_plain hx hy ?_ w, fun w => ?_, fun w => ?_⟩
    · by_cases hc : (isCon xo || isCon yo) = true
      · exact .inr (.inr hc)
      · have hc : (isCon xo || isCon yo) = false := by simpa using hc
        rw [hc] at hr
        unfold eqC at hr
        (repeat' split at hr) <;> (try cases hr) <;> cases hx <;> cases hy <;> first | (simp; done) | simp_all
    · have he := he w
      unfold eqC at hr
      (repeat' split at hr) <;> (try cases hr) <;> cases hx <;> cases hy <;> simp only [binOp, Sem.run_bind, he, Result.andThen_ok, Sem.run_pure]
    · have he := he w
      unfold eqC at hr
      (repeat' split at hr) <;> (try cases hr) <;> cases hx <;> cases hy <;> simp only [binOp, Sem.run_bind, he, Result.andThen_ok, Sem.run_pure]
  unfold eqK0 at hk
  split at hk
  · obtain ⟨d, hd, hk⟩ := optK_ok hk
    try simp only [undL_eq, infL_eq, fnL_eq] at hd
    obtain ⟨r, hr, hk⟩ := optK_ok hk
    obtain ⟨h1, h2, _⟩ := core hd hr
    exact pu_bool hk fun w => by simp only [Sem.run_bind, h1, Result.andThen_ok, h2]
  · obtain ⟨d, hd, hk⟩ := optK_ok hk
    try simp only [undL_eq, infL_eq, fnL_eq] at hd
    obtain ⟨r, hr, hk⟩ := optK_ok hk
    obtain ⟨h1, _, h2⟩ := core hd hr
    exact pu_bool hk fun w => by simp only [Sem.run_bind, h1, Result.andThen_ok, h2]
  · cases hk
theorem eqK_ok {op : BinOp} {t : TypeId} {xo yo : Operand} {a b : CV} {x y : Value} {k : RV → Bool} (hx : G ρ a x) (hy : G ρ b y) (hk : eqK P op t (isCon xo || isCon yo) a b k = true) :
    Pu P ρ k (do eqGuard op t xo yo x y; binOp op t x y) := by
  unfold eqK at hk
  cases hs : samePtr a b with
  | false => rw [hs] at hk; exact eqK0_ok hx hy hk
  | true =>
    rw [hs] at hk
    obtain ⟨d, hd, hk1⟩ := optK_ok hk
    try simp only [undL_eq, infL_eq, fnL_eq] at hd
    split at hk1
    case h_2 => cases hk1
    rename_i te
    obtain ⟨j, hj, hk2⟩ := optK_ok hk1
    try simp only [undL_eq, infL_eq, fnL_eq] at hj
    unfold samePtr at hs
    split at hs
    case h_2 => cases hs
    rename_i i o i' o'
    rw [Bool.and_eq_true] at hs
    have e1 := nateq hs.1
    have e2 := nateq hs.2
    subst e1 e2
    have hg : ∀ w, (eqGuard op t xo yo x y).run P w = .ok () w := fun w => guard_plain hx hy (.inl (by cases hx; simp)) w
    cases hx with
    | ptr _ hr => cases hy with
      | ptr _ hr' =>
        rw [hr] at hr'; cases hr'
        rename_i bk base cap
        have h : ∀ (m : Nat) w, (Op.equalIn (m + 1) t (.pointer (some ⟨bk, base + o, none⟩)) (.pointer (some ⟨bk, base + o, none⟩))).run P w = .ok true w := fun m w => by
          simp [Op.equalIn, run_underlying hd, sizeOf, typeInfo, hj, run_sameAddr_same]
        split at hk2
        · exact pu_bool hk2 fun w => by simp only [Sem.run_bind, hg, Result.andThen_ok, binOp]; simp [Op.equal, Op.maxDepth, h 9999]
        · exact pu_bool hk2 fun w => by simp only [Sem.run_bind, hg, Result.andThen_ok, binOp]; simp [Op.equal, Op.maxDepth, h 9999]
        · cases hk2
theorem arrOf_ok {t : TypeId} {n : Nat} (h : arrOf P t = some n) : ∃ e q i j, P.underlying t = some (.array n e) ∧ P.underlying e = some (.int q) ∧ P.info? t = some i ∧ i.size = n ∧ P.info? e = some j ∧ j.size = 1 := by
  unfold arrOf at h
  simp only [undL_eq, infL_eq] at h
  split at h
  · rename_i m e hu
    split at h
    · rename_i q i j he hi hj
      cases h1 : Nat.beq i.size m with
      | false => rw [h1] at h; cases h
      | true =>
        rw [h1] at h
        cases h2 : Nat.beq j.size 1 with
        | false => rw [h2] at h; cases h
        | true =>
          rw [h2] at h
          cases h
          exact ⟨e, q, i, j, hu, he, hi, nateq h1, hj, nateq h2⟩
    · cases h
  · cases h
theorem arr_part {t e : TypeId} {n : Nat} {i : TypeInfo} (hu : P.underlying t = some (.array n e)) (hi : P.info? t = some i) (hs : i.size = n) (xs : Array Value) (off : Nat) (w : World) : (part t xs off).run P w = .ok (.agg (xs.extract off (off + n))) w := by
  simp [part, isAgg, run_underlying hu, sizeOf, typeInfo, hi, hs]
theorem arr_item {e : TypeId} {q : IntKind} (he : P.underlying e = some (.int q)) {a : List CV} {xs : List Value} (hx : F2 (G ρ) a xs) {off n i : Nat} (hin : i < n) {q' : IntKind} {x : Int} (hv : lget a (Nat.add off i) = some (.int q' x)) (w : World) : (part e (xs.toArray.extract off (off + n)) i).run P w = .ok (.int q' x) w := by
  rw [lget_eq] at hv
  obtain ⟨z, h1, h2⟩ := f2_get hx hv
  cases h2
  have h1 : xs[off + i]? = some (Value.int q' x) := h1
  have : (xs.toArray.extract off (off + n))[i]? = some (Value.int q' x) := by
    have hlt := (List.getElem?_eq_some_iff.1 h1).1
    rw [Array.getElem?_extract]
    rw [if_pos (by simp; omega)]
    simpa using h1
  generalize xs.toArray.extract off (off + n) = zs at this ⊢
  simp [part, isAgg, run_underlying he, this]
theorem eqIs_ok {e : TypeId} {q : IntKind} (he : P.underlying e = some (.int q)) {a b : List CV} {xs ys : List Value} (hx : F2 (G ρ) a xs) (hy : F2 (G ρ) b ys) (off n d : Nat) (w : World) : ∀ {is : List Nat} {r : Bool}, (∀ i ∈ is, i < n) → eqIs a b off is = some r →
    (Op.eqItems (d + 1) e 1 (xs.toArray.extract off (off + n)) (ys.toArray.extract off (off + n)) is).run P w = .ok r w
  | [], r, _, h => by cases h; simp [Op.eqItems]
  | i :: is, r, hall, h => by
    change (match lget a (Nat.add off i), lget b (Nat.add off i) with | some (.int q x), some (.int q' y) => if q = q' then Bool.casesOn (eqI x y) (some false) (eqIs a b off is) else none | _, _ => none) = some r at h
    split at h
    · rename_i q1 x q2 y e1 e2
      split at h
      · rename_i hq
        subst hq
        have hi := hall i (by simp)
        have p1 := arr_item he hx hi e1 w
        have p2 := arr_item he hy hi e2 w
        have p3 : (Op.equalIn (d + 1) e (.int q1 x) (.int q1 y)).run P w = .ok (eqI x y) w := by simp [Op.equalIn, run_underlying he, eqI_eq]; try rfl
        unfold Op.eqItems
        rw [Nat.mul_one]
        simp only [Sem.run_bind, p1, p2, p3, Result.andThen_ok]
        cases hb : eqI x y with
        | false => rw [hb] at h; cases h; simp
        | true => rw [hb] at h; rw [if_neg (by simp)]; exact eqIs_ok he hx hy off n d w (fun i hi => hall i (by simp [hi])) h
      · cases h
    · cases h
theorem eqFs_ok {a b : List CV} {xs ys : List Value} (hx : F2 (G ρ) a xs) (hy : F2 (G ρ) b ys) (n : Nat) (w : World) : ∀ {fs : List Field} {r : Bool}, eqFs P a b fs = some r → (Op.eqFields (n + 2) xs.toArray ys.toArray fs).run P w = .ok r w
  | [], r, h => by cases h; simp [Op.eqFields]
  | f :: fs, r, h => by
    change (if f.name ≠ "_" then _ else none) = some r at h
    split at h
    · rename_i hn
      have part1 : ∀ {zs : List Value} {c : List CV} {v : CV} {d : TypeDesc}, F2 (G ρ) c zs → lget c f.offset = some v → P.underlying f.type = some d → (d = .bool ∨ d = .string ∨ ∃ q, d = .int q) → ∃ z, G ρ v z ∧ (part f.type zs.toArray f.offset).run P w = .ok z w := fun {zs c v d} hz hv hd hs => by
        rw [lget_eq] at hv
        obtain ⟨z, h1, h2⟩ := f2_get hz hv
        refine ⟨z, h2, ?_⟩
        rcases hs with rfl | rfl | ⟨q, rfl⟩ <;> simp [part, isAgg, run_underlying hd, h1]
      have fin : ∀ {z z' : Value} {e : Bool}, (part f.type xs.toArray f.offset).run P w = .ok z w → (part f.type ys.toArray f.offset).run P w = .ok z' w → (Op.equalIn (n + 2) f.type z z').run P w = .ok e w →
          (Bool.casesOn (motive := fun _ => Option Bool) e (some false) (eqFs P a b fs)) = some r → (Op.eqFields (n + 2) xs.toArray ys.toArray (f :: fs)).run P w = .ok r w := fun {z z' e} h1 h2 h3 h4 => by
        unfold Op.eqFields
        rw [if_pos hn]
        simp only [Sem.run_bind, h1, Result.andThen_ok, h2, h3]
        cases e with
        | false => cases h4; simp
        | true => simp; exact eqFs_ok hx hy n w h4
      split at h
      · rename_i q x q' y q'' e1 e2 e3
        rw [undL_eq] at e3
        obtain ⟨z, hz, hz1⟩ := part1 hx e1 e3 (.inr (.inr ⟨_, rfl⟩))
        obtain ⟨z', hz', hz2⟩ := part1 hy e2 e3 (.inr (.inr ⟨_, rfl⟩))
        cases hz; cases hz'
        split at h
        · rename_i hq
          subst hq
          exact fin hz1 hz2 (by simp [Op.equalIn, run_underlying e3, eqI_eq]; try rfl) h
        · cases h
      · rename_i x y e1 e2 e3
        rw [undL_eq] at e3
        obtain ⟨z, hz, hz1⟩ := part1 hx e1 e3 (.inr (.inl rfl))
        obtain ⟨z', hz', hz2⟩ := part1 hy e2 e3 (.inr (.inl rfl))
        cases hz with
        | str _ s1 => cases hz' with
          | str _ s2 => exact fin hz1 hz2 (by simp [Op.equalIn, run_underlying e3, small_inj s1 s2, lbeq_eq]) h
      · rename_i x y e1 e2 e3
        rw [undL_eq] at e3
        obtain ⟨z, hz, hz1⟩ := part1 hx e1 e3 (.inl rfl)
        obtain ⟨z', hz', hz2⟩ := part1 hy e2 e3 (.inl rfl)
        cases hz; cases hz'
        exact fin hz1 hz2 (by simp [Op.equalIn, run_underlying e3]) h
      · split at h
        · rename_i m hm
          obtain ⟨e, q, i, j, hu, he, hi, hs, hj, hs1⟩ := arrOf_ok hm
          have hc : P.cellsOf e = 1 := by
            have h1 := run_sizeOf w hj
            have h2 : (sizeOf e).run P w = .ok 1 w := by simp [sizeOf, typeInfo, hj, hs1]
            rw [h2] at h1
            injection h1 with h1
            exact h1.symm
          have key : ∀ {r : Bool}, eqIs a b f.offset (List.range m) = some r → (Op.equalIn (n + 2) f.type (.agg (xs.toArray.extract f.offset (f.offset + m))) (.agg (ys.toArray.extract f.offset (f.offset + m)))).run P w = .ok r w := fun hr => by
            rw [show n + 2 = (n + 1) + 1 from rfl, run_equalIn_array w (n + 1) _ _ hu hj, hc]
            exact eqIs_ok he hx hy f.offset m n w (fun i hi => List.mem_range.1 hi) hr
          split at h
          · rename_i hr; exact fin (arr_part hu hi hs _ _ w) (arr_part hu hi hs _ _ w) (key hr) h
          · rename_i hr; exact fin (arr_part hu hi hs _ _ w) (arr_part hu hi hs _ _ w) (key hr) h
          · cases h
        · cases h
    · cases h
theorem aggEq_ok {op : BinOp} {t : TypeId} {xo yo : Operand} {a b : List CV} {xs ys : List Value} {k : RV → Bool} (hx : F2 (G ρ) a xs) (hy : F2 (G ρ) b ys) (hk : aggEq P op t a b k = true) :
    Pu P ρ k (do eqGuard op t xo yo (.agg xs.toArray) (.agg ys.toArray); binOp op t (.agg xs.toArray) (.agg ys.toArray)) := by
  obtain ⟨h1, hk⟩ := iff_ok hk
  obtain ⟨h2, hk⟩ := iff_ok hk
  have h1 : P.stoodInHeld t = false := by simpa using h1
  have h2 : P.eqGuardType P.depth t = false := by simpa using h2
  split at hk
  · rename_i fs hd
    simp only [undL_eq] at hd
    obtain ⟨r, hr, hk⟩ := optK_ok hk
    have hf : P.fieldsOf t = fs := by simp [Program.fieldsOf, hd]
    have he : ∀ w, (Op.equalIn 10000 t (.agg xs.toArray) (.agg ys.toArray)).run P w = .ok r w := fun w => by
      rw [run_equalIn_struct w 9999 t _ _ (by rw [hf]; exact hd) h1, hf]
      exact eqFs_ok hx hy 9997 w hr
    have hg : ∀ w, (eqGuard op t xo yo (.agg xs.toArray) (.agg ys.toArray)).run P w = .ok () w := fun w => run_eqGuard_agg w op t xo yo _ _ h2
    split at hk
    · exact pu_bool hk fun w => by simp only [Sem.run_bind, hg, Result.andThen_ok, run_eql_struct, he]
    · exact pu_bool hk fun w => by simp only [Sem.run_bind, hg, Result.andThen_ok, run_neq_struct, he]
    · cases hk
  · cases hk
theorem binK_ok {op : BinOp} {t : TypeId} {xo yo : Operand} {x y : RV} {vx vy : Value} {k : RV → Bool} (hx : GR ρ x vx) (hy : GR ρ y vy) (hk : binK P op t (isCon xo || isCon yo) x y k = true) :
    Pu P ρ k (do eqGuard op t xo yo vx vy; binOp op t vx vy) := by
  have plain : ∀ {a b : CV}, G ρ a vx → G ρ b vy → vx ≠ .nilIface → Pu P ρ k (binOp op t vx vy) → Pu P ρ k (do eqGuard op t xo yo vx vy; binOp op t vx vy) := fun ha hb hn ⟨r, v, h1, h2, h3⟩ =>
    ⟨r, v, h1, h2, fun w => by simp only [Sem.run_bind, guard_plain ha hb (.inl hn) w, Result.andThen_ok, h3]⟩
  unfold binK at hk
  split at hk
  · cases hx with
    | c hx => cases hy with
      | c hy =>
        split at hk
        · cases hx; cases hy
          refine plain (.int _ _) (.int _ _) (by simp) ?_
          split at hk
          · exact shI_ok (.inl rfl) hk
          · exact shI_ok (.inr rfl) hk
          · obtain ⟨hq, hk2⟩ := iff_ok hk
            have hq := of_decide_eq_true hq
            subst hq
            exact binI_ok hk2
        · cases hx with
          | str _ h1 => cases hy with
            | str _ h2 => exact plain (.str _ h1) (.str _ h2) (by simp) (strK_ok h1 h2 hk)
        · exact eqK_ok hx hy hk
  · cases hx with
    | agg hx => cases hy with
      | agg hy => exact aggEq_ok hx hy hk
  · cases hk
end
end Eng
end Go.Proofs.YtmcoaebldobapaaGreatDoor
