/-
  Numbers as bytes: the turned form; its bytes.
-/
import Derived.Test.YtaalpijohdlabaaTab8
import Derived.Sort.Walk7a
import Derived.Test.YtaalpijohdlabaaApp
import Derived.Deep.LoopGhost
import Derived.Laws.IdiomStrings
import Derived.Laws.BytesArg
namespace Go.Proofs.Ytaalpijohdlabaa
open Go Go.RowKit
/-- A number's turned form. -/
def turnN (n : Int) : Nat := if 0 ≤ n then (2 * n).toNat else (-2 * n - 1).toNat
theorem turnN_lt {n : Int} (h : R64 n) : turnN n < 18446744073709551616 := by
  unfold turnN; unfold R64 at h; split <;> omega
theorem xor_ones {a : Nat} (h : a < 2 ^ 64) : a ^^^ (2 ^ 64 - 1) = 2 ^ 64 - 1 - a := by
  have := @BitVec.toNat_not 64 (BitVec.ofNat 64 a)
  have h2 := BitVec.xor_allOnes (x := BitVec.ofNat 64 a)
  rw [← h2, BitVec.toNat_xor, BitVec.toNat_allOnes, BitVec.toNat_ofNat, Nat.mod_eq_of_lt h] at this
  exact this
theorem turned_eq {n : Int} (h : -9223372036854775808 ≤ n ∧ n ≤ 9223372036854775807) :
    bits BinOp.xor IntKind.u64 (IntKind.u64.wrap (IntKind.u64.wrap n * 2)) (IntKind.u64.wrap (n / 9223372036854775808)) = ((turnN n : Nat) : Int) := by
  rw [IntKind.wrap_u64, IntKind.wrap_u64, IntKind.wrap_u64]
  by_cases h0 : 0 ≤ n
  · obtain ⟨m, rfl⟩ := Int.eq_ofNat_of_zero_le h0
    rw [show ((m : Int) % 18446744073709551616 * 2 % 18446744073709551616) = ((2 * m : Nat) : Int) by omega, show ((m : Int) / 9223372036854775808 % 18446744073709551616) = ((0 : Nat) : Int) by omega,
      bits_xor_u64_nat _ _ (by omega) (by omega), Nat.xor_zero]
    unfold turnN; rw [if_pos h0]; omega
  · obtain ⟨m, hm⟩ : ∃ m : Nat, n = -(m : Int) - 1 := ⟨(-n - 1).toNat, by omega⟩
    subst hm
    rw [show ((-(m : Int) - 1) % 18446744073709551616 * 2 % 18446744073709551616) = ((18446744073709551616 - 2 - 2 * m : Nat) : Int) by omega,
      show ((-(m : Int) - 1) / 9223372036854775808 % 18446744073709551616) = ((2 ^ 64 - 1 : Nat) : Int) by omega,
      bits_xor_u64_nat _ _ (by omega) (by omega), xor_ones (by omega)]
    unfold turnN; rw [if_neg h0]; omega
set_option maxRecDepth 100000 in
theorem turned_any (n : Int) (h : R64 n) (w : World) : Calls Try.prog 100 #[.int .i64 n] w fun e w' => e = .returned (.int .u64 (turnN n)) ∧ w = w' := by
  unfold R64 at h
  have e := turned_eq h
  go_enter Try.func100, Try.ntmps100
  go_wp2
  go_ret
  exact ⟨rfl, rfl⟩
end Go.Proofs.Ytaalpijohdlabaa
/-
  bytes.Put: numbers as bytes.
-/
namespace Go.Proofs.Ytaalpijohdlabaa
open Go Go.RowKit
/-- The bytes of a number that is not below 0: seven bits a byte, the lowest first; the highest bit tells that it goes on. -/
def digs (u : Nat) : List UInt8 := if u < 128 then [UInt8.ofNat u] else UInt8.ofNat (u % 128 + 128) :: digs (u / 128)
termination_by u
decreasing_by omega
theorem digs_small {u : Nat} (h : u < 128) : digs u = [UInt8.ofNat u] := by rw [digs, if_pos h]
theorem digs_big {u : Nat} (h : ¬ u < 128) : digs u = UInt8.ofNat (u % 128 + 128) :: digs (u / 128) := by rw [digs, if_neg h]
def bytV (l : List UInt8) : List Value := l.map fun x => .int .u8 x.toNat
def putL (l : List Int) : List UInt8 := l.flatMap fun n => digs (turnN n)
theorem or_all : (List.range 256).all (fun a => bits BinOp.or IntKind.u8 (a : Int) 128 == ((a % 128 + 128 : Nat) : Int)) = true := by kernel_rfl
theorem or_128 (u : Nat) : bits BinOp.or IntKind.u8 ((u : Int) % 256) 128 = ((u % 128 + 128 : Nat) : Int) := by
  have := List.all_eq_true.1 or_all (u % 256) (List.mem_range.2 (Nat.mod_lt _ (by omega)))
  rw [beq_iff_eq] at this
  rw [show ((u : Int) % 256) = ((u % 256 : Nat) : Int) by omega, this]
  congr 1; omega
theorem digs_len : ∀ (j u : Nat), u < 128 ^ (j + 1) → (digs u).length ≤ j + 1
  | 0, u, h => by rw [digs_small (by simpa using h)]; simp
  | j + 1, u, h => by
    by_cases hu : u < 128
    · rw [digs_small hu]; simp
    · rw [digs_big hu, List.length_cons]
      have := digs_len j (u / 128) (by rw [Nat.pow_succ] at h; exact Nat.div_lt_of_lt_mul (by rw [Nat.mul_comm]; exact h))
      omega
theorem digs_ten {n : Int} (h : R64 n) : (digs (turnN n)).length ≤ 10 := digs_len 9 _ (Nat.lt_of_lt_of_le (turnN_lt h) (by decide))
theorem putL_len {l : List Int} (h : ∀ n ∈ l, R64 n) : (putL l).length ≤ 10 * l.length := by
  unfold putL
  induction l with
  | nil => simp
  | cons x l ih =>
    have h1 := digs_ten (h x (by simp))
    have h2 := ih (fun n hn => h n (by simp [hn]))
    simp only [List.flatMap_cons, List.length_append, List.length_cons]; omega
theorem putL_snoc {l : List Int} {k : Nat} {x : Int} (h : l[k]? = some x) : putL (l.take (k + 1)) = putL (l.take k) ++ digs (turnN x) := by
  unfold putL; rw [List.take_add_one, h, List.flatMap_append]; simp
@[simp] theorem bytV_length (l : List UInt8) : (bytV l).length = l.length := by simp [bytV]
theorem bytV_one (l : List UInt8) : ∀ x ∈ bytV l, x.oneCell' = true := by
  intro x hx
  obtain ⟨b, _, rfl⟩ := List.mem_map.1 hx
  rfl
theorem byt_of {q : Nat} (h : q < 256) : Value.int .u8 (q : Int) = .int .u8 ((UInt8.ofNat q).toNat : Int) := by rw [UInt8.toNat_ofNat_of_lt' (by simpa using h)]
theorem owns_n {w : World} {base e n : Nat} {v : Value} {xs : List Value} (h : w.ownsRow base e 1 v n xs) : n = xs.length := by have := h.1; omega
theorem Try.info5 : (Try.prog.info? 5).map (fun i => (i.zero, i.size, i.bytes)) = some (some (.int .u8 0), 1, 1) := by kernel_rfl
theorem owns_own1 {w : World} {base e size n : Nat} {v : Value} {xs : List Value} (h : w.ownsRow base e size v n xs) {b : Nat} (hb : v.ownBlock = some b) : base ≤ b ∧ b < w.heap.size := by
  rcases h.2 with ⟨rfl, _⟩ | ⟨g, cap, cur, rfl, h1, h2, _⟩
  · cases hb
  · cases hb; exact ⟨h1, (Array.getElem?_eq_some_iff.1 h2).1⟩
set_option maxRecDepth 100000 in
set_option maxHeartbeats 1000000 in
theorem put_walk (v : Value) (l : List Int) (w : World) (h : Reads w 1 v (ints l)) (h64 : ∀ n ∈ l, R64 n) (hb : l.length ≤ 1073741824) :
    Calls Try.prog 82 #[v] w fun e w' => e = .returned (.string ⟨(putL l).toArray⟩) ∧ Kept none' w w' := by
  obtain ⟨i0, hi, hz0, hz1, hz2⟩ := info_parts Try.info5
  obtain ⟨a, cap, rfl, h1, h2, h3⟩ := h.at
  unfold maxLen at h2
  have H3 := Lib.hid h3
  have H64 := Lib.hid h64
  clear h h3 h64
  go_enter Try.func82, Try.ntmps82
  go_wp2
  go_loopg [3, 9] l.length (fun g vb vi wr => ∃ (k n : Nat), vi = .int .i64 (k : Int) ∧ k ≤ l.length ∧ l.length - k ≤ g ∧ wr.ownsRow w.heap.size 5 1 vb n (bytV (putL (l.take k))) ∧ Kept none' w wr)
  case atStart => exact ⟨0, 0, rfl, by omega, by omega, ⟨by simp [bytV, putL], .inl ⟨rfl, rfl⟩⟩, Kept.refl _ _⟩
  case round =>
    obtain ⟨k, n, rfl, hk, hg, ho, hkp⟩ := hrel
    have HG := Lib.hid (And.intro hg hkp)
    by_cases hlt : k < l.length
    · obtain ⟨x, hx⟩ : ∃ x, l[k]? = some x := ⟨_, List.getElem?_eq_getElem hlt⟩
      obtain ⟨b0, off, rfl, hcl⟩ := H3.out.resolve_left (fun h => by rw [h] at hx; cases hx)
      have q0 := hkp.cell (p := ⟨b0, off + k, none⟩) (fun h => h) (hcl k _ hx)
      have hx64 := H64.out x (List.mem_of_getElem? hx)
      have HX := Lib.hid hx
      have HT := Lib.hid (fun W => turned_any x hx64 W)
      obtain ⟨oa, oc, rfl⟩ := owns_slice ho
      have HO := Lib.hid ho
      clear hcl hx hx64 ho hg hkp
      go_wp2_with fail
      refine (HT.out _).mono ?_
      rintro e w2 ⟨rfl, rfl⟩
      go_wp2_with fail
      obtain ⟨u0, hu0⟩ : ∃ u0, turnN x = u0 := ⟨_, rfl⟩
      rw [hu0]
      have HU := Lib.hid hu0
      clear hu0
      go_loopg [3, 6] u0 (fun g vb vu wr2 => ∃ (u n : Nat) (dn : List UInt8), vu = .int .u64 (u : Int) ∧ u ≤ g ∧ digs u0 = dn ++ digs u ∧ wr2.ownsRow w.heap.size 5 1 vb n (bytV (putL (l.take k) ++ dn)) ∧ Kept none' w wr2)
      case atStart => exact ⟨u0, n, [], rfl, Nat.le_refl _, rfl, by simpa using HO.out, HG.out.2⟩
      case round =>
        obtain ⟨u, n, dn, rfl, hug, hdig, ho, hkp⟩ := hrel
        by_cases hbig : 128 ≤ u
        · obtain ⟨oa2, oc2, rfl⟩ := owns_slice ho
          have hi1 : (128 : Int) ≤ (u : Int) := by omega
          have eo := or_128 u
          obtain ⟨q, hq⟩ : ∃ q, u % 128 + 128 = q := ⟨_, rfl⟩
          rw [hq] at eo
          have hn := owns_n ho
          have hd1 := digs_ten (H64.out x (List.mem_of_getElem? HX.out))
          rw [HU.out, hdig, List.length_append] at hd1
          have hd2 := putL_len (l := l.take k) (fun n hn => H64.out n (List.mem_of_mem_take hn))
          rw [List.length_take] at hd2
          rw [bytV_length, List.length_append] at hn
          have hks := hkp.size
          have B1 : Hid ((n * 1 + [Value.int .u8 (q : Int)].length) * 1 ≤ 140737488355328) := by show _ ≤ _; simp only [List.length_cons, List.length_nil]; omega
          have B2 : Hid (n * 1 + [Value.int .u8 (q : Int)].length ≤ maxLen) := by show _ ≤ _; unfold maxLen; simp only [List.length_cons, List.length_nil]; omega
          have B3 : Hid (w.heap.size ≤ (wr.alloc (.cells #[.int .u8 (q : Int)] 5)).heap.size) := by show _ ≤ _; simp; omega
          have kk : Kept none' wr (wr.alloc (.cells #[.int .u8 (q : Int)] 5)) := (Kept.refl _ _).alloc _
          have HO2 := Lib.hid (kk.owns ho (fun _ _ h => h))
          have HR2 := Lib.hid (Reads.lit wr [.int .u8 (q : Int)] 5 1 1 rfl (by unfold maxLen; omega))
          have A := Lib.hid (And.intro hug (And.intro hdig (And.intro (hkp.trans kk) (And.intro hq (And.intro (by omega : q < 256) hbig)))))
          have ho1 : ∀ y ∈ [Value.int .u8 (q : Int)], y.oneCell' = true := by intro y hy; simp at hy; subst hy; rfl
          have es : (u : Int) / 128 = ((u / 128 : Nat) : Int) := by omega
          obtain ⟨u2, hu2⟩ : ∃ u2, u / 128 = u2 := ⟨_, rfl⟩
          rw [hu2] at es
          have HU2 := Lib.hid hu2
          clear ho hn hd1 hd2 hks kk hug hdig hq hkp hu2
          go_wp2_with (at_builtin; (refine wpList_append_reads rfl (.tmp 19) (.tmp 23) 137 rfl w.heap.size 5 i0 (.int .u8 0) 1 1 Try.underlying137 hi hz0 hz1 hz2 rfl (by decide) _ n _ rfl HO2.out _ [.int .u8 (q : Int)] rfl HR2.out ho1 B1.out B2.out B3.out ?_); intro v' n' w' g1 g2 g3 g4)
          obtain ⟨va, vc, rfl⟩ := owns_slice g1
          have F : Hid (w'.ownsRow w.heap.size 5 1 (.slice va n' vc) n' (bytV (putL (l.take k) ++ (dn ++ [UInt8.ofNat q]))) ∧ Kept none' w w') := by
            refine ⟨?_, A.out.2.2.1.new (Kept.grown (S := fun j => w.heap.size ≤ j) g3 (fun j hj _ => (owns_own1 HO2.out hj).1)) (fun j hj e => by omega)⟩
            rw [byt_of A.out.2.2.2.2.1] at g1
            simpa [bytV] using g1
          clear g1 g2 g3 g4
          go_wp2_with fail
          go_roundg u2
          case rel =>
            refine ⟨u2, n', dn ++ [UInt8.ofNat q], rfl, Nat.le_refl _, ?_, F.out.1, F.out.2⟩
            rw [A.out.2.1, digs_big (by have := A.out.2.2.2.2.2; omega), A.out.2.2.2.1, HU2.out]; simp
          case measure => have := A.out.1; have := HU2.out; omega
        · obtain ⟨oa2, oc2, rfl⟩ := owns_slice ho
          have hi1 : ¬ (128 : Int) ≤ (u : Int) := by omega
          have eu : (u : Int) % 256 = (u : Int) := by omega
          have hn := owns_n ho
          have hd1 := digs_ten (H64.out x (List.mem_of_getElem? HX.out))
          rw [HU.out, hdig, List.length_append] at hd1
          have hd2 := putL_len (l := l.take k) (fun n hn => H64.out n (List.mem_of_mem_take hn))
          rw [List.length_take] at hd2
          rw [bytV_length, List.length_append] at hn
          have hks := hkp.size
          have B1 : Hid ((n * 1 + [Value.int .u8 (u : Int)].length) * 1 ≤ 140737488355328) := by show _ ≤ _; simp only [List.length_cons, List.length_nil]; omega
          have B2 : Hid (n * 1 + [Value.int .u8 (u : Int)].length ≤ maxLen) := by show _ ≤ _; unfold maxLen; simp only [List.length_cons, List.length_nil]; omega
          have B3 : Hid (w.heap.size ≤ (wr.alloc (.cells #[.int .u8 (u : Int)] 5)).heap.size) := by show _ ≤ _; simp; omega
          have kk : Kept none' wr (wr.alloc (.cells #[.int .u8 (u : Int)] 5)) := (Kept.refl _ _).alloc _
          have HO2 := Lib.hid (kk.owns ho (fun _ _ h => h))
          have HR2 := Lib.hid (Reads.lit wr [.int .u8 (u : Int)] 5 1 1 rfl (by unfold maxLen; omega))
          have A := Lib.hid (And.intro hug (And.intro hdig (And.intro (hkp.trans kk) hbig)))
          have ho1 : ∀ y ∈ [Value.int .u8 (u : Int)], y.oneCell' = true := by intro y hy; simp at hy; subst hy; rfl
          clear ho hn hd1 hd2 hks kk hug hdig hkp
          go_wp2_with (at_builtin; (refine wpList_append_reads rfl (.tmp 25) (.tmp 28) 137 rfl w.heap.size 5 i0 (.int .u8 0) 1 1 Try.underlying137 hi hz0 hz1 hz2 rfl (by decide) _ n _ rfl HO2.out _ [.int .u8 (u : Int)] rfl HR2.out ho1 B1.out B2.out B3.out ?_); intro v' n' w' g1 g2 g3 g4)
          obtain ⟨va, vc, rfl⟩ := owns_slice g1
          have F : Hid (w'.ownsRow w.heap.size 5 1 (.slice va n' vc) n' (bytV (putL (l.take (k + 1)))) ∧ Kept none' w w') := by
            refine ⟨?_, A.out.2.2.1.new (Kept.grown (S := fun j => w.heap.size ≤ j) g3 (fun j hj _ => (owns_own1 HO2.out hj).1)) (fun j hj e => by omega)⟩
            have hub := A.out.2.2.2
            rw [byt_of (by omega)] at g1
            rw [putL_snoc HX.out, HU.out, A.out.2.1, digs_small (by omega)]
            simpa [bytV] using g1
          clear g1 g2 g3 g4
          go_wp2_with fail
          go_roundg (l.length - (k + 1))
          case rel => exact ⟨k + 1, n', by go_num, by omega, Nat.le_refl _, F.out.1, F.out.2⟩
          case measure => have := HG.out.1; omega
    · have hkl : k = l.length := by omega
      subst hkl
      rw [List.take_of_length_le (Nat.le_refl _)] at ho
      obtain ⟨oa2, oc2, rfl⟩ := owns_slice ho
      have hcv : (convert 137 9 (.slice oa2 n oc2)).run Try.prog wr = .ok (.string ⟨(putL l).toArray⟩) wr := by
        have hn := owns_n ho
        rw [bytV_length] at hn
        rcases ho.2 with ⟨h1, h2⟩ | ⟨g, cp, cur, h1, _, hg2, _, _, _, ht⟩
        · injection h1 with h1 _ _
          subst h1
          have e1 : putL l = [] := List.eq_nil_of_length_eq_zero (by omega)
          rw [e1]
          exact run_convert_bytes_nil _ 137 5 Try.underlying137 Try.underlying5 _ _ 9 Try.underlying9
        · injection h1 with h1 _ _
          subst h1
          rw [hn]
          refine run_convert_bytes_back wr 137 9 5 ⟨g, 0, none⟩ oc2 (putL l) Try.underlying137 Try.underlying5 Try.underlying9 (fun j hj => ?_)
          rw [Addr.add_lit, Nat.zero_add, cell_of_row wr g j cur 5 (0, 0) hg2]
          have h3 : (bytV (putL l))[j]? = some (.int .u8 ((putL l)[j].toNat : Int)) := by unfold bytV; rw [List.getElem?_map, List.getElem?_eq_getElem hj]; rfl
          rw [← ht, List.getElem?_take] at h3
          split at h3
          · simpa using h3
          · cases h3
      have HK := Lib.hid hkp
      clear ho hg hkp HG
      go_wp2_with fail
      go_ret
      exact ⟨rfl, HK.out⟩
end Go.Proofs.Ytaalpijohdlabaa
/-
  The document's numbers as bytes: one, Put.
-/
namespace Go.Proofs.Ytaalpijohdlabaa
open Go Go.RowKit
def strOf (l : List UInt8) : ByteArray := ⟨l.toArray⟩
theorem strOf_append (l m : List UInt8) : strOf l ++ strOf m = strOf (l ++ m) := by
  simp [strOf, ByteArray.ext_iff]
theorem strOf_size (l : List UInt8) : (strOf l).size = l.length := rfl
theorem size_ok {u0 u : Nat} {dn : List UInt8} (h : u0 < 18446744073709551616) (hd : digs u0 = dn ++ digs u) (b : UInt8) : ¬ 9223372036854775807 < (strOf dn).size + (strOf [b]).size := by
  have h1 := digs_len 9 u0 (Nat.lt_of_lt_of_le h (by decide))
  rw [hd, List.length_append] at h1
  rw [strOf_size, strOf_size, List.length_singleton]; omega
theorem one_byte (q : Nat) (h : q < 256) (wr : World) : (convert 137 9 (.slice (some ⟨wr.heap.size, 0, none⟩) 1 1)).run Try.prog (wr.alloc (.cells #[.int .u8 (q : Int)] 5)) = .ok (.string (strOf [UInt8.ofNat q])) (wr.alloc (.cells #[.int .u8 (q : Int)] 5)) := by
  refine run_convert_bytes_back _ 137 9 5 ⟨wr.heap.size, 0, none⟩ 1 [UInt8.ofNat q] Try.underlying137 Try.underlying5 Try.underlying9 (fun j hj => ?_)
  obtain rfl : j = 0 := by simpa using hj
  rw [Addr.add_zero', byt_of h]
  simp
set_option maxRecDepth 100000 in
set_option maxHeartbeats 1000000 in
theorem one_any (n : Int) (h : R64 n) (w : World) : Calls Try.prog 101 #[.int .i64 n] w fun e w' => e = .returned (.string (strOf (digs (turnN n)))) ∧ Kept none' w w' := by
  unfold R64 at h
  by_cases h0 : n < 0
  · have hu0 : 2 * -(n + 1) + 1 = ((turnN n : Nat) : Int) := by unfold turnN; rw [if_neg (by omega)]; omega
    have hlt := turnN_lt (n := n) h
    obtain ⟨u0, hu⟩ : ∃ u0, turnN n = u0 := ⟨_, rfl⟩
    rw [hu] at hu0 hlt ⊢
    have HU := Lib.hid hu0
    clear hu hu0
    go_enter Try.func101, Try.ntmps101
    go_wp2_with fail
    rw [HU.out]
    clear HU
    go_loopg [3, 4] u0 (fun g vu vs wr => ∃ (u : Nat) (dn : List UInt8), vu = .int .u64 (u : Int) ∧ vs = .string (strOf dn) ∧ u ≤ g ∧ u ≤ u0 ∧ digs u0 = dn ++ digs u ∧ Kept none' w wr)
    case atStart => exact ⟨u0, [], rfl, rfl, Nat.le_refl _, Nat.le_refl _, rfl, Kept.refl _ _⟩
    case round =>
      obtain ⟨u, dn, rfl, rfl, hug, huu, hdig, hkp⟩ := hrel
      have hub : u < 18446744073709551616 := by omega
      by_cases hbig : 127 < u
      · have hi1 : (127 : Int) < (u : Int) := by omega
        obtain ⟨q, hq⟩ : ∃ q, u % 128 = q := ⟨_, rfl⟩
        have eq1 : (u : Int) % 128 = (q : Int) := by omega
        obtain ⟨u2, hu2⟩ : ∃ u2, u / 128 = u2 := ⟨_, rfl⟩
        have es : (u : Int) / 128 = (u2 : Int) := by omega
        have hq2 : q < 128 := by omega
        have A := Lib.hid (And.intro hug (And.intro hdig (And.intro hq hu2)))
        clear hug hdig hq hu2
        have hcv := one_byte (q + 128) (by omega) wr
        rw [show (((q + 128 : Nat)) : Int) = (q : Int) + 128 by omega] at hcv
        obtain ⟨bb, hbb⟩ : ∃ bb, UInt8.ofNat (q + 128) = bb := ⟨_, rfl⟩
        rw [hbb] at hcv
        have hsz := size_ok hlt (by have := A.out.2.1; exact this) bb
        have HB := Lib.hid (And.intro hbb hkp)
        clear hbb hkp
        go_wp2_with fail
        go_roundg u2
        case rel =>
          refine ⟨u2, dn ++ [bb], rfl, by rw [← strOf_append], Nat.le_refl _, by have := A.out.2.2.2; omega, ?_, HB.out.2.alloc _⟩
          rw [A.out.2.1, digs_big (by omega), A.out.2.2.1, A.out.2.2.2, HB.out.1]; simp
        case measure => have h1 := A.out.1; have h2 := A.out.2.2.2; omega
      · have hi1 : ¬ (127 : Int) < (u : Int) := by omega
        have hcv := one_byte u (by omega) wr
        obtain ⟨bb, hbb⟩ : ∃ bb, UInt8.ofNat u = bb := ⟨_, rfl⟩
        rw [hbb] at hcv
        have F : Hid (dn ++ [bb] = digs u0 ∧ Kept none' w wr) := ⟨by rw [hdig, digs_small (by omega), hbb], hkp⟩
        have eu : (u : Int) % 256 = (u : Int) := by omega
        have hsz := size_ok hlt hdig bb
        clear hdig hbb hkp hug
        go_wp2_with fail
        go_ret
        exact ⟨by show Ending.returned (Value.string (strOf dn ++ strOf [bb])) = _; rw [← F.out.1, ← strOf_append], F.out.2.alloc _⟩
  · have hu0 : 2 * n = ((turnN n : Nat) : Int) := by unfold turnN; rw [if_pos (by omega)]; omega
    have hlt := turnN_lt (n := n) h
    obtain ⟨u0, hu⟩ : ∃ u0, turnN n = u0 := ⟨_, rfl⟩
    rw [hu] at hu0 hlt ⊢
    have HU := Lib.hid hu0
    clear hu hu0
    go_enter Try.func101, Try.ntmps101
    go_wp2_with fail
    rw [HU.out]
    clear HU
    go_loopg [3, 4] u0 (fun g vu vs wr => ∃ (u : Nat) (dn : List UInt8), vu = .int .u64 (u : Int) ∧ vs = .string (strOf dn) ∧ u ≤ g ∧ u ≤ u0 ∧ digs u0 = dn ++ digs u ∧ Kept none' w wr)
    case atStart => exact ⟨u0, [], rfl, rfl, Nat.le_refl _, Nat.le_refl _, rfl, Kept.refl _ _⟩
    case round =>
      obtain ⟨u, dn, rfl, rfl, hug, huu, hdig, hkp⟩ := hrel
      have hub : u < 18446744073709551616 := by omega
      by_cases hbig : 127 < u
      · have hi1 : (127 : Int) < (u : Int) := by omega
        obtain ⟨q, hq⟩ : ∃ q, u % 128 = q := ⟨_, rfl⟩
        have eq1 : (u : Int) % 128 = (q : Int) := by omega
        obtain ⟨u2, hu2⟩ : ∃ u2, u / 128 = u2 := ⟨_, rfl⟩
        have es : (u : Int) / 128 = (u2 : Int) := by omega
        have hq2 : q < 128 := by omega
        have A := Lib.hid (And.intro hug (And.intro hdig (And.intro hq hu2)))
        clear hug hdig hq hu2
        have hcv := one_byte (q + 128) (by omega) wr
        rw [show (((q + 128 : Nat)) : Int) = (q : Int) + 128 by omega] at hcv
        obtain ⟨bb, hbb⟩ : ∃ bb, UInt8.ofNat (q + 128) = bb := ⟨_, rfl⟩
        rw [hbb] at hcv
        have hsz := size_ok hlt (by have := A.out.2.1; exact this) bb
        have HB := Lib.hid (And.intro hbb hkp)
        clear hbb hkp
        go_wp2_with fail
        go_roundg u2
        case rel =>
          refine ⟨u2, dn ++ [bb], rfl, by rw [← strOf_append], Nat.le_refl _, by have := A.out.2.2.2; omega, ?_, HB.out.2.alloc _⟩
          rw [A.out.2.1, digs_big (by omega), A.out.2.2.1, A.out.2.2.2, HB.out.1]; simp
        case measure => have h1 := A.out.1; have h2 := A.out.2.2.2; omega
      · have hi1 : ¬ (127 : Int) < (u : Int) := by omega
        have hcv := one_byte u (by omega) wr
        obtain ⟨bb, hbb⟩ : ∃ bb, UInt8.ofNat u = bb := ⟨_, rfl⟩
        rw [hbb] at hcv
        have F : Hid (dn ++ [bb] = digs u0 ∧ Kept none' w wr) := ⟨by rw [hdig, digs_small (by omega), hbb], hkp⟩
        have eu : (u : Int) % 256 = (u : Int) := by omega
        have hsz := size_ok hlt hdig bb
        clear hdig hbb hkp hug
        go_wp2_with fail
        go_ret
        exact ⟨by show Ending.returned (Value.string (strOf dn ++ strOf [bb])) = _; rw [← F.out.1, ← strOf_append], F.out.2.alloc _⟩
end Go.Proofs.Ytaalpijohdlabaa
/-
  The document's Put: numbers as bytes.
-/
namespace Go.Proofs.Ytaalpijohdlabaa
open Go Go.RowKit
set_option maxRecDepth 100000 in
set_option maxHeartbeats 1000000 in
theorem put02_any (v : Value) (l : List Int) (w : World) (h : Reads w 1 v (ints l)) (h64 : ∀ n ∈ l, R64 n) (hb : l.length ≤ 1073741824) :
    Calls Try.prog 83 #[v] w (Gives w (.string (strOf (putL l)))) := by
  obtain ⟨a, cap, rfl, h1, h2, h3⟩ := h.at
  unfold maxLen at h2
  have H3 := Lib.hid h3
  have H64 := Lib.hid h64
  clear h h3 h64
  go_enter Try.func83, Try.ntmps83
  go_wp2
  go_loopg [3, 4] l.length (fun g vs vi wr => ∃ k : Nat, vi = .int .i64 (k : Int) ∧ vs = .string (strOf (putL (l.take k))) ∧ k ≤ l.length ∧ l.length - k ≤ g ∧ Kept none' w wr)
  case atStart => exact ⟨0, rfl, rfl, by omega, by omega, Kept.refl _ _⟩
  case round =>
    obtain ⟨k, rfl, rfl, hk, hg, hkp⟩ := hrel
    by_cases hlt : k < l.length
    · obtain ⟨x, hx⟩ : ∃ x, l[k]? = some x := ⟨_, List.getElem?_eq_getElem hlt⟩
      obtain ⟨b0, off, rfl, hcl⟩ := H3.out.resolve_left (fun h => by rw [h] at hx; cases hx)
      have q0 := hkp.cell (p := ⟨b0, off + k, none⟩) (fun h => h) (hcl k _ hx)
      have hx64 := H64.out x (List.mem_of_getElem? hx)
      have HT := Lib.hid (fun W => one_any x hx64 W)
      have F := Lib.hid (And.intro hg (And.intro hkp (putL_snoc hx)))
      obtain ⟨P, hP⟩ : ∃ P, putL (l.take k) = P := ⟨_, rfl⟩
      obtain ⟨D, hD⟩ : ∃ D, digs (turnN x) = D := ⟨_, rfl⟩
      have hsz : ¬ 9223372036854775807 < (strOf P).size + (strOf D).size := by
        have e1 := putL_len (l := l.take k) (fun n hn => H64.out n (List.mem_of_mem_take hn))
        have e2 := digs_ten hx64
        rw [List.length_take] at e1
        rw [strOf_size, strOf_size, ← hP, ← hD]; omega
      rw [hP]
      have HP := Lib.hid (And.intro hP hD)
      clear hcl hx hx64 hg hkp hP
      go_wp2_with fail
      refine (HT.out _).mono ?_
      rintro e w2 ⟨rfl, k2⟩
      rw [hD]
      clear hD
      go_wp2_with fail
      go_roundg (l.length - (k + 1))
      case rel => exact ⟨k + 1, by go_num, by rw [F.out.2.2, HP.out.1, HP.out.2, ← strOf_append], by omega, Nat.le_refl _, F.out.2.1.trans k2⟩
      case measure => have := F.out.1; omega
    · have hkl : k = l.length := by omega
      subst hkl
      rw [List.take_of_length_le (Nat.le_refl _)]
      go_wp2_with fail
      go_ret
      exact ⟨rfl, hkp⟩
end Go.Proofs.Ytaalpijohdlabaa
