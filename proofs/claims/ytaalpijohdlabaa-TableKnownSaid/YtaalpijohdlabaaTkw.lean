/-
  Numbers out of bytes: what is read (plain); bytes.back(98).
-/
import Derived.Test.YtaalpijohdlabaaTab1
import Derived.Laws.BitsAllLaws
import Derived.Deep.LoopGhost
namespace Go.Proofs.Ytaalpijohdlabaa
open Go Go.RowKit
/-- What a turned form is one of. -/
def backN (u : Nat) : Int := if u % 2 = 0 then ((u / 2 : Nat) : Int) else -((u / 2 : Nat) : Int) - 1
/-- A number's bytes are read from the i-th one on; u is what came so far: the number, how many bytes, the error. -/
def tkFrom (i u : Nat) : List UInt8 → Int × Nat × Int
  | [] => (0, 0, 20)
  | c :: r =>
    if i = 9 ∧ 1 < c.toNat then (0, 0, 21)
    else if 128 ≤ c.toNat then tkFrom (i + 1) (u + c.toNat % 128 * 128 ^ i) r
    else if c.toNat = 0 ∧ 0 < i then (0, 0, 21)
    else (backN (u + c.toNat % 128 * 128 ^ i), i + 1, 0)
def tk (l : List UInt8) : Int × Nat × Int := tkFrom 0 0 l
theorem pow9 : 128 ^ 9 = 9223372036854775808 := by decide
theorem i64_xor_not (a : Nat) (ha : a < 9223372036854775808) : bits .xor .i64 (a : Int) (-1) = -1 - (a : Int) := by
  show IntKind.i64.wrap ((BitVec.ofInt 64 (a : Int) ^^^ BitVec.ofInt 64 (-1)).toNat : Int) = _
  have h1 : BitVec.ofInt 64 (-1) = BitVec.allOnes 64 := by decide
  rw [h1, BitVec.xor_allOnes, BitVec.toNat_not, ofInt_u64 a (by omega)]
  simp [IntKind.wrap, IntKind.bits, IntKind.signed]
  omega
theorem i64_xor_zero (a : Nat) (ha : a < 9223372036854775808) : bits .xor .i64 (a : Int) 0 = (a : Int) := by
  show IntKind.i64.wrap ((BitVec.ofInt 64 (a : Int) ^^^ BitVec.ofInt 64 0).toNat : Int) = _
  have h1 : BitVec.ofInt 64 0 = 0#64 := by decide
  rw [h1, BitVec.xor_zero, ofInt_u64 a (by omega)]
  simp [IntKind.wrap, IntKind.bits, IntKind.signed]
  omega
theorem back_bits {u : Nat} (hu : u < 18446744073709551616) : bits .xor .i64 ((u / 2 : Nat) : Int) (-((u % 2 : Nat) : Int)) = backN u := by
  unfold backN
  have h2 : u % 2 = 0 ∨ u % 2 = 1 := by omega
  rcases h2 with h2 | h2
  · rw [h2, if_pos rfl]; exact i64_xor_zero _ (by omega)
  · rw [h2, if_neg (by omega)]
    have := i64_xor_not (u / 2) (by omega)
    rw [show (-((1 : Nat) : Int)) = -1 from rfl, this]; omega
set_option maxRecDepth 100000 in
theorem back_any (u : Nat) (hu : u < 18446744073709551616) (w : World) : Calls Try.prog 98 #[.int .u64 (u : Int)] w fun e w' => e = .returned (.int .i64 (backN u)) ∧ w = w' := by
  have e1 : bits .and .u64 (u : Int) 1 = ((u % 2 : Nat) : Int) := by
    have := u64_and_nat u 1 hu (by omega)
    rw [nat_mask1] at this
    exact this
  have hb := back_bits hu
  obtain ⟨v, hv⟩ : ∃ v, u % 2 = v := ⟨_, rfl⟩
  have hv2 : v < 2 := by omega
  rw [hv] at e1 hb
  have HV := Lib.hid hv
  have HB := Lib.hid hb
  clear hv hb
  go_enter Try.func98, Try.ntmps98
  go_wp2
  go_ret
  exact ⟨ret_int (by rw [show ((u : Int) / 2) = ((u / 2 : Nat) : Int) by omega]; exact HB.out), rfl⟩
end Go.Proofs.Ytaalpijohdlabaa
/-
  bytes.Take(76).
-/
namespace Go.Proofs.Ytaalpijohdlabaa
open Go Go.RowKit
theorem pow7 (k : Nat) : (2 : Nat) ^ (7 * k) = 128 ^ k := by rw [Nat.pow_mul]
theorem or_wrap {U d k : Nat} (h1 : U < 128 ^ k) (h2 : U + d * 128 ^ k < 18446744073709551616) : bits .or .u64 (U : Int) (IntKind.u64.wrap ((d : Int) * 2 ^ (7 * k))) = ((U + d * 128 ^ k : Nat) : Int) := by
  have e1 : (d : Int) * 2 ^ (7 * k) = ((d * 128 ^ k : Nat) : Int) := by rw [← pow7]; simp
  rw [e1, IntKind.wrap_u64, Int.emod_eq_of_lt (by omega) (by omega), u64_or_nat _ _ (by omega) (by omega), Nat.or_comm, nat_join (7 * k) _ _ (by rw [pow7]; simp) (by rw [pow7]; exact h1)]
  congr 1
  omega
theorem and_top {c : Nat} (h : c < 256) : bits .and .u8 (c : Int) 128 = if 128 ≤ c then 128 else 0 := by
  have := u8_and_nat c 128 h (by omega)
  rw [show (128 : Nat) = 2 ^ 7 from rfl, nat_bit] at this
  have e : c / 2 ^ 7 % 2 = if 128 ≤ c then 1 else 0 := by split <;> omega
  rw [e] at this
  split
  · rename_i hc; rw [if_pos hc] at this; exact this
  · rename_i hc; rw [if_neg hc] at this; exact this
def TkQ (w : World) (x : Int × Nat × Int) (e : Ending) (w' : World) : Prop := e = .returned (.tuple #[.int .i64 x.1, .int .i64 (x.2.1 : Int), .int .i64 x.2.2]) ∧ w = w'
set_option maxRecDepth 100000 in
set_option maxHeartbeats 1000000 in
theorem btake_any (s : ByteArray) (hs : s.size ≤ maxLen) (w : World) : Calls Try.prog 76 #[.string s] w (TkQ w (tk s.data.toList)) := by
  unfold maxLen at hs
  go_enter Try.func76, Try.ntmps76
  go_wp2_with fail
  go_step3
  go_wp2_with fail
  go_step3
  go_wp2_with fail
  go_loopg [5, 6] 11 (fun g vu vi wr => ∃ k U : Nat, vi = .int .i64 (k : Int) ∧ vu = .int .u64 (U : Int) ∧ k ≤ 9 ∧ k ≤ s.size ∧ U < 128 ^ k ∧ 11 - k ≤ g ∧ tk s.data.toList = tkFrom k U (s.data.toList.drop k) ∧ wr = w)
  case atStart => exact ⟨0, 0, rfl, rfl, by omega, by omega, by decide, by omega, rfl, rfl⟩
  case round =>
    obtain ⟨k, U, rfl, rfl, hk9, hks, hU, hg, hT, rfl⟩ := hrel
    have HT := Lib.hid (And.intro hT (And.intro hU hg))
    clear hT hU hg
    by_cases hlt : k < s.size
    · obtain ⟨c, hc⟩ : ∃ c, s[k].toNat = c := ⟨_, rfl⟩
      have hc256 : c < 256 := by rw [← hc]; exact s[k].toNat_lt
      have hU2 : U < 9223372036854775808 := by
        have h1 : 128 ^ k ≤ 128 ^ 9 := Nat.pow_le_pow_right (by omega) hk9
        rw [pow9] at h1
        have := HT.out.2.1
        omega
      have hdr : s.data.toList.drop k = s[k] :: s.data.toList.drop (k + 1) := by
        rw [List.drop_eq_getElem_cons (by simpa using hlt)]; rfl
      have HD := Lib.hid hdr
      have HC := Lib.hid hc
      clear hdr
      by_cases hbad : k = 9 ∧ 1 < c
      · obtain ⟨rfl, hc1⟩ := hbad
        have hcb : (1 : Int) < (s[9].toNat : Int) := by omega
        clear hc
        go_wp2_with fail
        try rw [Exit.noGoto_ret]
        go_ret3
        have e := HT.out.1
        rw [HD.out, tkFrom, HC.out, if_pos ⟨rfl, hc1⟩] at e
        rw [e]
        exact ⟨rfl, rfl⟩
      · have h9 : k = 9 → ¬ (1 : Int) < (s[k].toNat : Int) := fun h h1 => hbad ⟨h, by omega⟩
        have b1 : bits .andNot .u8 (s[k].toNat : Int) 128 = ((c % 128 : Nat) : Int) := by
          rw [hc]
          have := u8_andNot_nat c 128 hc256 (by omega)
          rw [show 255 - 128 = 127 from rfl, nat_mask7] at this
          exact this
        obtain ⟨d, hd⟩ : ∃ d, c % 128 = d := ⟨_, rfl⟩
        rw [hd] at b1
        have hd2 : d < 128 := by omega
        have hV : U + d * 128 ^ k < 18446744073709551616 ∧ (k ≤ 8 → U + d * 128 ^ k < 128 ^ (k + 1)) := by
          have hUk := HT.out.2.1
          constructor
          · by_cases hk : k = 9
            · subst hk
              have : d ≤ 1 := by have := h9 rfl; omega
              rw [pow9] at *
              have : d * 9223372036854775808 ≤ 1 * 9223372036854775808 := Nat.mul_le_mul_right _ this
              omega
            · have h1 : 128 ^ k ≤ 128 ^ 8 := Nat.pow_le_pow_right (by omega) (by omega)
              have h2 : d * 128 ^ k ≤ 127 * 128 ^ k := Nat.mul_le_mul_right _ (by omega)
              have h3 : (128 : Nat) ^ 8 = 72057594037927936 := by decide
              omega
          · intro _
            have h2 : d * 128 ^ k ≤ 127 * 128 ^ k := Nat.mul_le_mul_right _ (by omega)
            rw [Nat.pow_succ]; omega
        have b2 := or_wrap HT.out.2.1 hV.1
        obtain ⟨V, hVV⟩ : ∃ V, U + d * 128 ^ k = V := ⟨_, rfl⟩
        rw [hVV] at b2 hV
        have b4 : bits .and .u8 (s[k].toNat : Int) 128 = if 128 ≤ c then 128 else 0 := by rw [hc]; exact and_top hc256
        have hsk : ∀ h : c = 0, ((s[k].toNat : Int) == 0) = true := fun h => by rw [hc, h]; rfl
        have hsk2 : ∀ h : c ≠ 0, ((s[k].toNat : Int) == 0) = false := fun h => by rw [hc]; exact beq_eq_false_iff_ne.2 (by omega)
        have hV1 := hV.1
        have e0 := HT.out.1
        rw [HD.out, tkFrom, HC.out, if_neg hbad, hd, hVV] at e0
        have E0 := Lib.hid e0
        have HH := Lib.hid (And.intro hd (And.intro hV.2 hbad))
        clear hd hc hbad e0 hV hVV
        by_cases hbig : 128 ≤ c
        · have hk9' : ((k : Int) == 9) = false := beq_eq_false_iff_ne.2 (by have := HH.out.2.2; omega)
          have hk8 : k ≤ 8 := by have := HH.out.2.2; omega
          have F := Lib.hid (show tk s.data.toList = tkFrom (k + 1) V (s.data.toList.drop (k + 1)) ∧ V < 128 ^ (k + 1) from ⟨by rw [E0.out, if_pos hbig], HH.out.2.1 hk8⟩)
          rw [if_pos hbig] at b4
          clear h9 hsk hsk2
          go_wp2_with fail
          go_roundg (11 - (k + 1))
          case rel => exact ⟨k + 1, V, by go_num, rfl, by omega, by omega, F.out.2, Nat.le_refl _, F.out.1, rfl⟩
          case measure => have := HT.out.2.2; omega
        · rw [if_neg hbig] at b4 E0
          have hk : ((k : Int) == 9) = false ∨ (((k : Int) == 9) = true ∧ ¬ (1 : Int) < (s[k].toNat : Int)) := by
            by_cases h : k = 9
            · exact .inr ⟨by rw [h]; rfl, h9 h⟩
            · exact .inl (beq_eq_false_iff_ne.2 (by omega))
          clear h9
          by_cases c0 : c = 0
          · have z0 := hsk c0
            clear hsk hsk2
            by_cases k0 : 0 < k
            · have F := Lib.hid (show tk s.data.toList = (0, 0, 21) by rw [E0.out, if_pos ⟨c0, k0⟩])
              have k1 : (1 : Int) < (k : Int) + 1 := by omega
              rcases hk with hk | ⟨hk, h1⟩
              · go_wp2_with fail
                try rw [Exit.noGoto_ret]
                go_ret3
                rw [F.out]
                exact ⟨rfl, rfl⟩
              · go_wp2_with fail
                try rw [Exit.noGoto_ret]
                go_ret3
                rw [F.out]
                exact ⟨rfl, rfl⟩
            · have F := Lib.hid (show tk s.data.toList = (backN V, k + 1, 0) by rw [E0.out, if_neg (fun h => k0 h.2)])
              have k1 : ¬ (1 : Int) < (k : Int) + 1 := by omega
              rcases hk with hk | ⟨hk, h1⟩
              · go_wp2_with fail
                (with_reducible refine (back_any V hV1 _).mono ?_)
                rintro e w' ⟨rfl, rfl⟩
                go_wp2_with fail
                try rw [Exit.noGoto_ret]
                go_ret3
                rw [F.out]
                exact ⟨rfl, rfl⟩
              · go_wp2_with fail
                (with_reducible refine (back_any V hV1 _).mono ?_)
                rintro e w' ⟨rfl, rfl⟩
                go_wp2_with fail
                try rw [Exit.noGoto_ret]
                go_ret3
                rw [F.out]
                exact ⟨rfl, rfl⟩
          · have z0 := hsk2 c0
            have F := Lib.hid (show tk s.data.toList = (backN V, k + 1, 0) by rw [E0.out, if_neg (fun h => c0 h.1)])
            clear hsk hsk2
            rcases hk with hk | ⟨hk, h1⟩
            · go_wp2_with fail
              (with_reducible refine (back_any V hV1 _).mono ?_)
              rintro e w' ⟨rfl, rfl⟩
              go_wp2_with fail
              try rw [Exit.noGoto_ret]
              go_ret3
              rw [F.out]
              exact ⟨rfl, rfl⟩
            · go_wp2_with fail
              (with_reducible refine (back_any V hV1 _).mono ?_)
              rintro e w' ⟨rfl, rfl⟩
              go_wp2_with fail
              try rw [Exit.noGoto_ret]
              go_ret3
              rw [F.out]
              exact ⟨rfl, rfl⟩
    · go_wp2_with fail
      try rw [Exit.noGoto_ret]
      go_ret3
      have e := HT.out.1
      rw [List.drop_eq_nil_of_le (by simpa using hlt)] at e
      rw [e]
      exact ⟨rfl, rfl⟩
end Go.Proofs.Ytaalpijohdlabaa
