/-
  The machine's regions tell the truth: one operation; a region whose order is not drawn.
-/
import Derived.Test.YtcfncbnloaiifaaGreatDoorEng10
import Derived.Scope
import Derived.LoopN
namespace Go.Proofs.YtcfncbnloaiifaaGreatDoor
namespace Eng
open Go Go.RowKit
section
variable {P : Program} {g : Nat} {w0 : World} {ρ : Ren} {h : Hp} {nx : Nat} {w : World} {N : Nat} {env : Env} {a : Act}
/-- What one operation came to. -/
def One (P : Program) (g : Nat) (w0 : World) (ρ : Ren) (nx : Nat) (a : Act) (w : World) (o : Oper) (k : KF) : Prop :=
  ∀ (K : Act → World → Prop) (Q : Exit → Act → World → Prop), (∀ r x ρ' h' nx' w' ids, k r h' nx' ids = true → Ext nx nx' ρ ρ' → HR P g w0 ρ' h' nx' w' → GR ρ' r x → K (a.put o.dst x) w') → o.wp P a w K Q
theorem oneK_ok {orc : Orc} {ih : Run} (hO : OSnd P g w0 orc) (hI : Snd P g w0 ih) (H : HR P g w0 ρ h nx w) (hF : Fr ρ N env a) {o : Oper} {k : KF} (hk : oneK P g orc ih o env h nx k = true) : One P g w0 ρ nx a w o k := by
  intro K Q hK
  unfold oneK at hk
  have fl : opF P g o.op env h nx k = true → o.wp P a w K Q := fun hk => by
    obtain ⟨r, x, ρ', h', nx', ids, h1, h2, h3, h4, _, h5, h6⟩ := opF_ok H hF hk
    have hrun := h6 w fun id hid o ho => H.objs id o ho (h4 id hid)
    unfold Oper.wp
    rw [hrun, Oper.upon_value]
    exact hK r x ρ' h' nx' w ids h1 h2 (h5 w H) h3
  have ld : opL P g orc ih o.op env h nx (fun r h nx => k r h nx []) = true → o.wp P a w K Q := fun hk =>
    opL_ok hO hI H hF hk fun r x ρ' h' nx' w' h1 h2 h3 h4 => hK r x ρ' h' nx' w' [] h1 h2 h3 h4
  generalize (Bool.casesOn (isCvb P o.op) (floats o.op) false : Bool) = b at hk
  cases b with
  | true => exact fl hk
  | false => exact ld hk
theorem opsK_ok {orc : Orc} {ih : Run} (hO : OSnd P g w0 orc) (hI : Snd P g w0 ih) {ops : Array Oper} {Q : Exit → Act → World → Prop} {k : Env → Hp → Nat → Bool} : ∀ (l : List Oper) {ρ : Ren} {h : Hp} {nx : Nat} {w : World} {env : Env} {a : Act},
    HR P g w0 ρ h nx w → Fr ρ N env a → opsK P g orc ih ops.toList N l env h nx k = true →
    (∀ env' h' nx' ρ' a' w', k env' h' nx' = true → Ext nx nx' ρ ρ' → HR P g w0 ρ' h' nx' w' → Fr ρ' N env' a' → Q .normal a' w') → wpList P ops Q l a w
  | [], ρ, h, nx, w, env, a, H, hF, hk, hQ => hQ env h nx ρ a w hk (Ext.refl _ _) H hF
  | o :: l, ρ, h, nx, w, env, a, H, hF, hk, hQ => by
    have hk := guardK_ok (ops := ops) hF hk
    unfold wpList
    cases hw : Region.wanted o (yielded ops a.tmps) with
    | false =>
      rw [hw] at hk
      obtain ⟨env', hk, hF'⟩ := putK_ok hF GR.undef hk
      simp only [Bool.false_eq_true, if_false]
      exact opsK_ok hO hI l H hF' hk hQ
    | true =>
      rw [hw] at hk
      simp only [if_true]
      refine .inl (oneK_ok hO hI H hF hk _ _ fun r x ρ' h' nx' w' ids hk' hE H' hx => ?_)
      obtain ⟨env', hk', hF'⟩ := putK_ok (hF.mono hE.le) hx hk'
      exact opsK_ok hO hI l H' hF' hk' fun env'' h'' nx'' ρ'' a' w' h1 h2 h3 h4 => hQ env'' h'' nx'' ρ'' a' w' h1 (hE.trans h2) h3 h4
/-! ### codes -/
/-- The regions whose order is drawn tell the truth. -/
def DSnd (P : Program) (g : Nat) (w0 : World) (orc : Orc) : Prop := ∀ (ih : Run), Snd P g w0 ih → ∀ id ops N env h nx (k : Env → Hp → Nat → Bool), drawK P g orc ih ops N env h nx k = true → ∀ ρ a w, HR P g w0 ρ h nx w → Fr ρ N env a → ∀ Q : Exit → Act → World → Prop,
  (∀ env' h' nx' ρ' a' w', k env' h' nx' = true → Ext nx nx' ρ ρ' → HR P g w0 ρ' h' nx' w' → Fr ρ' N env' a' → Q .normal a' w') → (Code.region id ops true).wp P Q a w
theorem exec_succ (orc : Orc) (n : Nat) : exec P g orc (n + 1) = execF P g orc (exec P g orc n) := rfl
theorem execF_ok {orc : Orc} (hO : OSnd P g w0 orc) (hD : DSnd P g w0 orc) {ih : Run} (hI : Snd P g w0 ih) {c : Code} (hl : ∀ b, c ≠ .loop b) {k : KX} (hk : execF P g orc ih c N env h nx k = true) (H : HR P g w0 ρ h nx w) (hF : Fr ρ N env a) {Q : Exit → Act → World → Prop}
    (hQ : ∀ e env' h' nx' ρ' a' w', k e env' h' nx' = true → Ext nx nx' ρ ρ' → HR P g w0 ρ' h' nx' w' → Fr ρ' N env' a' → Q e.to a' w') : c.wp P Q a w := by
  cases c with
  | skip => exact wp_skip (hQ .normal env h nx ρ a w hk (Ext.refl _ _) H hF)
  | label => exact wp_label (hQ .normal env h nx ρ a w hk (Ext.refl _ _) H hF)
  | exit id => exact wp_exit (hQ (.exit id) env h nx ρ a w hk (Ext.refl _ _) H hF)
  | ret => exact wp_ret (hQ .ret env h nx ρ a w hk (Ext.refl _ _) H hF)
  | loop b => exact absurd rfl (hl b)
  | region id ops draw =>
    cases draw with
    | false =>
      simp only [execF, regionK] at hk
      cases hs : selOf ops with
      | none => rw [hs] at hk; exact wp_region_list (opsK_ok hO hI ops.toList H hF hk fun env' h' nx' ρ' a' w' h1 h2 h3 h4 => hQ .normal env' h' nx' ρ' a' w' h1 h2 h3 h4)
      | some s =>
        rw [hs] at hk
        unfold selOf at hs
        split at hs
        case h_2 => cases hs
        rename_i o rest ho
        split at hs
        case h_2 => cases hs
        rename_i cases hop
        split at hs
        case h_2 => cases hs
        rename_i hgd
        cases hs
        refine selK_ok H hF ho hop hgd hk fun r x h' w' h1 h2 h3 => ?_
        obtain ⟨env', h1, h4⟩ := putK_ok hF h3 h1
        exact opsK_ok hO hI rest h2 h4 h1 fun env' h' nx' ρ' a' w' h1 h2 h3 h4 => hQ .normal env' h' nx' ρ' a' w' h1 h2 h3 h4
    | true => exact hD ih hI id ops N env h nx _ hk ρ a w H hF Q fun env' h' nx' ρ' a' w' h1 h2 h3 h4 => hQ .normal env' h' nx' ρ' a' w' h1 h2 h3 h4
  | seq x y =>
    refine wp_seq (hI _ _ _ _ _ _ hk ρ a w H hF _ fun e env' h' nx' ρ' a' w' hk' hE H' hF' => ?_)
    cases e with
    | normal => exact hI _ _ _ _ _ _ hk' ρ' a' w' H' hF' _ fun e env'' h'' nx'' ρ'' a'' w'' h1 h2 h3 h4 => hQ e env'' h'' nx'' ρ'' a'' w'' h1 (hE.trans h2) h3 h4
    | exit i => exact hQ (.exit i) env' h' nx' ρ' a' w' hk' hE H' hF'
    | goto i => exact hQ (.goto i) env' h' nx' ρ' a' w' hk' hE H' hF'
    | ret => exact hQ .ret env' h' nx' ρ' a' w' hk' hE H' hF'
  | cond c x y =>
    obtain ⟨r, hk, hr⟩ := evK_ok H.glob hF.er hk
    split at hk
    · rename_i b
      have hc : a.eval c = .bool b := by
        generalize a.eval c = X at hr
        cases hr with
        | c hr => cases hr; rfl
      refine wp_cond hc ?_
      cases b with
      | false => exact hI _ _ _ _ _ _ hk ρ a w H hF _ hQ
      | true => exact hI _ _ _ _ _ _ hk ρ a w H hF _ hQ
    · cases hk
  | block id c =>
    refine wp_block (hI _ _ _ _ _ _ hk ρ a w H hF _ fun e env' h' nx' ρ' a' w' hk' hE H' hF' => ?_)
    cases e with
    | normal => exact hQ .normal env' h' nx' ρ' a' w' hk' hE H' hF'
    | exit i =>
      simp only [Ex.to, Exit.inBlock]
      dsimp only at hk'
      cases hb : Nat.beq i id with
      | true =>
        rw [hb] at hk'
        rw [if_pos (nateq hb)]
        exact hQ .normal env' h' nx' ρ' a' w' hk' hE H' hF'
      | false =>
        rw [hb] at hk'
        rw [if_neg (natne hb)]
        exact hQ (.exit i) env' h' nx' ρ' a' w' hk' hE H' hF'
    | goto i => exact hQ (.goto i) env' h' nx' ρ' a' w' hk' hE H' hF'
    | ret => exact hQ .ret env' h' nx' ρ' a' w' hk' hE H' hF'
  | scope c =>
    refine wp_scope_straight (hI _ _ _ _ _ _ hk ρ a w H hF _ fun e env' h' nx' ρ' a' w' hk' hE H' hF' => ?_)
    cases e with
    | normal => exact hQ .normal env' h' nx' ρ' a' w' hk' hE H' hF'
    | exit i => exact hQ (.exit i) env' h' nx' ρ' a' w' hk' hE H' hF'
    | goto i => cases hk'
    | ret => exact hQ .ret env' h' nx' ρ' a' w' hk' hE H' hF'
  | _ => cases hk
theorem loop_ok {orc : Orc} : ∀ (n : Nat), (∀ m, m < n → Snd P g w0 (exec P g orc m)) → ∀ {c : Code} {N : Nat} {env : Env} {h : Hp} {nx : Nat} {k : KX}, exec P g orc n (.loop c) N env h nx k = true → ∀ {ρ : Ren} {a : Act} {w : World}, HR P g w0 ρ h nx w → Fr ρ N env a → ∀ {Q : Exit → Act → World → Prop},
    (∀ e env' h' nx' ρ' a' w', k e env' h' nx' = true → Ext nx nx' ρ ρ' → HR P g w0 ρ' h' nx' w' → Fr ρ' N env' a' → Q e.to a' w') → Code.rounds P c Q n a w
  | 0, _, _, _, _, _, _, _, hk, _, _, _, _, _, _, _ => by cases hk
  | n + 1, hI, c, N, env, h, nx, k, hk, ρ, a, w, H, hF, Q, hQ => by
    rw [rounds_succ]
    rw [exec_succ] at hk
    refine hI n (Nat.lt_succ_self n) _ _ _ _ _ _ hk ρ a w H hF _ fun e env' h' nx' ρ' a' w' hk' hE H' hF' => ?_
    cases e with
    | normal => exact loop_ok n (fun m hm => hI m (Nat.lt_succ_of_lt hm)) hk' H' hF' fun e env'' h'' nx'' ρ'' a'' w'' h1 h2 h3 h4 => hQ e env'' h'' nx'' ρ'' a'' w'' h1 (hE.trans h2) h3 h4
    | exit i => exact hQ (.exit i) env' h' nx' ρ' a' w' hk' hE H' hF'
    | goto i => exact hQ (.goto i) env' h' nx' ρ' a' w' hk' hE H' hF'
    | ret => exact hQ .ret env' h' nx' ρ' a' w' hk' hE H' hF'
theorem exec_ok {orc : Orc} (hO : OSnd P g w0 orc) (hD : DSnd P g w0 orc) : ∀ n, ∀ m, m ≤ n → Snd P g w0 (exec P g orc m) := by
  intro n
  induction n with
  | zero =>
    intro m hm
    obtain rfl : m = 0 := by omega
    intro c N env h nx k hk
    cases hk
  | succ n ih =>
    intro m hm
    by_cases hmn : m ≤ n
    · exact ih m hmn
    obtain rfl : m = n + 1 := by omega
    intro c N env h nx k hk ρ a w H hF Q hQ
    by_cases hl : ∃ b, c = .loop b
    · obtain ⟨b, rfl⟩ := hl
      exact wp_loop_rounds (n + 1) (loop_ok (n + 1) (fun m hm => ih m (by omega)) hk H hF hQ)
    · rw [exec_succ] at hk
      exact execF_ok hO hD (ih n (Nat.le_refl _)) (fun b e => hl ⟨b, e⟩) hk H hF hQ
end
end Eng
end Go.Proofs.YtcfncbnloaiifaaGreatDoor
