/-
  The machine's regions tell the truth: one operation; a region whose order is not drawn.
-/
import Derived.Test.YtmcoaebldobapaaGreatDoorD28
import Derived.Scope
import Derived.LoopN
set_option linter.unusedVariables false
set_option linter.unusedSimpArgs false
namespace Go.Proofs.YtmcoaebldobapaaGreatDoor
namespace Eng
open Go Go.RowKit
section
variable {P : Program} {g : Nat} {w0 : World} {ρ : Ren} {h : Hp} {nx : Nat} {w : World} {N : Nat} {env : Env} {a : Act} {D : List Deferred}
/-- What one operation came to. -/
def One (P : Program) (g : Nat) (w0 : World) (ρ : Ren) (nx : Nat) (a : Act) (w : World) (o : Oper) (k : KF) : Prop :=
  ∀ (K : Act → World → Prop) (Q : Exit → Act → World → Prop), (∀ r x ρ' h' nx' w' ids, k r h' nx' ids = true → Ext nx nx' ρ ρ' → HR P g w0 ρ' h' nx' w' → GR ρ' r x → K (a.put o.dst x) w') → o.wp P a w K Q
theorem oneK_ok {orc : Orc} {ih : Run} (hO : OSnd P g w0 orc) (hI : Snd P g w0 ih) (H : HR P g w0 ρ h nx w) (hF : Fr D ρ N env a) {o : Oper} {k : KF} (hk : oneK P g orc ih o env h nx k = true) : One P g w0 ρ nx a w o k := by
  intro K Q hK
  unfold oneK at hk
  have fl : opF P g o.op env h nx k = true → o.wp P a w K Q := fun hk => by
    obtain ⟨r, x, ρ', h', nx', ids, h1, h2, h3, h4, _, h5, h6⟩ := opF_ok H hF hk
    have hrun := h6 w fun id hid o ho => H.objs id o ho (h4 id hid)
    unfold Oper.wp
    rw [hrun, Oper.upon_value]
    exact hK r x ρ' h' nx' w ids h1 h2 (h5 w H) h3
  have ld : opL P g orc ih o.op env h nx (fun r h nx => k r h nx []) = true → o.wp P a w K Q := fun hk =>
    opL_ok hO hI H hF hk fun r x ρ' h' nx' w' h1 h2 h3 h4 => hK r x ρ' h' nx' w' [] h1 h2 h3 h4
  generalize (Bool.casesOn (isCvb P o.op) (floats o.op) false : Bool) = b at hk
  cases b with
  | true => exact fl hk
  | false => exact ld hk
theorem oneK_nd {orc : Orc} {ih : Run} {o : Oper} {k : KF} (hk : oneK P g orc ih o env h nx k = true) : ∀ c, o.op ≠ .defer c := fun c e => by
  unfold oneK at hk
  rw [e] at hk
  cases hk
theorem parK_ok : ∀ {l : List (Tmp × AV)} {zs : List (Tmp × Value)} {t : Array Value} {env : Env} {k : Env → Bool}, F2 (fun a b => a.1 = b.1 ∧ GA ρ a.2 b.2) l zs → parK N l env k = true → ER ρ env t → t.size = N →
    ∃ env', k env' = true ∧ Fr [] ρ N env' { tmps := zs.foldl (fun t p => t.setIfInBounds p.1 p.2) t, defers := [] }
  | [], _, t, env, k, .nil, hk, he, hs => ⟨env, hk, he, hs, rfl⟩
  | (i, v) :: l, (j, x) :: zs, t, env, k, .cons ⟨hij, hv⟩ hz, hk, he, hs => by
    obtain ⟨hi, hk⟩ := iff_ok hk
    have hi : i < N := natle hi
    obtain ⟨env1, hk, hh⟩ := Tr.setK_ok hk
    cases hij
    have he1 : ER ρ env1 (t.setIfInBounds i x) := fun m r hr => by
      rw [hh] at hr
      split at hr
      · rename_i e
        cases hr; subst e
        exact ⟨x, by simp [hs, hi], hv.rv⟩
      · rename_i hne
        obtain ⟨y, h1, h2⟩ := he m r hr
        exact ⟨y, by rw [Array.getElem?_setIfInBounds_ne (Ne.symm hne)]; exact h1, h2⟩
    exact parK_ok (zs := zs) (t := t.setIfInBounds i x) hz hk he1 (by simp [hs])
theorem f2_zip {ps : List Tmp} {vs : List AV} {xs : List Value} (h : F2 (GA ρ) vs xs) : F2 (fun a b => a.1 = b.1 ∧ GA ρ a.2 b.2) (ps.zip vs) (ps.zip xs) := by
  induction h generalizing ps with
  | nil => cases ps <;> exact .nil
  | cons a _ ih => cases ps with
    | nil => exact .nil
    | cons p ps => exact .cons ⟨rfl, a⟩ ih
/-- A round. -/
theorem yldK_ok {ro : Option Nat} {ih : Run} (hI : Snd P g w0 ih) (H : HR P g w0 ρ h nx w) (hF : Fr D ρ N env a) {o : Oper} {id : Nat} {args : List Operand} (hy : isYld o env = some (id, args)) {k : KV} (hk : yldK g ih id args env h nx k = true) {K : Act → World → Prop} {Q : Exit → Act → World → Prop}
    (hK : ∀ r x ρ' h' nx' w', k r h' nx' = true → Ext nx nx' ρ ρ' → HR P g w0 ρ' h' nx' w' → GR ρ' r x → K (a.put o.dst x) w') : o.wpIn (W ro) 0 P a w K Q := by
  obtain ⟨dst, op, type, pos, after, guard⟩ := o
  unfold isYld at hy
  split at hy
  case h_2 => cases hy
  rename_i c hop
  dsimp only at hop
  subst hop
  split at hy
  case h_2 => cases hy
  rename_i t hc
  split at hy
  case h_2 => cases hy
  rename_i id' het
  cases hy
  obtain ⟨callee, cargs, argTypes⟩ := c
  dsimp only at hc
  subst hc
  unfold yldK at hk
  obtain ⟨vs, hk, hvs⟩ := evsK_ok H hF hk
  obtain ⟨hgi, hk⟩ := iff_ok hk
  have hgi := natle hgi
  obtain ⟨ob, hob, hk⟩ := optK_ok hk
  split at hk
  case h_2 => cases hk
  rename_i N0 env0 ps as bd
  obtain ⟨hlen, hk⟩ := iff_ok hk
  have hlen := nateq hlen
  rw [llen_eq, llen_eq] at hlen
  rw [fL_eq] at hk
  obtain ⟨b, base, cap, hrb, hval⟩ : ∃ b base cap, ρ id = some (.blk b base cap) ∧ a.eval (.tmp t) = .func (.yield b) #[] #[] := by
    obtain ⟨x, h1, h2⟩ := hF.er t _ het
    have e : a.eval (.tmp t) = x := by simp [Act.eval, Array.getD_eq_getD_getElem?, h1]
    cases h2 with
    | c h2 => cases h2 with
      | yld hr => exact ⟨_, _, _, hr, e⟩
  cases H.ob hob hrb with
  | @loop _ b' _ _ _ _ _ _ _ r hr' hh hn he hp ha hd hs hq =>
    rw [hrb] at hr'; cases hr'
    have hget := run_getObj (P := P) hh (fun _ _ _ => by simp)
    have hsz : (cargs.map a.eval).size = r.params.size := by
      have h1 := f2_len hvs
      have h2 : ps.length = r.params.size := by rw [← hp]; simp
      simp at h1
      simp
      omega
    have hrun : ((({ dst, op := .call { callee := .value (.tmp t), args := cargs, argTypes }, type, pos, after, guard } : Oper).semAt (W ro).round a.eval).run P w) = .ok (.round b r.fn ((r.params.zip (cargs.map a.eval)).foldl (fun tmps (t, a) => tmps.setIfInBounds t a) r.tmps) r.assign r.body) w := by
      have e0 : (({ dst, op := .call { callee := .value (.tmp t), args := cargs, argTypes }, type, pos, after, guard } : Oper).semAt (W ro).round a.eval) = execOp a.eval { dst, op := .call { callee := .value (.tmp t), args := cargs, argTypes }, type, pos, after, guard } := by
        cases ro with
        | none => rfl
        | some l => exact Oper.semAt_some l _ _ (fun c e => by cases e)
      rw [e0]
      simp [execOp, resolve, hval, Deferred.ofValue, invoke, Instr.yield, Instr.getLoop, hget, hsz]
    have hzs : F2 (fun a b => a.1 = b.1 ∧ GA ρ a.2 b.2) (ps.zip vs) (r.params.zip (cargs.map a.eval)).toList := by
      have := f2_zip (ps := ps) hvs
      rw [← hp] at this ⊢
      simpa using this
    obtain ⟨env1, hk, hF1⟩ := parK_ok (t := r.tmps) hzs hk he hn
    rw [Array.foldl_toList] at hF1
    refine ⟨fun _ _ => trivial, ?_⟩
    rw [hrun]
    refine ⟨fun h => by simp [W, Fence.wide] at h, roundIn_of_wpIn trivial ?_⟩
    subst ha hd
    refine hI _ _ _ _ _ _ hk (ro := some b) ρ _ w H hF1 _ fun e env2 h2 nx2 ρ2 a2 w2 hk hE2 H2 hF2 => ?_
    cases e <;> try (cases hk; done)
    dsimp only at hk
    obtain ⟨ob2, hob2, hk⟩ := optK_ok hk
    split at hk
    case h_2 => cases hk
    have hrb2 : ρ2 id = some (.blk b 0 0) := hE2.le _ _ hrb
    replace hk := Tr.setK_ok hk
    obtain ⟨h3, hk, hh3⟩ := hk
    cases H2.ob hob2 hrb2 with
    | @loop _ b2 _ _ _ _ _ _ _ r2 hr2' hhb2 hn2 he2 hp2 ha2 hd2 hs2 hq2 =>
      rw [hrb2] at hr2'; cases hr2'
      have hget2 := run_getObj (P := P) hhb2 (fun _ _ _ => by simp)
      have hs2 : r2.state = .ready := hs2
      have H3 := H2.setO (x := .loop { r2 with state := .busy }) hob2 hgi ⟨_, _, hrb2⟩ (fun w' hw' => .loop (r := { r2 with state := .busy }) hrb2 hw' hn2 he2 hp2 ha2 hd2 rfl hq2) hh3
      refine ⟨_, ?_, hI _ _ _ _ _ _ hk (ro := some b) ρ2 a2 _ H3 hF2 _ fun e env4 h4 nx4 ρ4 a4 w4 hk hE4 H4 hF4 => ?_⟩
      · simp only [Instr.beginRound, Instr.getLoop, Sem.run_bind, hget2, Result.andThen_ok, Sem.run_pure, run_setO hhb2 (fun _ _ _ => by simp), hs2]
      · obtain ⟨ob4, hob4, hk⟩ := optK_ok hk
        split at hk
        case h_2 => cases hk
        have hrb4 : ρ4 id = some (.blk b 0 0) := hE4.le _ _ hrb2
        cases H4.ob hob4 hrb4 with
        | @loop _ b4 _ _ _ _ _ _ _ r4 hr4' hhb4 hn4 he4 hp4 ha4 hd4 hs4 hq4 =>
          rw [hrb4] at hr4'; cases hr4'
          have hget4 := run_getObj (P := P) hhb4 (fun _ _ _ => by simp)
          have hE := hE2.trans hE4
          have fin : ∀ (j : Option (Option Nat)) (v : Bool), v = j.isNone → (h4.setK id (some (.loop _ _ _ _ _ false j)) fun h => k (.c (.bool v)) h nx4) = true → ∃ x w', (Instr.endRound b (j.map pendC)).run P w4 = .ok x w' ∧ K (a.put dst x) w' := fun j v hv hk => by
            replace hk := Tr.setK_ok hk
            obtain ⟨h5, hk, hh5⟩ := hk
            have H5 := H4.setO (x := .loop { r4 with state := if (j.map pendC).isNone then .ready else .done, pending := j.map pendC }) hob4 hgi ⟨_, _, hrb4⟩ (fun w' hw' => .loop (r := { r4 with state := if (j.map pendC).isNone then .ready else .done, pending := j.map pendC }) hrb4 hw' hn4 he4 hp4 ha4 hd4 (by cases j <;> rfl) rfl) hh5
            refine ⟨.bool v, _, ?_, hK _ _ ρ4 h5 nx4 _ hk hE H5 (.c (.bool _))⟩
            simp only [Instr.endRound, Instr.getLoop, Sem.run_bind, hget4, Result.andThen_ok, Sem.run_pure, run_setO hhb4 (fun _ _ _ => by simp)]
            rw [hv]
            cases j <;> rfl
          cases e with
          | normal => exact fin none true rfl hk
          | ret => exact fin (some none) false rfl hk
          | exit i => exact fin (some (some i)) false rfl hk
          | goto => cases hk
theorem opsK_ok {ro : Option Nat} {orc : Orc} {ih : Run} (hO : OSnd P g w0 orc) (hI : Snd P g w0 ih) {ops : Array Oper} {Q : Exit → Act → World → Prop} {k : Env → Hp → Nat → Bool} : ∀ (l : List Oper) {ρ : Ren} {h : Hp} {nx : Nat} {w : World} {env : Env} {a : Act},
    HR P g w0 ρ h nx w → Fr D ρ N env a → opsK P g orc ih ops.toList N l env h nx k = true →
    (∀ env' h' nx' ρ' a' w', k env' h' nx' = true → Ext nx nx' ρ ρ' → HR P g w0 ρ' h' nx' w' → Fr D ρ' N env' a' → Q .normal a' w') → wpListIn (W ro) 0 P ops Q l a w
  | [], ρ, h, nx, w, env, a, H, hF, hk, hQ => hQ env h nx ρ a w hk (Ext.refl _ _) H hF
  | o :: l, ρ, h, nx, w, env, a, H, hF, hk, hQ => by
    have hk := guardK_ok (ops := ops) hF hk
    unfold wpListIn
    cases hw : Region.wanted o (yielded ops a.tmps) with
    | false =>
      rw [hw] at hk
      obtain ⟨env', hk, hF'⟩ := putK_ok hF GR.undef hk
      simp only [Bool.false_eq_true, if_false]
      exact ⟨fun _ _ => trivial, opsK_ok hO hI l H hF' hk hQ⟩
    | true =>
      rw [hw] at hk
      simp only [if_true]
      dsimp only at hk
      have on : ∀ r x ρ' h' nx' w', (putK N env o.dst r fun env => opsK P g orc ih ops.toList N l env h' nx' k) = true → Ext nx nx' ρ ρ' → HR P g w0 ρ' h' nx' w' → GR ρ' r x → wpListIn (W ro) 0 P ops Q l (a.put o.dst x) w' := fun r x ρ' h' nx' w' hk' hE H' hx => by
        obtain ⟨env', hk', hF'⟩ := putK_ok (hF.mono hE.le) hx hk'
        exact opsK_ok hO hI l H' hF' hk' fun env'' h'' nx'' ρ'' a' w' h1 h2 h3 h4 => hQ env'' h'' nx'' ρ'' a' w' h1 (hE.trans h2) h3 h4
      split at hk
      · rename_i p hy
        exact yldK_ok hI H hF (args := p.2) (id := p.1) hy hk on
      · exact operIn (oneK_nd hk) (oneK_ok hO hI H hF hk _ _ fun r x ρ' h' nx' w' ids hk' hE H' hx => on r x ρ' h' nx' w' hk' hE H' hx)
theorem wpIn_scope_straight {ro : Option Nat} {P : Program} {Q : Exit → Act → World → Prop} {a : Act} {w : World} {c : Code} (h : c.wpIn (W ro) 0 P (Exit.noGoto Q) a w) : (Code.scope c).wpIn (W ro) 0 P Q a w := by
  intro b k cs hro hb hr
  have s1 : step P (lone (b.atR a (.code (.scope c) :: k)) cs w) = .next (lone (b.atR a (.code c :: .inScope c :: k)) cs w) := step_lone_go (by simp [stepG, stepG.exec, Frame.atR])
  have s2 : ∀ a w, step P (lone (b.atR a (.inScope c :: k)) cs w) = .next (lone (b.atR a k) cs w) := fun a w => step_lone_go (by simp [stepG, stepG.exec, Frame.atR])
  obtain ⟨e, a₁, w₁, hq, harr⟩ := h b (.inScope c :: k) cs hro hb hr
  have harr := ArrivesIn.of_steps (.one (fen_W _) s1) harr
  cases e with
  | normal => exact ⟨.normal, a₁, w₁, hq, StepsIn.trans harr (.one (fen_W _) (s2 _ _))⟩
  | exit id => exact ⟨.exit id, a₁, w₁, hq, fun k' hk => harr.1 k' (by simp [exitTo, hk]), fun h1 h2 => harr.2 h1 (by simp [exitTo, h2])⟩
  | goto l => exact hq.elim
  | ret => exact ⟨_, a₁, w₁, hq, harr⟩
  | panic ch => exact ⟨_, a₁, w₁, hq, harr⟩
  | outgrown => exact ⟨_, a₁, w₁, hq, harr⟩
/-! ### codes -/
/-- The regions whose order is drawn tell the truth. -/
def DSnd (P : Program) (g : Nat) (w0 : World) (orc : Orc) : Prop := ∀ (ih : Run), Snd P g w0 ih → ∀ id ops N env h nx (k : Env → Hp → Nat → Bool), drawK P g orc ih ops N env h nx k = true → ∀ {ro : Option Nat} {D : List Deferred} (ρ : Ren) (a : Act) (w : World), HR P g w0 ρ h nx w → Fr D ρ N env a → ∀ Q : Exit → Act → World → Prop,
  (∀ env' h' nx' ρ' a' w', k env' h' nx' = true → Ext nx nx' ρ ρ' → HR P g w0 ρ' h' nx' w' → Fr D ρ' N env' a' → Q .normal a' w') → (Code.region id ops true).wpIn (W ro) 0 P Q a w
theorem exec_succ (orc : Orc) (n : Nat) : exec P g orc (n + 1) = execF P g orc (exec P g orc n) := rfl
theorem execF_ok {ro : Option Nat} {orc : Orc} (hO : OSnd P g w0 orc) (hD : DSnd P g w0 orc) {ih : Run} (hI : Snd P g w0 ih) {c : Code} (hl : ∀ b, c ≠ .loop b) {k : KX} (hk : execF P g orc ih c N env h nx k = true) (H : HR P g w0 ρ h nx w) (hF : Fr D ρ N env a) {Q : Exit → Act → World → Prop}
    (hQ : ∀ e env' h' nx' ρ' a' w', k e env' h' nx' = true → Ext nx nx' ρ ρ' → HR P g w0 ρ' h' nx' w' → Fr D ρ' N env' a' → Q e.to a' w') : c.wpIn (W ro) 0 P Q a w := by
  cases c with
  | skip => exact wpIn_skip (hQ .normal env h nx ρ a w hk (Ext.refl _ _) H hF)
  | label => exact wpIn_label (hQ .normal env h nx ρ a w hk (Ext.refl _ _) H hF)
  | exit id => exact wpIn_exit (hQ (.exit id) env h nx ρ a w hk (Ext.refl _ _) H hF)
  | ret => exact wpIn_ret (hQ .ret env h nx ρ a w hk (Ext.refl _ _) H hF)
  | loop b => exact absurd rfl (hl b)
  | region id ops draw =>
    cases draw with
    | false =>
      simp only [execF, regionK] at hk
      cases hs : selOf ops with
      | none => rw [hs] at hk; exact wpIn_region_list (opsK_ok hO hI ops.toList H hF hk fun env' h' nx' ρ' a' w' h1 h2 h3 h4 => hQ .normal env' h' nx' ρ' a' w' h1 h2 h3 h4)
      | some s =>
        rw [hs] at hk
        unfold selOf at hs
        split at hs
        case h_2 => cases hs
        rename_i o rest ho
        split at hs
        case h_2 => cases hs
        rename_i cases hop
        split at hs
        case h_2 => cases hs
        rename_i hgd
        cases hs
        refine selK_ok (ro := ro) H hF ho hop hgd hk fun r x h' w' h1 h2 h3 => ?_
        obtain ⟨env', h1, h4⟩ := putK_ok hF h3 h1
        exact opsK_ok hO hI rest h2 h4 h1 fun env' h' nx' ρ' a' w' h1 h2 h3 h4 => hQ .normal env' h' nx' ρ' a' w' h1 h2 h3 h4
    | true => exact hD ih hI id ops N env h nx _ hk ρ a w H hF Q fun env' h' nx' ρ' a' w' h1 h2 h3 h4 => hQ .normal env' h' nx' ρ' a' w' h1 h2 h3 h4
  | seq x y =>
    refine wpIn_seq (hI _ _ _ _ _ _ hk ρ a w H hF _ fun e env' h' nx' ρ' a' w' hk' hE H' hF' => ?_)
    cases e with
    | normal => exact hI _ _ _ _ _ _ hk' ρ' a' w' H' hF' _ fun e env'' h'' nx'' ρ'' a'' w'' h1 h2 h3 h4 => hQ e env'' h'' nx'' ρ'' a'' w'' h1 (hE.trans h2) h3 h4
    | exit i => exact hQ (.exit i) env' h' nx' ρ' a' w' hk' hE H' hF'
    | goto i => exact hQ (.goto i) env' h' nx' ρ' a' w' hk' hE H' hF'
    | ret => exact hQ .ret env' h' nx' ρ' a' w' hk' hE H' hF'
  | cond c x y =>
    obtain ⟨r, hk, hr⟩ := evK_ok H.glob hF.er hk
    split at hk
    · rename_i b
      have hc : a.eval c = .bool b := by
        generalize a.eval c = X at hr
        cases hr with
        | c hr => cases hr; rfl
      refine wpIn_cond hc ?_
      cases b with
      | false => exact hI _ _ _ _ _ _ hk ρ a w H hF _ hQ
      | true => exact hI _ _ _ _ _ _ hk ρ a w H hF _ hQ
    · cases hk
  | block id c =>
    refine wpIn_block (hI _ _ _ _ _ _ hk ρ a w H hF _ fun e env' h' nx' ρ' a' w' hk' hE H' hF' => ?_)
    cases e with
    | normal => exact hQ .normal env' h' nx' ρ' a' w' hk' hE H' hF'
    | exit i =>
      simp only [Ex.to, Exit.inBlock]
      dsimp only at hk'
      cases hb : Nat.beq i id with
      | true =>
        rw [hb] at hk'
        rw [if_pos (nateq hb)]
        exact hQ .normal env' h' nx' ρ' a' w' hk' hE H' hF'
      | false =>
        rw [hb] at hk'
        rw [if_neg (natne hb)]
        exact hQ (.exit i) env' h' nx' ρ' a' w' hk' hE H' hF'
    | goto i => exact hQ (.goto i) env' h' nx' ρ' a' w' hk' hE H' hF'
    | ret => exact hQ .ret env' h' nx' ρ' a' w' hk' hE H' hF'
  | scope c =>
    refine wpIn_scope_straight (hI _ _ _ _ _ _ hk ρ a w H hF _ fun e env' h' nx' ρ' a' w' hk' hE H' hF' => ?_)
    cases e with
    | normal => exact hQ .normal env' h' nx' ρ' a' w' hk' hE H' hF'
    | exit i => exact hQ (.exit i) env' h' nx' ρ' a' w' hk' hE H' hF'
    | goto i => cases hk'
    | ret => exact hQ .ret env' h' nx' ρ' a' w' hk' hE H' hF'
  | _ => cases hk
theorem loop_ok {ro : Option Nat} {orc : Orc} : ∀ (n : Nat), (∀ m, m < n → Snd P g w0 (exec P g orc m)) → ∀ {c : Code} {N : Nat} {env : Env} {h : Hp} {nx : Nat} {k : KX}, exec P g orc n (.loop c) N env h nx k = true → ∀ {D : List Deferred} {ρ : Ren} {a : Act} {w : World}, HR P g w0 ρ h nx w → Fr D ρ N env a → ∀ {Q : Exit → Act → World → Prop},
    (∀ e env' h' nx' ρ' a' w', k e env' h' nx' = true → Ext nx nx' ρ ρ' → HR P g w0 ρ' h' nx' w' → Fr D ρ' N env' a' → Q e.to a' w') → Code.roundsIn (W ro) 0 P c Q n a w
  | 0, _, _, _, _, _, _, _, hk, _, _, _, _, _, _, _, _ => by cases hk
  | n + 1, hI, c, N, env, h, nx, k, hk, D, ρ, a, w, H, hF, Q, hQ => by
    rw [roundsIn_succ]
    rw [exec_succ] at hk
    refine hI n (Nat.lt_succ_self n) _ _ _ _ _ _ hk ρ a w H hF _ fun e env' h' nx' ρ' a' w' hk' hE H' hF' => ?_
    cases e with
    | normal => exact loop_ok n (fun m hm => hI m (Nat.lt_succ_of_lt hm)) hk' H' hF' fun e env'' h'' nx'' ρ'' a'' w'' h1 h2 h3 h4 => hQ e env'' h'' nx'' ρ'' a'' w'' h1 (hE.trans h2) h3 h4
    | exit i => exact hQ (.exit i) env' h' nx' ρ' a' w' hk' hE H' hF'
    | goto i => exact hQ (.goto i) env' h' nx' ρ' a' w' hk' hE H' hF'
    | ret => exact hQ .ret env' h' nx' ρ' a' w' hk' hE H' hF'
theorem exec_ok {orc : Orc} (hO : OSnd P g w0 orc) (hD : DSnd P g w0 orc) : ∀ n, ∀ m, m ≤ n → Snd P g w0 (exec P g orc m) := by
  intro n
  induction n with
  | zero =>
    intro m hm
    obtain rfl : m = 0 := by omega
    intro c N env h nx k hk
    cases hk
  | succ n ih =>
    intro m hm
    by_cases hmn : m ≤ n
    · exact ih m hmn
    obtain rfl : m = n + 1 := by omega
    intro c N env h nx k hk ro D ρ a w H hF Q hQ
    by_cases hl : ∃ b, c = .loop b
    · obtain ⟨b, rfl⟩ := hl
      exact wpIn_loop_rounds (n + 1) (loop_ok (n + 1) (fun m hm => ih m (by omega)) hk H hF hQ)
    · rw [exec_succ] at hk
      exact execF_ok hO hD (ih n (Nat.le_refl _)) (fun b e => hl ⟨b, e⟩) hk H hF hQ
end
end Eng
end Go.Proofs.YtmcoaebldobapaaGreatDoor
