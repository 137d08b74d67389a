/-
  The machine's regions and codes.
-/
import Derived.Test.YtmcoaebldobapaaGreatDoorD27
set_option linter.unusedVariables false
set_option linter.unusedSimpArgs false
namespace Go.Proofs.YtmcoaebldobapaaGreatDoor
namespace Eng
open Go Go.RowKit
deriving instance DecidableEq for CV
deriving instance DecidableEq for AV
deriving instance DecidableEq for ME
/-- The same, as far as it is told. -/
noncomputable def aoB (a b : AO) : Bool := match a, b with
  | .row c e m, .row c' e' m' => iff (decide (c = c')) (iff (Nat.beq e e') (decide (m = m')))
  | .ro c, .ro c' => decide (c = c')
  | .map es k, .map es' k' => iff (decide (es = es')) (Nat.beq k k')
  | .chan c b s r, .chan c' b' s' r' => iff (Nat.beq c c') (iff (decide (b = b')) (iff (Nat.beq s s') (Nat.beq r r')))
  | .sit s p, .sit s' p' => iff (decide (s = s')) (Nat.beq p p')
  | .mit m s l t, .mit m' s' l' t' => iff (Nat.beq m m') (iff (Nat.beq s s') (iff (decide (l = l')) (Nat.beq t t')))
  | .clo f x y, .clo f' x' y' => iff (Nat.beq f f') (iff (decide (x = x')) (decide (y = y')))
  | .ifc t v, .ifc t' v' => iff (Nat.beq t t') (decide (v = v'))
  | .dfr, .dfr => true
  | .any, .any => true
  | _, _ => false
theorem aoB_ok {a b : AO} (h : aoB a b = true) : a = b := by
  cases a <;> cases b <;> first | rfl | (cases h; done) | skip
  · obtain ⟨h1, h⟩ := iff_ok h; obtain ⟨h2, h3⟩ := iff_ok h
    rw [of_decide_eq_true h1, nateq h2, of_decide_eq_true h3]
  · rw [of_decide_eq_true h]
  · obtain ⟨h1, h2⟩ := iff_ok h
    rw [of_decide_eq_true h1, nateq h2]
  · obtain ⟨h1, h⟩ := iff_ok h; obtain ⟨h2, h⟩ := iff_ok h; obtain ⟨h3, h4⟩ := iff_ok h
    rw [nateq h1, of_decide_eq_true h2, nateq h3, nateq h4]
  · obtain ⟨h1, h2⟩ := iff_ok h
    rw [of_decide_eq_true h1, nateq h2]
  · obtain ⟨h1, h⟩ := iff_ok h; obtain ⟨h2, h⟩ := iff_ok h; obtain ⟨h3, h4⟩ := iff_ok h
    rw [nateq h1, nateq h2, of_decide_eq_true h3, nateq h4]
  · obtain ⟨h1, h⟩ := iff_ok h; obtain ⟨h2, h3⟩ := iff_ok h
    rw [nateq h1, of_decide_eq_true h2, of_decide_eq_true h3]
  · obtain ⟨h1, h2⟩ := iff_ok h
    rw [nateq h1, of_decide_eq_true h2]
noncomputable def rsB : List (Nat × AO) → List (Nat × AO) → Bool := fun l => List.rec (motive := fun _ => List (Nat × AO) → Bool) (fun m => match m with | [] => true | _ => false) (fun p _ ih m => match m with | q :: m => iff (Nat.beq p.1 q.1) (iff (aoB p.2 q.2) (ih m)) | [] => false) l
theorem rsB_ok : ∀ {l m : List (Nat × AO)}, rsB l m = true → l = m
  | [], [], _ => rfl
  | [], _ :: _, h => by cases h
  | _ :: _, [], h => by cases h
  | (i, a) :: l, (j, b) :: m, h => by
    obtain ⟨h1, h⟩ := iff_ok h
    obtain ⟨h2, h3⟩ := iff_ok h
    have h1 : i = j := nateq h1
    have h2 : a = b := aoB_ok h2
    rw [h1, h2, rsB_ok h3]
/-- The bytes of a string are laid anew: that floats not. -/
noncomputable def isCvb (P : Program) (op : Op) : Bool := match op with
  | .convert s d _ => (match undL P s with | some .string => (match undL P d with | some (.slice _) => true | _ => false) | _ => false)
  | _ => false
noncomputable def oneK (P : Program) (g : Nat) (orc : Orc) (ih : Run) (o : Oper) (env : Env) (h : Hp) (nx : Nat) (k : KF) : Bool :=
  Bool.casesOn (Bool.casesOn (isCvb P o.op) (floats o.op) false) (opL P g orc ih o.op env h nx fun r h nx => k r h nx []) (opF P g o.op env h nx k)
/-! ### a round of a range over a function -/
noncomputable def isYld (o : Oper) (env : Env) : Option (Nat × List Operand) := match o.op with
  | .call c => (match c.callee with | .value (.tmp t) => (match env.get t with | some (.c (.yld id)) => some (id, c.args.toList) | _ => none) | _ => none)
  | _ => none
noncomputable def parK (N : Nat) (l : List (Tmp × AV)) : Env → (Env → Bool) → Bool := List.rec (motive := fun _ => Env → (Env → Bool) → Bool) (fun env k => k env) (fun p _ ih env k => iff (Nat.ble (Nat.succ p.1) N) (env.setK p.1 (some p.2.rv) fun env => ih env k)) l
noncomputable def yldK (g : Nat) (ih : Run) (id : Nat) (args : List Operand) (env : Env) (h : Hp) (nx : Nat) (k : KV) : Bool :=
  evsK g env args fun l => iff (Nat.ble g id) (optK (h.get id) fun ob => (match ob with
    | .loop N env0 ps as bd false none => iff (Nat.beq (llen l) (llen ps)) (fL (ps.zip l) fun zs => parK N zs env0 fun env1 => ih as N env1 h nx fun e env2 h nx => (match e with
      | .normal => optK (h.get id) fun ob => (match ob with
        | .loop N1 env4 ps1 as1 bd1 false none => h.setK id (some (.loop N1 env4 ps1 as1 bd1 true none)) fun h => ih bd N env2 h nx fun e _ h nx => optK (h.get id) fun ob => (match ob with
          | .loop N2 env5 ps2 as2 bd2 true none => (match e with
            | .normal => h.setK id (some (.loop N2 env5 ps2 as2 bd2 false none)) fun h => k (.c (.bool true)) h nx
            | .ret => h.setK id (some (.loop N2 env5 ps2 as2 bd2 false (some none))) fun h => k (.c (.bool false)) h nx
            | .exit i => h.setK id (some (.loop N2 env5 ps2 as2 bd2 false (some (some i)))) fun h => k (.c (.bool false)) h nx
            | .goto _ => false)
          | _ => false)
        | _ => false)
      | _ => false))
    | _ => false))
/-- A region whose order is not drawn. -/
noncomputable def opsK (P : Program) (g : Nat) (orc : Orc) (ih : Run) (all : List Oper) (N : Nat) (l : List Oper) : Env → Hp → Nat → (Env → Hp → Nat → Bool) → Bool :=
  List.rec (motive := fun _ => Env → Hp → Nat → (Env → Hp → Nat → Bool) → Bool) (fun env h nx k => k env h nx)
    (fun o _ rec env h nx k => guardK all o env fun want => Bool.casesOn want (putK N env o.dst .undef fun env => rec env h nx k) (match isYld o env with
      | some p => yldK g ih p.1 p.2 env h nx fun r h nx => putK N env o.dst r fun env => rec env h nx k
      | none => oneK P g orc ih o env h nx fun r h nx _ => putK N env o.dst r fun env => rec env h nx k)) l
/-! ### a region whose order is drawn -/
def isAl (o : Oper) : Bool := (match o.op with | .alloc _ => true | _ => false) && o.guard.isNone && o.after.toList.isEmpty && o.dst.isSome
def alAt (ops : Array Oper) (i : Nat) : Bool := match ops[i]? with | some o => isAl o | none => false
def onAl (o : Oper) (i : Nat) : Bool := o.after.any fun e => Region.binds .any e && e.on == i
def early (ops : Array Oper) (al : List Nat) (j : Nat) : Bool := match ops[j]? with
  | some o => al.all fun i => !onAl o i && (match ops[i]? with | some oi => o.apart ops oi | none => false)
  | none => false
def late (ops : Array Oper) (al : List Nat) (j : Nat) : Bool := match ops[j]? with
  | some o => al.all fun i => onAl o i
  | none => false
def dstAt (ops : Array Oper) (i : Nat) : Option Tmp := (ops[i]?).bind (·.dst)
def condA (ops : Array Oper) (al : List Nat) : Bool := ((List.range ops.size).all fun j => al.contains j || early ops al j || late ops al j) && al.all fun i => al.all fun j => i == j || !(dstAt ops i == dstAt ops j)
def alOf (ops : Array Oper) : List Nat := (List.range ops.size).filter (alAt ops)
def useAl (ops : Array Oper) : List Nat := bif condA ops (alOf ops) then alOf ops else []
inductive Nxt where
  | done
  | float (i : Nat)
  | loud (i : Nat)
  | fork (i : Nat) (js : List Nat)
  | bad
def allE (ops : Array Oper) (al : List Nat) (L : Array Bool) : Bool := (List.range ops.size).all fun j => L.getD j true || !early ops al j
/-- It reads no memory. -/
def pureAt (ops : Array Oper) (i : Nat) : Bool := match ops[i]? with
  | some o => (match o.op with | .load .. => false | .lookup .. => false | .entry _ => false | .typeAssert .. => false | .convert .. => false | .call _ => false | _ => true)
  | none => false
def mayF (ops : Array Oper) (al : List Nat) (L : Array Bool) (i : Nat) : Bool := early ops al i && floatsAt ops i && Region.free .any ops L i && (!barT ops || !(L.getD (ops.size - 1) true))
def nxE (ops : Array Oper) (al : List Nat) (L : Array Bool) : Nxt :=
  let r := Region.ready .any ops L
  match r.find? (fun i => pureAt ops i && mayF ops al L i) with
  | some i => .float i
  | none => if allE ops al L then .done else match r with
    | [i] => if early ops al i then .loud i else .bad
    | r => match r.find? (mayF ops al L) with
      | some i => .float i
      | none => (match r with
        | i :: j :: js => if al.isEmpty then .fork i (j :: js) else .bad
        | _ => .bad)
noncomputable def addR (h : Hp) (ids : List Nat) : List (Nat × AO) → (List (Nat × AO) → Bool) → Bool :=
  List.rec (motive := fun _ => List (Nat × AO) → (List (Nat × AO) → Bool) → Bool) (fun rs k => k rs) (fun i _ ih rs k => optK (h.get i) fun o => ih ((i, o) :: rs) k) ids
noncomputable def rdsOk (h : Hp) (rs : List (Nat × AO)) : Bool := List.rec (motive := fun _ => Bool) true (fun p _ ih => optK (h.get p.1) fun o => iff (aoB o p.2) ih) rs
/-! ### ways that part, and meet again -/
deriving instance DecidableEq for RV
noncomputable def oeq {α : Type} (eq : α → α → Bool) (a b : Option α) : Bool := match a, b with
  | none, none => true
  | some a, some b => eq a b
  | _, _ => false
noncomputable def Tr.eqB {α : Type} (eq : α → α → Bool) (t : Tr α) : Tr α → Bool :=
  Tr.rec (motive := fun _ => Tr α → Bool) (fun t => match t with | .leaf => true | _ => false) (fun v _ _ il ir t => match t with | .node v' l' r' => iff (oeq eq v v') (iff (il l') (ir r')) | _ => false) t
theorem oeq_ok {α : Type} {eq : α → α → Bool} (he : ∀ a b, eq a b = true → a = b) {a b : Option α} (h : oeq eq a b = true) : a = b := by
  cases a <;> cases b <;> simp [oeq] at h ⊢
  exact he _ _ h
theorem Tr.eqB_ok {α : Type} {eq : α → α → Bool} (he : ∀ a b, eq a b = true → a = b) {t : Tr α} : ∀ {t' : Tr α}, t.eqB eq t' = true → t = t' := by
  induction t with
  | leaf => intro t' h; cases t' with
    | leaf => rfl
    | node => cases h
  | node v l r il ir => intro t' h; cases t' with
    | leaf => cases h
    | node v' l' r' =>
      obtain ⟨h1, h⟩ := iff_ok h
      obtain ⟨h2, h3⟩ := iff_ok h
      rw [oeq_ok he h1, il h2, ir h3]
noncomputable def allJ (l : List Nat) (f : Nat → Bool) : Bool := List.rec (motive := fun _ => Bool) true (fun j _ ih => iff (f j) ih) l
theorem allJ_ok {l : List Nat} {f : Nat → Bool} (h : allJ l f = true) : ∀ j ∈ l, f j = true := by
  induction l with
  | nil => intro j hj; cases hj
  | cons a l ih =>
    obtain ⟨h1, h2⟩ := iff_ok h
    intro j hj
    cases hj with
    | head => exact h1
    | tail _ hj => exact ih h2 j hj
/-- What was read: by which operation, of which name, what. -/
abbrev RS := List (Nat × (Nat × AO))
noncomputable def rsOk (h : Hp) (rs : RS) : Bool := List.rec (motive := fun _ => Bool) true (fun p _ ih => optK (h.get p.2.1) fun o => iff (aoB o p.2.2) ih) rs
noncomputable def rsB2 : RS → RS → Bool := fun l => List.rec (motive := fun _ => RS → Bool) (fun m => match m with | [] => true | _ => false) (fun p _ ih m => match m with | q :: m => iff (Nat.beq p.1 q.1) (iff (Nat.beq p.2.1 q.2.1) (iff (aoB p.2.2 q.2.2) (ih m))) | [] => false) l
theorem rsB2_ok : ∀ {l m : RS}, rsB2 l m = true → l = m
  | [], [], _ => rfl
  | [], _ :: _, h => by cases h
  | _ :: _, [], h => by cases h
  | (x, i, a) :: l, (y, j, b) :: m, h => by
    obtain ⟨h0, h⟩ := iff_ok h
    obtain ⟨h1, h⟩ := iff_ok h
    obtain ⟨h2, h3⟩ := iff_ok h
    have h0 : x = y := nateq h0
    have h1 : i = j := nateq h1
    have h2 : a = b := aoB_ok h2
    rw [h0, h1, h2, rsB2_ok h3]
/-- Behind a loud operation: what was read stands, but for what it had waited for. -/
noncomputable def keepK (ops : Array Oper) (i : Nat) (h : Hp) (rs : RS) (k : RS → Bool) : Bool :=
  Bool.casesOn (rsOk h rs) (fL (rs.filter fun p => !depB ops p.1 i) fun rs => iff (rsOk h rs) (k rs)) (k rs)
noncomputable def tagR (i : Nat) (l : List (Nat × AO)) (rs : RS) : RS := List.rec (motive := fun _ => RS) rs (fun p _ ih => (i, p) :: ih) l
abbrev KR := Nat → Array Bool → RS → Env → Hp → Nat → Bool
/-- The same state. -/
noncomputable def sameK (n : Nat) (L : Array Bool) (rs : RS) (env : Env) (h : Hp) (nx : Nat) : KR := fun n' L' rs' env' h' nx' =>
  iff (Nat.beq n n') (iff (Nat.beq nx nx') (iff (decide (L = L')) (iff (rsB2 rs rs') (iff (env.eqB (fun a b => decide (a = b)) env') (h.eqB aoB h')))))
theorem sameK_ok {n n' nx nx' : Nat} {L L' : Array Bool} {rs rs' : RS} {env env' : Env} {h h' : Hp} (hk : sameK n L rs env h nx n' L' rs' env' h' nx' = true) : n = n' ∧ L = L' ∧ rs = rs' ∧ env = env' ∧ h = h' ∧ nx = nx' := by
  obtain ⟨h1, hk⟩ := iff_ok hk
  obtain ⟨h2, hk⟩ := iff_ok hk
  obtain ⟨h3, hk⟩ := iff_ok hk
  obtain ⟨h4, hk⟩ := iff_ok hk
  obtain ⟨h5, h6⟩ := iff_ok hk
  exact ⟨nateq h1, of_decide_eq_true h3, rsB2_ok h4, Tr.eqB_ok (fun _ _ => of_decide_eq_true) h5, Tr.eqB_ok (fun _ _ => aoB_ok) h6, nateq h2⟩
/-- One operation, whatever it is; and on. A slice that is laid out of parts has a name of its own, whatever the order. -/
noncomputable def stepR (P : Program) (g : Nat) (orc : Orc) (ih : Run) (ops : Array Oper) (N : Nat) (al : List Nat) (pre : List (Nat × AO)) (nx0 : Nat) (rec : Array Bool → RS → Env → Hp → Nat → Bool) (i : Nat) (L : Array Bool) (rs : RS) (env : Env) (h : Hp) (nx : Nat) : Bool :=
  fN i fun i => optK (lget ops.toList i) fun o => guardK ops.toList o env fun want => Bool.casesOn want (putK N env o.dst .undef fun env => rec (L.setIfInBounds i true) rs env h nx)
    (match o.op with
      | .buildSlice t len parts => partsK g env parts.toList fun ps => fN (Nat.add nx0 i) fun r => buildSliceAtK P h r t len ps fun v h => iff (rdsOk h pre) (keepK ops i h rs fun rs => putK N env o.dst v fun env => rec (L.setIfInBounds i true) rs env h nx)
      | _ => oneK P g orc ih o env h nx fun r h nx _ => iff (rdsOk h pre) (keepK ops i h rs fun rs => putK N env o.dst r fun env => rec (L.setIfInBounds i true) rs env h nx))
noncomputable def regK (P : Program) (g : Nat) (orc : Orc) (ih : Run) (ops : Array Oper) (N : Nat) (al : List Nat) (pre : List (Nat × AO)) (nxb : Nat) (fuel : Nat) : Array Bool → RS → Env → Hp → Nat → KR → Bool :=
  Nat.rec (motive := fun _ => Array Bool → RS → Env → Hp → Nat → KR → Bool)
    (fun L rs env h nx k => (match nxE ops al L with | .done => k 0 L rs env h nx | _ => false))
    (fun n rec L rs env h nx k => (match nxE ops al L with
      | .done => k (Nat.succ n) L rs env h nx
      | .float i => fN i fun i => optK (lget ops.toList i) fun o => guardK ops.toList o env fun want => Bool.casesOn want (putK N env o.dst .undef fun env => rec (L.setIfInBounds i true) rs env h nx k)
          (opF P g o.op env h nx fun r h nx ids => addR h ids [] fun l => fL (tagR i l rs) fun rs => putK N env o.dst r fun env => rec (L.setIfInBounds i true) rs env h nx k)
      | .loud i => stepR P g orc ih ops N al pre nxb (fun L rs env h nx => rec L rs env h nx k) i L rs env h nx
      | .fork i js => stepR P g orc ih ops N al pre nxb (fun L0 rs0 env0 h0 nx0 => rec L0 rs0 env0 h0 nx0 fun n1 L1 rs1 env1 h1 nx1 =>
          iff (allJ js fun j => stepR P g orc ih ops N al pre nxb (fun L0 rs0 env0 h0 nx0 => rec L0 rs0 env0 h0 nx0 (sameK n1 L1 rs1 env1 h1 nx1)) j L rs env h nx) (k n1 L1 rs1 env1 h1 nx1)) i L rs env h nx
      | .bad => false)) fuel
/-- The cells that are laid in whatever order: their names, ahead of all else. -/
noncomputable def preK (P : Program) (ops : Array Oper) (nx0 : Nat) (al : List Nat) : Env → Hp → List (Nat × AO) → (Env → Hp → List (Nat × AO) → Bool) → Bool :=
  List.rec (motive := fun _ => Env → Hp → List (Nat × AO) → (Env → Hp → List (Nat × AO) → Bool) → Bool) (fun env h pre k => k env h pre)
    (fun i _ ih env h pre k => optK (lget ops.toList i) fun o => optK o.dst fun d => (match o.op with
      | .alloc t => zeroK P t fun cs => fN (Nat.add nx0 i) fun r => h.setK r (some (.row cs t (some 0))) fun h => env.setK d none fun env => ih env h ((r, .row cs t (some 0)) :: pre) k
      | _ => false)) al
noncomputable def postK (ops : Array Oper) (N : Nat) (nx0 : Nat) (al : List Nat) : Env → (Env → Bool) → Bool :=
  List.rec (motive := fun _ => Env → (Env → Bool) → Bool) (fun env k => k env)
    (fun i _ ih env k => optK (lget ops.toList i) fun o => fN (Nat.add nx0 i) fun r => putK N env o.dst (.c (.ptr r 0)) fun env => ih env k) al
def startL (ops : Array Oper) (al : List Nat) : Array Bool := al.foldl (fun L i => L.setIfInBounds i true) (Array.replicate ops.size false)
def plainB (ops : Array Oper) : Bool := ops.all fun o => match o.op with | .select .. => false | .defer _ => false | _ => true
noncomputable def drawK (P : Program) (g : Nat) (orc : Orc) (ih : Run) (ops : Array Oper) (N : Nat) (env : Env) (h : Hp) (nx : Nat) (k : Env → Hp → Nat → Bool) : Bool :=
  iff (plainB ops) (preK P ops nx (useAl ops) env h [] fun env h pre => iff (rdsOk h pre) (fN (Nat.add nx ops.size) fun nx' =>
    regK P g orc ih ops N (useAl ops) pre nx (Nat.sub ops.size (llen (useAl ops))) (startL ops (useAl ops)) [] env h nx' fun n L rs env h nx' => postK ops N nx (useAl ops) env fun env =>
      regK P g orc ih ops N [] [] nx n L rs env h nx' fun n _ _ env h nx' => iff (Nat.beq n 0) (k env h nx')))
/-! ### codes -/
/-- A region that begins with a select of one case, with a default. -/
def selOf (ops : Array Oper) : Option (Oper × List SelectCase × List Oper) := match ops.toList with
  | o :: rest => (match o.op with | .select cases false => (match o.guard with | none => some (o, cases.toList, rest) | some _ => none) | _ => none)
  | _ => none
noncomputable def regionK (P : Program) (g : Nat) (orc : Orc) (ih : Run) (_id : Nat) (ops : Array Oper) (draw : Bool) (N : Nat) (env : Env) (h : Hp) (nx : Nat) (k : KX) : Bool :=
  Bool.casesOn draw (match selOf ops with
    | some s => selK P g s.2.1 env h fun r h => putK N env s.1.dst r fun env => opsK P g orc ih ops.toList N s.2.2 env h nx fun env h nx => k .normal env h nx
    | none => opsK P g orc ih ops.toList N ops.toList env h nx fun env h nx => k .normal env h nx) (drawK P g orc ih ops N env h nx fun env h nx => k .normal env h nx)
noncomputable def execF (P : Program) (g : Nat) (orc : Orc) (ih : Run) (c : Code) : Nat → Env → Hp → Nat → KX → Bool := match c with
  | .skip => fun _ env h nx k => k .normal env h nx
  | .region id ops draw => regionK P g orc ih id ops draw
  | .seq a b => fun N env h nx k => ih a N env h nx fun e env h nx => (match e with | .normal => ih b N env h nx k | e => k e env h nx)
  | .cond c t e => fun N env h nx k => evK g env c fun r => (match r with | .c (.bool b) => Bool.casesOn b (ih e N env h nx k) (ih t N env h nx k) | _ => false)
  | .block id c => fun N env h nx k => ih c N env h nx fun e env h nx => (match e with | .exit i => Bool.casesOn (Nat.beq i id) (k (.exit i) env h nx) (k .normal env h nx) | e => k e env h nx)
  | .loop c => fun N env h nx k => ih c N env h nx fun e env h nx => (match e with | .normal => ih (.loop c) N env h nx k | e => k e env h nx)
  | .exit id => fun _ env h nx k => k (.exit id) env h nx
  | .scope c => fun N env h nx k => ih c N env h nx fun e env h nx => (match e with | .goto _ => false | e => k e env h nx)
  | .label _ => fun _ env h nx k => k .normal env h nx
  | .ret => fun _ env h nx k => k .ret env h nx
  | _ => fun _ _ _ _ _ => false
noncomputable def exec (P : Program) (g : Nat) (orc : Orc) (fuel : Nat) : Run := Nat.rec (motive := fun _ => Run) (fun _ _ _ _ _ _ => false) (fun _ ih => execF P g orc ih) fuel
end Eng
end Go.Proofs.YtmcoaebldobapaaGreatDoor
