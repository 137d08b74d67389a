/-
  The machine's answers for functions that it does not run: table keys in order; a byte's first place; how often a byte is there.
-/
import Derived.Test.YtcfncbnloaiifaaGreatDoorEng15
import Derived.Test.YtcfncbnloaiifaaGreatDoorTab6
import Derived.Laws.Externs
import Derived.Lib.Bytealg
namespace Go.Proofs.YtcfncbnloaiifaaGreatDoor
namespace Eng
open Go Go.RowKit
noncomputable def idxL (b : Nat) (s : List Nat) : Nat → Int := List.rec (motive := fun _ => Nat → Int) (fun _ => Int.negSucc 0) (fun a _ ih i => Bool.casesOn (Nat.beq a b) (ih (Nat.succ i)) (Int.ofNat i)) s
noncomputable def cntL (b : Nat) (s : List Nat) : Nat := List.rec (motive := fun _ => Nat) 0 (fun a _ ih => Bool.casesOn (Nat.beq a b) ih (Nat.succ ih)) s
noncomputable def idxA (l : List AV) (k : RV → Bool) : Bool := match l with
  | [.c (.str s), .c (.int .u8 (.ofNat b))] => iff (Nat.ble b 255) (fI (idxL b s 0) fun n => k (.c (.int .i64 n)))
  | _ => false
noncomputable def cntA (l : List AV) (k : RV → Bool) : Bool := match l with
  | [.c (.str s), .c (.int .u8 (.ofNat b))] => iff (Nat.ble b 255) (fN (cntL b s) fun n => k (.c (.int .i64 (Int.ofNat n))))
  | _ => false
/-! ### keys in order -/
noncomputable def intsOf (es : List ME) : (List Int → Bool) → Bool := List.rec (motive := fun _ => (List Int → Bool) → Bool) (fun k => k []) (fun e _ ih k => match e.key with
  | .c (.int .i64 n) => ih fun l => k (n :: l)
  | _ => false) es
def insL (x : Int) : List Int → List Int
  | [] => [x]
  | y :: r => if lessB x y then x :: y :: r else y :: insL x r
def sortL : List Int → List Int
  | [] => []
  | x :: r => insL x (sortL r)
def risesB : List Int → Bool
  | [] => true
  | x :: r => r.all (fun y => lessB x y) && risesB r
def bornsB (clock : Nat) : List Nat → Bool
  | [] => true
  | b :: r => r.all (fun c => !Nat.beq b c) && (Nat.ble (Nat.succ b) clock && bornsB clock r)
instance (x : Int) : Decidable (R64 x) := by unfold R64; infer_instance
def keysB (ss : List Int) : Bool := risesB ss && ss.all (fun x => decide (R64 x)) && Nat.ble ss.length 40
noncomputable def keysA (args : List AV) (h : Hp) (nx : Nat) (k : KV) : Bool := match args with
  | [.c (.clo id), .c (.fn bf)] => iff (Nat.beq bf 136) (optK (h.get id) fun o => (match o with
    | .clo f [] [.c (.ptr c 0)] => iff (Nat.beq f 216) (optK (h.get c) fun oc => (match oc with
      | .row [.mp m] _ (some 0) => optK (h.get m) fun om => (match om with
        | .map es clock => iff (bornsB clock (es.map (·.born))) (intsOf es fun ks => fL (sortL ks) fun ss => iff (keysB ss) (match ss with
          | [] => k (.c .nils) h nx
          | ss => newK h nx (.row (ss.map fun n => .int .i64 n) 2 none) fun id h nx => k (.c (.sl id 0 (llen ss) 0 none)) h nx))
        | _ => false)
      | _ => false))
    | _ => false))
  | _ => false
noncomputable def strsK (l : List CV) : (List (List Nat) → Bool) → Bool :=
  List.rec (motive := fun _ => (List (List Nat) → Bool) → Bool) (fun k => k []) (fun v _ ih k => match v with | .str s => ih fun ss => k (s :: ss) | _ => false) l
noncomputable def joinT (sep : List Nat) (l : List (List Nat)) : List Nat := List.rec (motive := fun _ => List Nat) [] (fun s _ ih => sep ++ (s ++ ih)) l
noncomputable def joinJ (sep : List Nat) (l : List (List Nat)) : List Nat := match l with | [] => [] | s :: l => s ++ joinT sep l
noncomputable def joinA (args : List AV) (h : Hp) (nx : Nat) (k : KV) : Bool := match args with
  | [.c (.sl id off len _ _), .c (.str sep)] => optK (h.get id) fun o => optK (rowOf o) fun cells => fL (List.take len (List.drop off cells)) fun cs => iff (Nat.beq (llen cs) len && Nat.ble len 1048576) (strsK cs fun ss => fLN (joinJ sep ss) fun s => iff (Nat.ble (llen s) 1073741824) (k (.c (.str s)) h nx))
  | _ => false
noncomputable def orcS : Orc := fun f => match f with
  | 352 => some (.val idxA)
  | 291 => some (.val cntA)
  | 140 => some (.call keysA)
  | 322 => some (.call joinA)
  | 158 => some .spine
  | _ => none
noncomputable def runS (f : Nat) (args : List AV) (k : RV → Hp → Nat → Bool) : Bool := callK Tryz.prog 8 orcS (exec Tryz.prog 8 orcS 1000000) f args .leaf 8 k
noncomputable def isTrue (r : RV) : Bool := match r with | .c (.bool true) => true | _ => false
end Eng
end Go.Proofs.YtcfncbnloaiifaaGreatDoor
