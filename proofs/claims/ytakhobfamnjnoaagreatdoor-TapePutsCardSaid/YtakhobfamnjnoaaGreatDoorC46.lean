/- The machine's operations: a select of one case, with a default, in a region of its own. -/
import Derived.Test.YtakhobfamnjnoaaGreatDoorC45
import Derived.Conc.LoneSelectN
set_option linter.unusedVariables false
set_option linter.unusedSimpArgs false
namespace Go.Proofs.YtakhobfamnjnoaaGreatDoor
section
namespace bU
open Go Go.RowKit
theorem nP {P:Program}{ro:Option Nat}{id:Nat}{ops:Array Oper}{o:Oper}{rest:List Oper}{Q:Exit->Act->World->Prop}{a:Act}{w w':World}{cases:Array CommCase}{v:Value}
 (hl:ops.toList=o::rest) (hg:o.guard=none) (hd: ∀c,o.op≠ .defer c) (hop:(execOp a.eval o).run P w= .ok (.comm cases false .select) w)
 (hst: ∀fr cs es,stepG P true (Go.Conc.G fr cs) w= .comm (Go.Conc.G fr cs) cases false .select w es->step P (Go.Conc.solo (Go.Conc.G fr cs) w)= .next (Go.Conc.solo (Go.Conc.G (fr.finish v) cs) w'))
 (hQ:wpListIn (W ro) 0 P ops Q rest (a.put o.dst v) w'):(Code.region id ops false).wpIn (W ro) 0 P Q a w:=by
 intro b k cs hro hb hr
 have ho:ops[0]?=some o:=by rw[<-Array.getElem?_toList,hl];rfl
 have hw:Region.wanted o (yielded ops a.tmps)=true:=by unfold Region.wanted;rw[hg]
 have hsz:List.range ops.size=0::List.range' 1 rest.length:=by
  have:ops.size=rest.length+1:=by rw[<-Array.length_toList,hl];rfl
  rw[this,List.range_eq_range',List.range'_succ]
 have afX:=stepGR_op (P:=P) (b:=b) (k:=k) (cs:=cs) (w:=w) (rest:=List.range' 1 rest.length) ho hw
 have hse:o.semAt b.roundOf a.eval=execOp a.eval o:=by
  cases b.roundOf with
  |none=>rfl
  |some l=>exact Oper.semAt_some l _ _ hd
 rw[hse]at afX
 have hs:step P (lone (b.atR a (.inRegion ops (0::List.range' 1 rest.length)::k)) cs w)= .next (lone (b.atR (a.put o.dst v) (.inRegion ops (List.range' 1 rest.length)::k)) cs w'):=by
  have h1: ∃es,stepG P true (Go.Conc.G (b.atR a (.inRegion ops (0::List.range' 1 rest.length)::k)) cs) w= .comm (Go.Conc.G (b.atR a (.inRegion ops (0::List.range' 1 rest.length)::k)) cs) cases false .select w es:=by
   have ahq:stepG P true (Go.Conc.G (b.atR a (.inRegion ops (0::List.range' 1 rest.length)::k)) cs) w=_:=afX
   rw[ahq]
   simp only[stepG.apply,Sem.runT_eq,hop]
   exact⟨_,rfl⟩
  obtain⟨es,h1⟩:=h1
  have h2:=hst _ _ es h1
  rw[Frame.finish_atR,ho]at h2
  exact h2
 have hQ':wpOpsIn (W ro) 0 P ops Q (List.range' 1 rest.length) (a.put o.dst v) w':=by
  rw[wpOpsIn_eq_wpListIn rest 1 (fun j=>by rw[<-Array.getElem?_toList,hl,Nat.add_comm];rfl)]
  exact hQ
 obtain⟨e,a',w'',q,r⟩:=wp_opsIn _ _ _ hQ' b k cs hro hb hr
 have h0:=stepR_region (P:=P) (b:=b) (a:=a) (k:=k) (cs:=cs) (w:=w) (ops:=ops) (id:=id)
 rw[hsz]at h0
 exact⟨e,a',w'',q, .of_steps (.head (OY _) h0 (.one (OY _) hs)) r⟩
theorem P8 (b:Nat)(v z u:Value)(ok:Bool)(k:Int):commResult #[Go.Conc.scase b v z] .select k u ok= .tuple [goInt k, .bool ok].toArray:=by simp[commResult,Go.Conc.scase]
theorem aa3 (b:Nat)(z u:Value)(ok:Bool):commResult #[Go.Conc.rcase b z] .select 0 u ok= .tuple [goInt 0, .bool ok,u].toArray:=by simp[commResult,Go.Conc.rcase]
theorem aa4 (b:Nat)(z u:Value)(ok:Bool):commResult #[Go.Conc.rcase b z] .select (-1) u ok= .tuple [goInt (-1), .bool ok,z].toArray:=by simp[commResult,Go.Conc.rcase]
section
variable {P:Program} {g:Nat} {w0:World} {ρ:Ren} {h:Hp} {nx:Nat} {w:World} {N:Nat} {env:Env} {a:Act} {D:List Deferred}
noncomputable def aaV (P:Program)(g:Nat)(cases:List SelectCase)(env:Env)(h:Hp)(k:RV->Hp->Bool):Bool:=match cases with
 |[c]=>dN g env c.chan fun r=>(match r with
  | .c (.ch id)=>iff (Nat.ble g id) (au (h.get id) fun o=>(match o with
    | .chan cap buf s r=>zeroV P c.elem fun z=>(match c.send with
      |some x=>dN g env x fun v=>zW v fun a=>Bool.casesOn (Nat.ble (Nat.succ (llen buf)) cap) (k (.aK [.c (.int .i64 (Int.negSucc 0)), .c (.bool false)]) h)
        (fL (buf++[a]) fun b=>fN (Nat.succ s) fun s=>h.iZ id (some (.chan cap b s r)) fun h=>k (.aK [.c (.int .i64 (Int.ofNat 0)), .c (.bool false)]) h)
      |none=>(match buf with
       |a::t=>fN (Nat.succ r) fun r=>h.iZ id (some (.chan cap t s r)) fun h=>k (.aK [.c (.int .i64 (Int.ofNat 0)), .c (.bool true),a]) h
       |[]=>k (.aK [.c (.int .i64 (Int.negSucc 0)), .c (.bool false),z]) h))
    |_=>false))
  |_=>false)
 |_=>false
theorem ady {ro:Option Nat}(H:HR P g w0 ρ h nx w)(hF:Fr D ρ N env a){id:Nat}{ops:Array Oper}{o:Oper}{rest:List Oper}{cases:Array SelectCase}(hl:ops.toList=o::rest)(ho:o.op= .select cases false)(hg:o.guard=none){k:RV->Hp->Bool}(hk:aaV P g cases.toList env h k=true)
 {Q:Exit->Act->World->Prop} (hQ: ∀r x h' w',k r h'=true->HR P g w0 ρ h' nx w'->GR ρ r x->wpListIn (W ro) 0 P ops Q rest (a.put o.dst x) w'):(Code.region id ops false).wpIn (W ro) 0 P Q a w:=by
 have hd: ∀c,o.op≠ .defer c:=fun c e=>by rw[ho]at e;cases e
 unfold aaV at hk
 split at hk
 case h_2=>cases hk
 rename_i c hc
 obtain rfl:cases= #[c]:=by apply Array.ext';simpa using hc
 obtain⟨r,hk,hr⟩:=uf H.glob hF.er hk
 split at hk
 case h_2=>cases hk
 rename_i id
 obtain⟨hgi,hk⟩:=aj hk
 have hgi:=aT hgi
 obtain⟨ob,hob,hk⟩:=ah hk
 cases ob<;>try(cases hk;done)
 rename_i cap buf s rr
 dsimp only at hk
 obtain⟨za,z,hk,hz,hzv⟩:=xE (ρ:=ρ) hk
 obtain⟨bb,base,cp,hrb,hcv⟩: ∃bb base cp,ρ id=some (.blk bb base cp)/\a.eval c.chan= .chan (some bb):=by
  generalize a.eval c.chan=X at hr
  cases hr with
  |c hr=>cases hr with
   |ch hr=>exact⟨_,_,_,hr,rfl⟩
 obtain⟨xs,hrb,hh,hx⟩: ∃xs:List Value,ρ id=some (.blk bb 0 0)/\w.heap[bb]?=some (.chan cap xs.toArray false s rr false)/\F2 (GA ρ) buf xs:=by
  cases H.ob hob hrb with
  |chan hr' hh hx=>rw[hrb]at hr';cases hr';exact⟨_,hrb,hh,hx⟩
 have hrun: ∀cc:CommCase,cc={chan:= .chan (some bb),send:=c.send.map a.eval,zero:=z}->(execOp a.eval o).run P w= .ok (.comm #[cc] false .select) w:=fun cc e=>by
  subst e
  obtain⟨dst,op,type,pos,after,guard⟩:=o
  subst ho
  simp[execOp,hcv,hzv]
 split at hk
 ·rename_i x hx'
  obtain⟨v,hk,hv⟩:=uf H.glob hF.er hk
  obtain⟨va,hk,hva⟩:=oC hv hk
  have hcc:({chan:= .chan (some bb),send:=c.send.map a.eval,zero:=z}:CommCase)=Go.Conc.scase bb (a.eval x) z:=by rw[hx'];rfl
  have hrun:=hrun _ hcc.symm
  cases hle:Nat.ble (Nat.succ (llen buf)) cap with
  |false=>
   rw[hle]at hk
   have hfull:cap<=xs.toArray.size:=by
    have: ¬(llen buf+1<=cap):=fun hh=>by have:=Nat.ble_eq_true_of_le hh;rw[hle]at this;cases this
    rw[aI,dw hx]at this
    simp;omega
   have hG:GR ρ (.aK [.c (.int .i64 (Int.negSucc 0)), .c (.bool false)]) (commResult #[Go.Conc.scase bb (a.eval x) z] .select (-1) undef false):=by
    rw[P8];exact .aK (.cons (.c (.int _ _)) (.cons (.c (.bool _)) .nil))
   refine nP hl hg hd hrun (fun fr cs es h=>Go.Conc.step_lone_sel_default h fun cc Rx=>?_) (hQ _ _ _ _ hk H hG)
   simp only[List.mem_toArray,List.mem_singleton,Array.mem_def]at Rx
   rw[Rx]
   exact Go.Conc.noWay_send hh hfull
  |true=>
   rw[hle]at hk
   dsimp only at hk
   rw[iF,gW]at hk
   obtain⟨h',hk,hh'⟩:=Tr.bJ hk
   have hroom:xs.toArray.size<cap:=by
    have:llen buf+1<=cap:=by rw[<-Nat.ble_eq];exact hle
    rw[aI,dw hx]at this
    simp;omega
   have e1:w.setChan bb cap (xs.toArray.push (a.eval x)) false (s+1) rr false=dO w bb (.chan cap (xs++[a.eval x]).toArray false (s+1) rr false):=by simp[World.setChan,dO]
   have H':=H.dO (x:= .chan cap (xs++[a.eval x]).toArray false (s+1) rr false) hob hgi ⟨_,_,hrb⟩ (fun w' hw'=> .chan hrb hw' (dR hx (.cons hva .nil))) hh'
   have hG:GR ρ (.aK [.c (.int .i64 (Int.ofNat 0)), .c (.bool false)]) (commResult #[Go.Conc.scase bb (a.eval x) z] .select (0:Nat) undef false):=by
    rw[P8];exact .aK (.cons (.c (.int _ _)) (.cons (.c (.bool _)) .nil))
   refine nP hl hg hd hrun (fun fr cs es h=>?_) (hQ _ _ _ _ hk H' hG)
   have h2:=Go.Conc.step_lone_sel_send_room (k:=0) h rfl (fun m c' hm hc'=>by
    rcases m with _|m
    ·exact absurd rfl hm
    ·simp at hc') hh hroom
   rw[h2,e1]
 ·rename_i hx'
  have hcc:({chan:= .chan (some bb),send:=c.send.map a.eval,zero:=z}:CommCase)=Go.Conc.rcase bb z:=by rw[hx'];rfl
  have hrun:=hrun _ hcc.symm
  split at hk
  ·rename_i va t0 _
   cases hx with
   | @cons _ y _ ys hva ht=>
     rw[gW]at hk
     obtain⟨h',hk,hh'⟩:=Tr.bJ hk
     have H':=H.dO (x:= .chan cap ys.toArray false s (rr+1) false) hob hgi ⟨_,_,hrb⟩ (fun w' hw'=> .chan hrb hw' ht) hh'
     have e1:w.setChan bb cap ((y::ys).toArray.extract 1 (y::ys).toArray.size) false s (rr+1) false=dO w bb (.chan cap ys.toArray false s (rr+1) false):=by simp[World.setChan,dO]
     have hG:GR ρ (.aK [.c (.int .i64 (Int.ofNat 0)), .c (.bool true),va]) (commResult #[Go.Conc.rcase bb z] .select (0:Nat) y true):=by
      have:=aa3 bb z y true
      rw[show((0:Nat):Int)=0 from rfl,this];exact .aK (.cons (.c (.int _ _)) (.cons (.c (.bool _)) (.cons hva .nil)))
     refine nP hl hg hd hrun (fun fr cs es h=>?_) (hQ _ _ _ _ hk H' hG)
     have h2:=Go.Conc.step_lone_sel_recv_buf (k:=0) h rfl (fun m c' hm hc'=>by
      rcases m with _|m
      ·exact absurd rfl hm
      ·simp at hc') hh (by simp)
     rw[h2,e1]
     simp
  ·cases hx
   refine nP hl hg hd hrun (fun fr cs es h=>Go.Conc.step_lone_sel_default h fun cc Rx=>?_) (hQ _ _ _ _ hk H (by rw[aa4];exact .aK (.cons (.c (.int _ _)) (.cons (.c (.bool _)) (.cons hz .nil)))))
   simp only[List.mem_toArray,List.mem_singleton,Array.mem_def]at Rx
   rw[Rx]
   exact Go.Conc.noWay_recv hh
end
end bU
end
section
namespace bU
open Go Go.RowKit
deriving instance DecidableEq for CV
deriving instance DecidableEq for AV
deriving instance DecidableEq for ME
noncomputable def aoB (a b:AO):Bool:=match a,b with
 | .row c e m, .row c' e' m'=>iff (decide (c=c')) (iff (Nat.beq e e') (decide (m=m')))
 | .ro c, .ro c'=>decide (c=c')
 | .map es k, .map es' k'=>iff (decide (es=es')) (Nat.beq k k')
 | .chan c b s r, .chan c' b' s' r'=>iff (Nat.beq c c') (iff (decide (b=b')) (iff (Nat.beq s s') (Nat.beq r r')))
 | .sit s p, .sit s' p'=>iff (decide (s=s')) (Nat.beq p p')
 | .fJ m s l t, .fJ m' s' l' t'=>iff (Nat.beq m m') (iff (Nat.beq s s') (iff (decide (l=l')) (Nat.beq t t')))
 | .clo f x y, .clo f' x' y'=>iff (Nat.beq f f') (iff (decide (x=x')) (decide (y=y')))
 | .gY t v, .gY t' v'=>iff (Nat.beq t t') (decide (v=v'))
 | .kE, .kE=>true
 | .any, .any=>true
 |_,_=>false
theorem KG {a b:AO}(h:aoB a b=true):a=b:=by
 cases a<;>cases b<;>first|rfl|(cases h;done)|skip
 ·obtain⟨h1,h⟩:=aj h;obtain⟨h2,h3⟩:=aj h
  rw[of_decide_eq_true h1,aQ h2,of_decide_eq_true h3]
 ·rw[of_decide_eq_true h]
 ·obtain⟨h1,h2⟩:=aj h
  rw[of_decide_eq_true h1,aQ h2]
 ·obtain⟨h1,h⟩:=aj h;obtain⟨h2,h⟩:=aj h;obtain⟨h3,h4⟩:=aj h
  rw[aQ h1,of_decide_eq_true h2,aQ h3,aQ h4]
 ·obtain⟨h1,h2⟩:=aj h
  rw[of_decide_eq_true h1,aQ h2]
 ·obtain⟨h1,h⟩:=aj h;obtain⟨h2,h⟩:=aj h;obtain⟨h3,h4⟩:=aj h
  rw[aQ h1,aQ h2,of_decide_eq_true h3,aQ h4]
 ·obtain⟨h1,h⟩:=aj h;obtain⟨h2,h3⟩:=aj h
  rw[aQ h1,of_decide_eq_true h2,of_decide_eq_true h3]
 ·obtain⟨h1,h2⟩:=aj h
  rw[aQ h1,of_decide_eq_true h2]
noncomputable def acW (P:Program)(op:Op):Bool:=match op with
 | .convert s d _=>(match dL P s with|some .string=>(match dL P d with|some (.slice _)=>true|_=>false)|_=>false)
 |_=>false
noncomputable def Lu (P:Program)(g:Nat)(bG:mV)(ih:Run)(o:Oper)(env:Env)(h:Hp)(nx:Nat)(k:KF):Bool:=
 Bool.casesOn (Bool.casesOn (acW P o.op) (floats o.op) false) (opL P g bG ih o.op env h nx fun r h nx=>k r h nx []) (Qq P g o.op env h nx k)
noncomputable def Xp (o:Oper)(env:Env):Option (Nat×List Operand):=match o.op with
 | .call c=>(match c.callee with| .value (.tmp t)=>(match env.get t with|some (.c (.Io id))=>some (id,c.args.toList)|_=>none)|_=>none)
 |_=>none
noncomputable def ae4 (N:Nat)(l:List (Tmp×AV)):Env->(Env->Bool)->Bool:=List.rec (motive:=fun _=>Env->(Env->Bool)->Bool) (fun env k=>k env) (fun p _ ih env k=>iff (Nat.ble (Nat.succ p.1) N) (env.iZ p.1 (some p.2.rv) fun env=>ih env k)) l
noncomputable def aaL (g:Nat)(ih:Run)(id:Nat)(args:List Operand)(env:Env)(h:Hp)(nx:Nat)(k:KV):Bool:=
 Es g env args fun l=>iff (Nat.ble g id) (au (h.get id) fun ob=>(match ob with
  | .loop N qP ps yH bd false none=>iff (Nat.beq (llen l) (llen ps)) (fL (ps.zip l) fun zs=>ae4 N zs qP fun kX=>ih yH N kX h nx fun e ags h nx=>(match e with
    | .normal=>au (h.get id) fun ob=>(match ob with
      | .loop N1 agr ps1 as1 bd1 false none=>h.iZ id (some (.loop N1 agr ps1 as1 bd1 true none)) fun h=>ih bd N ags h nx fun e _ h nx=>au (h.get id) fun ob=>(match ob with
        | .loop N2 ab5 ps2 as2 bd2 true none=>(match e with
          | .normal=>h.iZ id (some (.loop N2 ab5 ps2 as2 bd2 false none)) fun h=>k (.c (.bool true)) h nx
          | .ret=>h.iZ id (some (.loop N2 ab5 ps2 as2 bd2 false (some none))) fun h=>k (.c (.bool false)) h nx
          | .exit i=>h.iZ id (some (.loop N2 ab5 ps2 as2 bd2 false (some (some i)))) fun h=>k (.c (.bool false)) h nx
          | .goto _=>false)
        |_=>false)
      |_=>false)
    |_=>false))
  |_=>false))
noncomputable def WS (P:Program)(g:Nat)(bG:mV)(ih:Run)(all:List Oper)(N:Nat)(l:List Oper):Env->Hp->Nat->(Env->Hp->Nat->Bool)->Bool:=
 List.rec (motive:=fun _=>Env->Hp->Nat->(Env->Hp->Nat->Bool)->Bool) (fun env h nx k=>k env h nx)
  (fun o _ rec env h nx k=>yC all o env fun want=>Bool.casesOn want (oP N env o.dst .undef fun env=>rec env h nx k) (match Xp o env with
    |some p=>aaL g ih p.1 p.2 env h nx fun r h nx=>oP N env o.dst r fun env=>rec env h nx k
    |none=>Lu P g bG ih o env h nx fun r h nx _=>oP N env o.dst r fun env=>rec env h nx k)) l
def afE (o:Oper):Bool:=(match o.op with| .alloc _=>true|_=>false)&&o.guard.isNone&&o.after.toList.isEmpty&&o.dst.isSome
def S9 (ops:Array Oper)(i:Nat):Bool:=match ops[i]? with|some o=>afE o|none=>false
def Qr (o:Oper)(i:Nat):Bool:=o.after.any fun e=>Region.binds .any e&&e.on==i
def early (ops:Array Oper)(al:List Nat)(j:Nat):Bool:=match ops[j]? with
 |some o=>al.all fun i=>!Qr o i&&(match ops[i]? with|some oi=>o.apart ops oi|none=>false)
 |none=>false
def late (ops:Array Oper)(al:List Nat)(j:Nat):Bool:=match ops[j]? with
 |some o=>al.all fun i=>Qr o i
 |none=>false
def XJ (ops:Array Oper)(i:Nat):Option Tmp:=(ops[i]?).bind (·.dst)
def XQ (ops:Array Oper)(al:List Nat):Bool:=((List.range ops.size).all fun j=>al.contains j||early ops al j||late ops al j)&&al.all fun i=>al.all fun j=>i==j||!(XJ ops i==XJ ops j)
def SY (ops:Array Oper):List Nat:=(List.range ops.size).filter (S9 ops)
def kG (ops:Array Oper):List Nat:=bif XQ ops (SY ops)then SY ops else[]
inductive Nxt where
 |done
 |float (i:Nat)
 |loud (i:Nat)
 |fork (i:Nat) (js:List Nat)
 |bad
def CX (ops:Array Oper)(al:List Nat)(L:Array Bool):Bool:=(List.range ops.size).all fun j=>L.getD j true||!early ops al j
def Y3 (ops:Array Oper)(i:Nat):Bool:=match ops[i]? with
 |some o=>(match o.op with| .load .. =>false| .lookup .. =>false| .entry _=>false| .typeAssert .. =>false| .convert .. =>false| .call _=>false|_=>true)
 |none=>false
def zC (ops:Array Oper)(al:List Nat)(L:Array Bool)(i:Nat):Bool:=early ops al i&&Cb ops i&&Region.free .any ops L i&&(!barT ops||!(L.getD (ops.size-1) true))
def wB (ops:Array Oper)(al:List Nat)(L:Array Bool):Nxt:=
 let r:=Region.ready .any ops L
 match r.find? (fun i=>Y3 ops i&&zC ops al L i)with
 |some i=> .float i
 |none=>if CX ops al L then .done else match r with
  |[i]=>if early ops al i then .loud i else .bad
  |r=>match r.find? (zC ops al L)with
   |some i=> .float i
   |none=>(match r with
    |i::j::js=>if al.isEmpty then .fork i (j::js)else .bad
    |_=> .bad)
noncomputable def X3 (h:Hp)(ids:List Nat):List (Nat×AO)->(List (Nat×AO)->Bool)->Bool:=
 List.rec (motive:=fun _=>List (Nat×AO)->(List (Nat×AO)->Bool)->Bool) (fun rs k=>k rs) (fun i _ ih rs k=>au (h.get i) fun o=>ih ((i,o)::rs) k) ids
noncomputable def Ja (h:Hp)(rs:List (Nat×AO)):Bool:=List.rec (motive:=fun _=>Bool) true (fun p _ ih=>au (h.get p.1) fun o=>iff (aoB o p.2) ih) rs
deriving instance DecidableEq for RV
noncomputable def oeq {α:Type}(eq:α->α->Bool)(a b:Option α):Bool:=match a,b with
 |none,none=>true
 |some a,some b=>eq a b
 |_,_=>false
noncomputable def Tr.eqB {α:Type}(eq:α->α->Bool)(t:Tr α):Tr α->Bool:=
 Tr.rec (motive:=fun _=>Tr α->Bool) (fun t=>match t with| .leaf=>true|_=>false) (fun v _ _ il ir t=>match t with| .node v' l' r'=>iff (oeq eq v v') (iff (il l') (ir r'))|_=>false) t
theorem afg {α:Type}{eq:α->α->Bool}(he: ∀a b,eq a b=true->a=b){a b:Option α}(h:oeq eq a b=true):a=b:=by
 cases a<;>cases b<;>simp[oeq]at h⊢
 exact he _ _ h
theorem Tr.aak {α:Type}{eq:α->α->Bool}(he: ∀a b,eq a b=true->a=b){t:Tr α}: ∀{t':Tr α},t.eqB eq t'=true->t=t':=by
 induction t with
 |leaf=>intro t' h;cases t' with
  |leaf=>rfl
  |node=>cases h
 |node v l r il ir=>intro t' h;cases t' with
  |leaf=>cases h
  |node v' l' r'=>
   obtain⟨h1,h⟩:=aj h
   obtain⟨h2,h3⟩:=aj h
   rw[afg he h1,il h2,ir h3]
noncomputable def SX (l:List Nat)(f:Nat->Bool):Bool:=List.rec (motive:=fun _=>Bool) true (fun j _ ih=>iff (f j) ih) l
theorem aer {l:List Nat}{f:Nat->Bool}(h:SX l f=true): ∀j∈l,f j=true:=by
 induction l with
 |nil=>intro j hj;cases hj
 |cons a l ih=>
  obtain⟨h1,h2⟩:=aj h
  intro j hj
  cases hj with
  |head=>exact h1
  |tail _ hj=>exact ih h2 j hj
abbrev RS:=List (Nat×(Nat×AO))
noncomputable def WC (h:Hp)(rs:RS):Bool:=List.rec (motive:=fun _=>Bool) true (fun p _ ih=>au (h.get p.2.1) fun o=>iff (aoB o p.2.2) ih) rs
noncomputable def aeQ:RS->RS->Bool:=fun l=>List.rec (motive:=fun _=>RS->Bool) (fun m=>match m with|[]=>true|_=>false) (fun p _ ih m=>match m with|q::m=>iff (Nat.beq p.1 q.1) (iff (Nat.beq p.2.1 q.2.1) (iff (aoB p.2.2 q.2.2) (ih m)))|[]=>false) l
theorem UH: ∀{l m:RS},aeQ l m=true->l=m
 |[],[],_=>rfl
 |[],_::_,h=>by cases h
 |_::_,[],h=>by cases h
 |(x,i,a)::l,(y,j,b)::m,h=>by
  obtain⟨h0,h⟩:=aj h
  obtain⟨h1,h⟩:=aj h
  obtain⟨h2,h3⟩:=aj h
  have h0:x=y:=aQ h0
  have h1:i=j:=aQ h1
  have h2:a=b:=KG h2
  rw[h0,h1,h2,UH h3]
noncomputable def JF (ops:Array Oper)(i:Nat)(h:Hp)(rs:RS)(k:RS->Bool):Bool:=
 Bool.casesOn (WC h rs) (fL (rs.filter fun p=>!wo ops p.1 i) fun rs=>iff (WC h rs) (k rs)) (k rs)
noncomputable def KZ (i:Nat)(l:List (Nat×AO))(rs:RS):RS:=List.rec (motive:=fun _=>RS) rs (fun p _ ih=>(i,p)::ih) l
abbrev KR:=Nat->Array Bool->RS->Env->Hp->Nat->Bool
noncomputable def IU (n:Nat)(L:Array Bool)(rs:RS)(env:Env)(h:Hp)(nx:Nat):KR:=fun n' L' rs' env' h' nx'=>
 iff (Nat.beq n n') (iff (Nat.beq nx nx') (iff (decide (L=L')) (iff (aeQ rs rs') (iff (env.eqB (fun a b=>decide (a=b)) env') (h.eqB aoB h')))))
theorem aaX {n n' nx nx':Nat}{L L':Array Bool}{rs rs':RS}{env env':Env}{h h':Hp}(hk:IU n L rs env h nx n' L' rs' env' h' nx'=true):n=n'/\L=L'/\rs=rs'/\env=env'/\h=h'/\nx=nx':=by
 obtain⟨h1,hk⟩:=aj hk
 obtain⟨h2,hk⟩:=aj hk
 obtain⟨h3,hk⟩:=aj hk
 obtain⟨h4,hk⟩:=aj hk
 obtain⟨h5,h6⟩:=aj hk
 exact⟨aQ h1,of_decide_eq_true h3,UH h4,Tr.aak (fun _ _=>of_decide_eq_true) h5,Tr.aak (fun _ _=>KG) h6,aQ h2⟩
noncomputable def rE (P:Program)(g:Nat)(bG:mV)(ih:Run)(ops:Array Oper)(N:Nat)(al:List Nat)(pre:List (Nat×AO))(bY:Nat)(rec:Array Bool->RS->Env->Hp->Nat->Bool)(i:Nat)(L:Array Bool)(rs:RS)(env:Env)(h:Hp)(nx:Nat):Bool:=
 fN i fun i=>au (aF ops.toList i) fun o=>yC ops.toList o env fun want=>Bool.casesOn want (oP N env o.dst .undef fun env=>rec (L.setIfInBounds i true) rs env h nx)
  (match o.op with
    | .buildSlice t len parts=>Jj g env parts.toList fun ps=>fN (Nat.add bY i) fun r=>Dt P h r t len ps fun v h=>iff (Ja h pre) (JF ops i h rs fun rs=>oP N env o.dst v fun env=>rec (L.setIfInBounds i true) rs env h nx)
    |_=>Lu P g bG ih o env h nx fun r h nx _=>iff (Ja h pre) (JF ops i h rs fun rs=>oP N env o.dst r fun env=>rec (L.setIfInBounds i true) rs env h nx))
noncomputable def oN (P:Program)(g:Nat)(bG:mV)(ih:Run)(ops:Array Oper)(N:Nat)(al:List Nat)(pre:List (Nat×AO))(nxb:Nat)(fuel:Nat):Array Bool->RS->Env->Hp->Nat->KR->Bool:=
 Nat.rec (motive:=fun _=>Array Bool->RS->Env->Hp->Nat->KR->Bool)
  (fun L rs env h nx k=>(match wB ops al L with| .done=>k 0 L rs env h nx|_=>false))
  (fun n rec L rs env h nx k=>(match wB ops al L with
    | .done=>k (Nat.succ n) L rs env h nx
    | .float i=>fN i fun i=>au (aF ops.toList i) fun o=>yC ops.toList o env fun want=>Bool.casesOn want (oP N env o.dst .undef fun env=>rec (L.setIfInBounds i true) rs env h nx k)
       (Qq P g o.op env h nx fun r h nx ids=>X3 h ids [] fun l=>fL (KZ i l rs) fun rs=>oP N env o.dst r fun env=>rec (L.setIfInBounds i true) rs env h nx k)
    | .loud i=>rE P g bG ih ops N al pre nxb (fun L rs env h nx=>rec L rs env h nx k) i L rs env h nx
    | .fork i js=>rE P g bG ih ops N al pre nxb (fun L0 zY qP h0 bY=>rec L0 zY qP h0 bY fun n1 L1 Dc kX h1 Di=>
       iff (SX js fun j=>rE P g bG ih ops N al pre nxb (fun L0 zY qP h0 bY=>rec L0 zY qP h0 bY (IU n1 L1 Dc kX h1 Di)) j L rs env h nx) (k n1 L1 Dc kX h1 Di)) i L rs env h nx
    | .bad=>false)) fuel
noncomputable def ae3 (P:Program)(ops:Array Oper)(bY:Nat)(al:List Nat):Env->Hp->List (Nat×AO)->(Env->Hp->List (Nat×AO)->Bool)->Bool:=
 List.rec (motive:=fun _=>Env->Hp->List (Nat×AO)->(Env->Hp->List (Nat×AO)->Bool)->Bool) (fun env h pre k=>k env h pre)
  (fun i _ ih env h pre k=>au (aF ops.toList i) fun o=>au o.dst fun d=>(match o.op with
    | .alloc t=>yS P t fun cs=>fN (Nat.add bY i) fun r=>h.iZ r (some (.row cs t (some 0))) fun h=>env.iZ d none fun env=>ih env h ((r, .row cs t (some 0))::pre) k
    |_=>false)) al
noncomputable def WO (ops:Array Oper)(N:Nat)(bY:Nat)(al:List Nat):Env->(Env->Bool)->Bool:=
 List.rec (motive:=fun _=>Env->(Env->Bool)->Bool) (fun env k=>k env)
  (fun i _ ih env k=>au (aF ops.toList i) fun o=>fN (Nat.add bY i) fun r=>oP N env o.dst (.c (.ptr r 0)) fun env=>ih env k) al
def aeI (ops:Array Oper)(al:List Nat):Array Bool:=al.foldl (fun L i=>L.setIfInBounds i true) (Array.replicate ops.size false)
def Qh (ops:Array Oper):Bool:=ops.all fun o=>match o.op with| .select .. =>false| .defer _=>false|_=>true
noncomputable def XK (P:Program)(g:Nat)(bG:mV)(ih:Run)(ops:Array Oper)(N:Nat)(env:Env)(h:Hp)(nx:Nat)(k:Env->Hp->Nat->Bool):Bool:=
 iff (Qh ops) (ae3 P ops nx (kG ops) env h [] fun env h pre=>iff (Ja h pre) (fN (Nat.add nx ops.size) fun nx'=>
  oN P g bG ih ops N (kG ops) pre nx (Nat.sub ops.size (llen (kG ops))) (aeI ops (kG ops)) [] env h nx' fun n L rs env h nx'=>WO ops N nx (kG ops) env fun env=>
   oN P g bG ih ops N [] [] nx n L rs env h nx' fun n _ _ env h nx'=>iff (Nat.beq n 0) (k env h nx')))
def Wq (ops:Array Oper):Option (Oper×List SelectCase×List Oper):=match ops.toList with
 |o::rest=>(match o.op with| .select cases false=>(match o.guard with|none=>some (o,cases.toList,rest)|some _=>none)|_=>none)
 |_=>none
noncomputable def UN (P:Program)(g:Nat)(bG:mV)(ih:Run)(_id:Nat)(ops:Array Oper)(draw:Bool)(N:Nat)(env:Env)(h:Hp)(nx:Nat)(k:KX):Bool:=
 Bool.casesOn draw (match Wq ops with
  |some s=>aaV P g s.2.1 env h fun r h=>oP N env s.1.dst r fun env=>WS P g bG ih ops.toList N s.2.2 env h nx fun env h nx=>k .normal env h nx
  |none=>WS P g bG ih ops.toList N ops.toList env h nx fun env h nx=>k .normal env h nx) (XK P g bG ih ops N env h nx fun env h nx=>k .normal env h nx)
noncomputable def OZ (P:Program)(g:Nat)(bG:mV)(ih:Run)(c:Code):Nat->Env->Hp->Nat->KX->Bool:=match c with
 | .skip=>fun _ env h nx k=>k .normal env h nx
 | .region id ops draw=>UN P g bG ih id ops draw
 | .seq a b=>fun N env h nx k=>ih a N env h nx fun e env h nx=>(match e with| .normal=>ih b N env h nx k|e=>k e env h nx)
 | .cond c t e=>fun N env h nx k=>dN g env c fun r=>(match r with| .c (.bool b)=>Bool.casesOn b (ih e N env h nx k) (ih t N env h nx k)|_=>false)
 | .block id c=>fun N env h nx k=>ih c N env h nx fun e env h nx=>(match e with| .exit i=>Bool.casesOn (Nat.beq i id) (k (.exit i) env h nx) (k .normal env h nx)|e=>k e env h nx)
 | .loop c=>fun N env h nx k=>ih c N env h nx fun e env h nx=>(match e with| .normal=>ih (.loop c) N env h nx k|e=>k e env h nx)
 | .exit id=>fun _ env h nx k=>k (.exit id) env h nx
 | .scope c=>fun N env h nx k=>ih c N env h nx fun e env h nx=>(match e with| .goto _=>false|e=>k e env h nx)
 | .label _=>fun _ env h nx k=>k .normal env h nx
 | .ret=>fun _ env h nx k=>k .ret env h nx
 |_=>fun _ _ _ _ _=>false
noncomputable def exec (P:Program)(g:Nat)(bG:mV)(fuel:Nat):Run:=Nat.rec (motive:=fun _=>Run) (fun _ _ _ _ _ _=>false) (fun _ ih=>OZ P g bG ih) fuel
end bU
end
section
namespace bU
open Go Go.RowKit
section
variable {P:Program} {g:Nat} {w0:World} {ρ:Ren} {h:Hp} {nx:Nat} {w:World} {N:Nat} {env:Env} {a:Act} {D:List Deferred}
def One (P:Program)(g:Nat)(w0:World)(ρ:Ren)(nx:Nat)(a:Act)(w:World)(o:Oper)(k:KF):Prop:=
 ∀(K:Act->World->Prop)(Q:Exit->Act->World->Prop),(∀r x ρ' h' nx' w' ids,k r h' nx' ids=true->Ext nx nx' ρ ρ'->HR P g w0 ρ' h' nx' w'->GR ρ' r x->K (a.put o.dst x) w')->o.wp P a w K Q
theorem UZ {bG:mV}{ih:Run}(hO:yO P g w0 bG)(hI:yM P g w0 ih)(H:HR P g w0 ρ h nx w)(hF:Fr D ρ N env a){o:Oper}{k:KF}(hk:Lu P g bG ih o env h nx k=true):One P g w0 ρ nx a w o k:=by
 intro K Q hK
 unfold Lu at hk
 have fl:Qq P g o.op env h nx k=true->o.wp P a w K Q:=fun hk=>by
  obtain⟨r,x,ρ',h',nx',ids,h1,h2,h3,h4,_,h5,h6⟩:=Zd H hF hk
  have hrun:=h6 w fun id hid o ho=>H.objs id o ho (h4 id hid)
  unfold Oper.wp
  rw[hrun,Oper.upon_value]
  exact hK r x ρ' h' nx' w ids h1 h2 (h5 w H) h3
 have ld:opL P g bG ih o.op env h nx (fun r h nx=>k r h nx [])=true->o.wp P a w K Q:=fun hk=>
  afd hO hI H hF hk fun r x ρ' h' nx' w' h1 h2 h3 h4=>hK r x ρ' h' nx' w' [] h1 h2 h3 h4
 generalize(Bool.casesOn (acW P o.op) (floats o.op) false:Bool)=b at hk
 cases b with
 |true=>exact fl hk
 |false=>exact ld hk
theorem adM {bG:mV}{ih:Run}{o:Oper}{k:KF}(hk:Lu P g bG ih o env h nx k=true): ∀c,o.op≠ .defer c:=fun c e=>by
 unfold Lu at hk
 rw[e]at hk
 cases hk
theorem UU: ∀{l:List (Tmp×AV)}{zs:List (Tmp×Value)}{t:Array Value}{env:Env}{k:Env->Bool},F2 (fun a b=>a.1=b.1/\GA ρ a.2 b.2) l zs->ae4 N l env k=true->ER ρ env t->t.size=N->
 ∃env',k env'=true/\Fr [] ρ N env' {tmps:=zs.foldl (fun t p=>t.setIfInBounds p.1 p.2) t,defers:=[]}
 |[],_,t,env,k, .nil,hk,he,hs=>⟨env,hk,he,hs,rfl⟩
 |(i,v)::l,(j,x)::zs,t,env,k, .cons ⟨hij,hv⟩ hz,hk,he,hs=>by
  obtain⟨hi,hk⟩:=aj hk
  have hi:i<N:=aT hi
  obtain⟨kX,hk,hh⟩:=Tr.bJ hk
  cases hij
  have he1:ER ρ kX (t.setIfInBounds i x):=fun m r hr=>by
   rw[hh]at hr
   split at hr
   ·rename_i e
    cases hr;subst e
    exact⟨x,by simp[hs,hi],hv.rv⟩
   ·rename_i hne
    obtain⟨y,h1,h2⟩:=he m r hr
    exact⟨y,by rw[Array.getElem?_setIfInBounds_ne (Ne.symm hne)];exact h1,h2⟩
  exact UU (zs:=zs) (t:=t.setIfInBounds i x) hz hk he1 (by simp[hs])
theorem agd {ps:List Tmp}{vs:List AV}{xs:List Value}(h:F2 (GA ρ) vs xs):F2 (fun a b=>a.1=b.1/\GA ρ a.2 b.2) (ps.zip vs) (ps.zip xs):=by
 induction h generalizing ps with
 |nil=>cases ps<;>exact .nil
 |cons a _ ih=>cases ps with
  |nil=>exact .nil
  |cons p ps=>exact .cons ⟨rfl,a⟩ ih
theorem adn {ro:Option Nat}{ih:Run}(hI:yM P g w0 ih)(H:HR P g w0 ρ h nx w)(hF:Fr D ρ N env a){o:Oper}{id:Nat}{args:List Operand}(hy:Xp o env=some (id,args)){k:KV}(hk:aaL g ih id args env h nx k=true){K:Act->World->Prop}{Q:Exit->Act->World->Prop}
 (hK: ∀r x ρ' h' nx' w',k r h' nx'=true->Ext nx nx' ρ ρ'->HR P g w0 ρ' h' nx' w'->GR ρ' r x->K (a.put o.dst x) w'):o.wpIn (W ro) 0 P a w K Q:=by
 obtain⟨dst,op,type,pos,after,guard⟩:=o
 unfold Xp at hy
 split at hy
 case h_2=>cases hy
 rename_i c hop
 dsimp only at hop
 subst hop
 split at hy
 case h_2=>cases hy
 rename_i t hc
 split at hy
 case h_2=>cases hy
 rename_i id' het
 cases hy
 obtain⟨callee,FI,argTypes⟩:=c
 dsimp only at hc
 subst hc
 unfold aaL at hk
 obtain⟨vs,hk,hvs⟩:=uV H hF hk
 obtain⟨hgi,hk⟩:=aj hk
 have hgi:=aT hgi
 obtain⟨ob,hob,hk⟩:=ah hk
 split at hk
 case h_2=>cases hk
 rename_i N0 qP ps yH bd
 obtain⟨hlen,hk⟩:=aj hk
 have hlen:=aQ hlen
 rw[aI,aI]at hlen
 rw[iF]at hk
 obtain⟨b,base,cap,hrb,hval⟩: ∃b base cap,ρ id=some (.blk b base cap)/\a.eval (.tmp t)= .func (.yield b) #[] #[]:=by
  obtain⟨x,h1,h2⟩:=hF.er t _ het
  have e:a.eval (.tmp t)=x:=by simp[Act.eval,Array.getD_eq_getD_getElem?,h1]
  cases h2 with
  |c h2=>cases h2 with
   |Io hr=>exact⟨_,_,_,hr,e⟩
 cases H.ob hob hrb with
 | @loop _ b' _ _ _ _ _ _ _ r hr' hh hn he hp ha hd hs hq=>
   rw[hrb]at hr';cases hr'
   have hget:=aY (P:=P) hh (fun _ _ _=>by simp)
   have hsz:(FI.map a.eval).size=r.params.size:=by
    have h1:=dw hvs
    have h2:ps.length=r.params.size:=by rw[<-hp];simp
    simp at h1
    simp
    omega
   have hrun:((({dst,op:= .call {callee:= .value (.tmp t),args:=FI,argTypes},type,pos,after,guard}:Oper).semAt (W ro).round a.eval).run P w)= .ok (.round b r.fn ((r.params.zip (FI.map a.eval)).foldl (fun tmps (t,a)=>tmps.setIfInBounds t a) r.tmps) r.assign r.body) w:=by
    have e0:(({dst,op:= .call {callee:= .value (.tmp t),args:=FI,argTypes},type,pos,after,guard}:Oper).semAt (W ro).round a.eval)=execOp a.eval {dst,op:= .call {callee:= .value (.tmp t),args:=FI,argTypes},type,pos,after,guard}:=by
     cases ro with
     |none=>rfl
     |some l=>exact Oper.semAt_some l _ _ (fun c e=>by cases e)
    rw[e0]
    simp[execOp,resolve,hval,Deferred.ofValue,invoke,Instr.yield,Instr.getLoop,hget,hsz]
   have hzs:F2 (fun a b=>a.1=b.1/\GA ρ a.2 b.2) (ps.zip vs) (r.params.zip (FI.map a.eval)).toList:=by
    have:=agd (ps:=ps) hvs
    rw[<-hp]at this⊢
    simpa using this
   obtain⟨kX,hk,hF1⟩:=UU (t:=r.tmps) hzs hk he hn
   rw[Array.foldl_toList]at hF1
   refine⟨fun _ _=>trivial,?_⟩
   rw[hrun]
   refine⟨fun h=>by simp[W,Fence.wide]at h,roundIn_of_wpIn trivial ?_⟩
   subst ha hd
   refine hI _ _ _ _ _ _ hk (ro:=some b) ρ _ w H hF1 _ fun e ags h2 nx2 ρ2 a2 w2 hk hE2 H2 hF2=>?_
   cases e<;>try(cases hk;done)
   dsimp only at hk
   obtain⟨ob2,afN,hk⟩:=ah hk
   split at hk
   case h_2=>cases hk
   have Ro:ρ2 id=some (.blk b 0 0):=hE2.le _ _ hrb
   replace hk:=Tr.bJ hk
   obtain⟨h3,hk,hh3⟩:=hk
   cases H2.ob afN Ro with
   | @loop _ b2 _ _ _ _ _ _ _ r2 hr2' afW hn2 he2 hp2 ha2 hd2 hs2 hq2=>
     rw[Ro]at hr2';cases hr2'
     have ahs:=aY (P:=P) afW (fun _ _ _=>by simp)
     have hs2:r2.state= .ready:=hs2
     have H3:=H2.dO (x:= .loop {r2 with state:= .busy}) afN hgi ⟨_,_,Ro⟩ (fun w' hw'=> .loop (r:={r2 with state:= .busy}) Ro hw' hn2 he2 hp2 ha2 hd2 rfl hq2) hh3
     refine⟨_,?_,hI _ _ _ _ _ _ hk (ro:=some b) ρ2 a2 _ H3 hF2 _ fun e agr h4 nx4 ρ4 a4 w4 hk hE4 H4 hF4=>?_⟩
     ·simp only[Instr.beginRound,Instr.getLoop,Sem.run_bind,ahs,Result.andThen_ok,Sem.run_pure,fH afW (fun _ _ _=>by simp),hs2]
     ·obtain⟨ob4,afM,hk⟩:=ah hk
      split at hk
      case h_2=>cases hk
      have Xy:ρ4 id=some (.blk b 0 0):=hE4.le _ _ Ro
      cases H4.ob afM Xy with
      | @loop _ b4 _ _ _ _ _ _ _ r4 afL afV hn4 he4 hp4 ha4 hd4 hs4 hq4=>
        rw[Xy]at afL;cases afL
        have ahr:=aY (P:=P) afV (fun _ _ _=>by simp)
        have hE:=hE2.trans hE4
        have fin: ∀(j:Option (Option Nat))(v:Bool),v=j.isNone->(h4.iZ id (some (.loop _ _ _ _ _ false j)) fun h=>k (.c (.bool v)) h nx4)=true-> ∃x w',(Instr.endRound b (j.map yZ)).run P w4= .ok x w'/\K (a.put dst x) w':=fun j v hv hk=>by
         replace hk:=Tr.bJ hk
         obtain⟨h5,hk,hh5⟩:=hk
         have H5:=H4.dO (x:= .loop {r4 with state:=if(j.map yZ).isNone then .ready else .done,pending:=j.map yZ}) afM hgi ⟨_,_,Xy⟩ (fun w' hw'=> .loop (r:={r4 with state:=if(j.map yZ).isNone then .ready else .done,pending:=j.map yZ}) Xy hw' hn4 he4 hp4 ha4 hd4 (by cases j<;>rfl) rfl) hh5
         refine⟨.bool v,_,?_,hK _ _ ρ4 h5 nx4 _ hk hE H5 (.c (.bool _))⟩
         simp only[Instr.endRound,Instr.getLoop,Sem.run_bind,ahr,Result.andThen_ok,Sem.run_pure,fH afV (fun _ _ _=>by simp)]
         rw[hv]
         cases j<;>rfl
        cases e with
        |normal=>exact fin none true rfl hk
        |ret=>exact fin (some none) false rfl hk
        |exit i=>exact fin (some (some i)) false rfl hk
        |goto=>cases hk
theorem EX {ro:Option Nat}{bG:mV}{ih:Run}(hO:yO P g w0 bG)(hI:yM P g w0 ih){ops:Array Oper}{Q:Exit->Act->World->Prop}{k:Env->Hp->Nat->Bool}: ∀(l:List Oper){ρ:Ren}{h:Hp}{nx:Nat}{w:World}{env:Env}{a:Act},
 HR P g w0 ρ h nx w->Fr D ρ N env a->WS P g bG ih ops.toList N l env h nx k=true->
 (∀env' h' nx' ρ' a' w',k env' h' nx'=true->Ext nx nx' ρ ρ'->HR P g w0 ρ' h' nx' w'->Fr D ρ' N env' a'->Q .normal a' w')->wpListIn (W ro) 0 P ops Q l a w
 |[],ρ,h,nx,w,env,a,H,hF,hk,hQ=>hQ env h nx ρ a w hk (Ext.refl _ _) H hF
 |o::l,ρ,h,nx,w,env,a,H,hF,hk,hQ=>by
  have hk:=Ei (ops:=ops) hF hk
  unfold wpListIn
  cases hw:Region.wanted o (yielded ops a.tmps)with
  |false=>
   rw[hw]at hk
   obtain⟨env',hk,hF'⟩:=Lr hF GR.undef hk
   simp only[Bool.false_eq_true,if_false]
   exact⟨fun _ _=>trivial,EX hO hI l H hF' hk hQ⟩
  |true=>
   rw[hw]at hk
   simp only[if_true]
   dsimp only at hk
   have on: ∀r x ρ' h' nx' w',(oP N env o.dst r fun env=>WS P g bG ih ops.toList N l env h' nx' k)=true->Ext nx nx' ρ ρ'->HR P g w0 ρ' h' nx' w'->GR ρ' r x->wpListIn (W ro) 0 P ops Q l (a.put o.dst x) w':=fun r x ρ' h' nx' w' hk' hE H' hx=>by
    obtain⟨env',hk',hF'⟩:=Lr (hF.mono hE.le) hx hk'
    exact EX hO hI l H' hF' hk' fun CJ h'' uJ ρ'' a' w' h1 h2 h3 h4=>hQ CJ h'' uJ ρ'' a' w' h1 (hE.trans h2) h3 h4
   split at hk
   ·rename_i p hy
    exact adn hI H hF (args:=p.2) (id:=p.1) hy hk on
   ·exact Zc (adM hk) (UZ hO hI H hF hk _ _ fun r x ρ' h' nx' w' ids hk' hE H' hx=>on r x ρ' h' nx' w' hk' hE H' hx)
theorem Dv {ro:Option Nat}{P:Program}{Q:Exit->Act->World->Prop}{a:Act}{w:World}{c:Code}(h:c.wpIn (W ro) 0 P (Exit.noGoto Q) a w):(Code.scope c).wpIn (W ro) 0 P Q a w:=by
 intro b k cs hro hb hr
 have s1:step P (lone (b.atR a (.code (.scope c)::k)) cs w)= .next (lone (b.atR a (.code c:: .inScope c::k)) cs w):=step_lone_go (by simp[stepG,stepG.exec,Frame.atR])
 have s2: ∀a w,step P (lone (b.atR a (.inScope c::k)) cs w)= .next (lone (b.atR a k) cs w):=fun a w=>step_lone_go (by simp[stepG,stepG.exec,Frame.atR])
 obtain⟨e,a₁,w₁,hq,harr⟩:=h b (.inScope c::k) cs hro hb hr
 have harr:=ArrivesIn.of_steps (.one (OY _) s1) harr
 cases e with
 |normal=>exact⟨.normal,a₁,w₁,hq,StepsIn.trans harr (.one (OY _) (s2 _ _))⟩
 |exit id=>exact⟨.exit id,a₁,w₁,hq,fun k' hk=>harr.1 k' (by simp[exitTo,hk]),fun h1 h2=>harr.2 h1 (by simp[exitTo,h2])⟩
 |goto l=>exact hq.elim
 |ret=>exact⟨_,a₁,w₁,hq,harr⟩
 |panic ch=>exact⟨_,a₁,w₁,hq,harr⟩
 |outgrown=>exact⟨_,a₁,w₁,hq,harr⟩
def acy (P:Program)(g:Nat)(w0:World)(bG:mV):Prop:= ∀(ih:Run),yM P g w0 ih-> ∀id ops N env h nx (k:Env->Hp->Nat->Bool),XK P g bG ih ops N env h nx k=true-> ∀{ro:Option Nat}{D:List Deferred}(ρ:Ren)(a:Act)(w:World),HR P g w0 ρ h nx w->Fr D ρ N env a-> ∀Q:Exit->Act->World->Prop,
 (∀env' h' nx' ρ' a' w',k env' h' nx'=true->Ext nx nx' ρ ρ'->HR P g w0 ρ' h' nx' w'->Fr D ρ' N env' a'->Q .normal a' w')->(Code.region id ops true).wpIn (W ro) 0 P Q a w
theorem N8 (bG:mV)(n:Nat):exec P g bG (n+1)=OZ P g bG (exec P g bG n):=rfl
theorem ab2 {ro:Option Nat}{bG:mV}(hO:yO P g w0 bG)(hD:acy P g w0 bG){ih:Run}(hI:yM P g w0 ih){c:Code}(hl: ∀b,c≠ .loop b){k:KX}(hk:OZ P g bG ih c N env h nx k=true)(H:HR P g w0 ρ h nx w)(hF:Fr D ρ N env a){Q:Exit->Act->World->Prop}
 (hQ: ∀e env' h' nx' ρ' a' w',k e env' h' nx'=true->Ext nx nx' ρ ρ'->HR P g w0 ρ' h' nx' w'->Fr D ρ' N env' a'->Q e.to a' w'):c.wpIn (W ro) 0 P Q a w:=by
 cases c with
 |skip=>exact wpIn_skip (hQ .normal env h nx ρ a w hk (Ext.refl _ _) H hF)
 |label=>exact wpIn_label (hQ .normal env h nx ρ a w hk (Ext.refl _ _) H hF)
 |exit id=>exact wpIn_exit (hQ (.exit id) env h nx ρ a w hk (Ext.refl _ _) H hF)
 |ret=>exact wpIn_ret (hQ .ret env h nx ρ a w hk (Ext.refl _ _) H hF)
 |loop b=>exact absurd rfl (hl b)
 |region id ops draw=>
  cases draw with
  |false=>
   simp only[OZ,UN]at hk
   cases hs:Wq ops with
   |none=>rw[hs]at hk;exact wpIn_region_list (EX hO hI ops.toList H hF hk fun env' h' nx' ρ' a' w' h1 h2 h3 h4=>hQ .normal env' h' nx' ρ' a' w' h1 h2 h3 h4)
   |some s=>
    rw[hs]at hk
    unfold Wq at hs
    split at hs
    case h_2=>cases hs
    rename_i o rest ho
    split at hs
    case h_2=>cases hs
    rename_i cases hop
    split at hs
    case h_2=>cases hs
    rename_i hgd
    cases hs
    refine ady (ro:=ro) H hF ho hop hgd hk fun r x h' w' h1 h2 h3=>?_
    obtain⟨env',h1,h4⟩:=Lr hF h3 h1
    exact EX hO hI rest h2 h4 h1 fun env' h' nx' ρ' a' w' h1 h2 h3 h4=>hQ .normal env' h' nx' ρ' a' w' h1 h2 h3 h4
  |true=>exact hD ih hI id ops N env h nx _ hk ρ a w H hF Q fun env' h' nx' ρ' a' w' h1 h2 h3 h4=>hQ .normal env' h' nx' ρ' a' w' h1 h2 h3 h4
 |seq x y=>
  refine wpIn_seq (hI _ _ _ _ _ _ hk ρ a w H hF _ fun e env' h' nx' ρ' a' w' hk' hE H' hF'=>?_)
  cases e with
  |normal=>exact hI _ _ _ _ _ _ hk' ρ' a' w' H' hF' _ fun e CJ h'' uJ ρ'' a'' w'' h1 h2 h3 h4=>hQ e CJ h'' uJ ρ'' a'' w'' h1 (hE.trans h2) h3 h4
  |exit i=>exact hQ (.exit i) env' h' nx' ρ' a' w' hk' hE H' hF'
  |goto i=>exact hQ (.goto i) env' h' nx' ρ' a' w' hk' hE H' hF'
  |ret=>exact hQ .ret env' h' nx' ρ' a' w' hk' hE H' hF'
 |cond c x y=>
  obtain⟨r,hk,hr⟩:=uf H.glob hF.er hk
  split at hk
  ·rename_i b
   have hc:a.eval c= .bool b:=by
    generalize a.eval c=X at hr
    cases hr with
    |c hr=>cases hr;rfl
   refine wpIn_cond hc ?_
   cases b with
   |false=>exact hI _ _ _ _ _ _ hk ρ a w H hF _ hQ
   |true=>exact hI _ _ _ _ _ _ hk ρ a w H hF _ hQ
  ·cases hk
 |block id c=>
  refine wpIn_block (hI _ _ _ _ _ _ hk ρ a w H hF _ fun e env' h' nx' ρ' a' w' hk' hE H' hF'=>?_)
  cases e with
  |normal=>exact hQ .normal env' h' nx' ρ' a' w' hk' hE H' hF'
  |exit i=>
   simp only[Ex.to,Exit.inBlock]
   dsimp only at hk'
   cases hb:Nat.beq i id with
   |true=>
    rw[hb]at hk'
    rw[if_pos (aQ hb)]
    exact hQ .normal env' h' nx' ρ' a' w' hk' hE H' hF'
   |false=>
    rw[hb]at hk'
    rw[if_neg (qA hb)]
    exact hQ (.exit i) env' h' nx' ρ' a' w' hk' hE H' hF'
  |goto i=>exact hQ (.goto i) env' h' nx' ρ' a' w' hk' hE H' hF'
  |ret=>exact hQ .ret env' h' nx' ρ' a' w' hk' hE H' hF'
 |scope c=>
  refine Dv (hI _ _ _ _ _ _ hk ρ a w H hF _ fun e env' h' nx' ρ' a' w' hk' hE H' hF'=>?_)
  cases e with
  |normal=>exact hQ .normal env' h' nx' ρ' a' w' hk' hE H' hF'
  |exit i=>exact hQ (.exit i) env' h' nx' ρ' a' w' hk' hE H' hF'
  |goto i=>cases hk'
  |ret=>exact hQ .ret env' h' nx' ρ' a' w' hk' hE H' hF'
 |_=>cases hk
theorem Vf {ro:Option Nat}{bG:mV}: ∀(n:Nat),(∀m,m<n->yM P g w0 (exec P g bG m))-> ∀{c:Code}{N:Nat}{env:Env}{h:Hp}{nx:Nat}{k:KX},exec P g bG n (.loop c) N env h nx k=true-> ∀{D:List Deferred}{ρ:Ren}{a:Act}{w:World},HR P g w0 ρ h nx w->Fr D ρ N env a-> ∀{Q:Exit->Act->World->Prop},
 (∀e env' h' nx' ρ' a' w',k e env' h' nx'=true->Ext nx nx' ρ ρ'->HR P g w0 ρ' h' nx' w'->Fr D ρ' N env' a'->Q e.to a' w')->Code.roundsIn (W ro) 0 P c Q n a w
 |0,_,_,_,_,_,_,_,hk,_,_,_,_,_,_,_,_=>by cases hk
 |n+1,hI,c,N,env,h,nx,k,hk,D,ρ,a,w,H,hF,Q,hQ=>by
  rw[roundsIn_succ]
  rw[N8]at hk
  refine hI n (Nat.lt_succ_self n) _ _ _ _ _ _ hk ρ a w H hF _ fun e env' h' nx' ρ' a' w' hk' hE H' hF'=>?_
  cases e with
  |normal=>exact Vf n (fun m hm=>hI m (Nat.lt_succ_of_lt hm)) hk' H' hF' fun e CJ h'' uJ ρ'' a'' w'' h1 h2 h3 h4=>hQ e CJ h'' uJ ρ'' a'' w'' h1 (hE.trans h2) h3 h4
  |exit i=>exact hQ (.exit i) env' h' nx' ρ' a' w' hk' hE H' hF'
  |goto i=>exact hQ (.goto i) env' h' nx' ρ' a' w' hk' hE H' hF'
  |ret=>exact hQ .ret env' h' nx' ρ' a' w' hk' hE H' hF'
theorem ad5 {bG:mV}(hO:yO P g w0 bG)(hD:acy P g w0 bG): ∀n,∀m,m<=n->yM P g w0 (exec P g bG m):=by
 intro n
 induction n with
 |zero=>
  intro m hm
  obtain rfl:m=0:=by omega
  intro c N env h nx k hk
  cases hk
 |succ n ih=>
  intro m hm
  by_cases hmn:m<=n
  ·exact ih m hmn
  obtain rfl:m=n+1:=by omega
  intro c N env h nx k hk ro D ρ a w H hF Q hQ
  by_cases hl: ∃b,c= .loop b
  ·obtain⟨b,rfl⟩:=hl
   exact wpIn_loop_rounds (n+1) (Vf (n+1) (fun m hm=>ih m (by omega)) hk H hF hQ)
  ·rw[N8]at hk
   exact ab2 hO hD (ih n (Nat.le_refl _)) (fun b e=>hl ⟨b,e⟩) hk H hF hQ
end
end bU
end
end Go.Proofs.YtakhobfamnjnoaaGreatDoor
