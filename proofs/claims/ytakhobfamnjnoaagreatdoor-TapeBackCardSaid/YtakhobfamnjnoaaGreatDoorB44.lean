/- The machine's operations: a select of one case, with a default, in a region of its own. -/
import Derived.Test.YtakhobfamnjnoaaGreatDoorB43
import Derived.Conc.LoneSelectN
set_option linter.unusedVariables false
set_option linter.unusedSimpArgs false
namespace Go.Proofs.YtakhobfamnjnoaaGreatDoor
section
namespace bC
open Go Go.RowKit
theorem kU {P:Program}{ro:Option Nat}{id:Nat}{ops:Array Oper}{o:Oper}{rest:List Oper}{Q:Exit->Act->World->Prop}{a:Act}{w w':World}{cases:Array CommCase}{v:Value}
 (hl:ops.toList=o::rest) (hg:o.guard=none) (hd: ∀c,o.op≠ .defer c) (hop:(execOp a.eval o).run P w= .ok (.comm cases false .select) w)
 (hst: ∀fr cs es,stepG P true (Go.Conc.G fr cs) w= .comm (Go.Conc.G fr cs) cases false .select w es->step P (Go.Conc.solo (Go.Conc.G fr cs) w)= .next (Go.Conc.solo (Go.Conc.G (fr.finish v) cs) w'))
 (hQ:wpListIn (W ro) 0 P ops Q rest (a.put o.dst v) w'):(Code.region id ops false).wpIn (W ro) 0 P Q a w:=by
 intro b k cs hro hb hr
 have ho:ops[0]?=some o:=by rw[<-Array.getElem?_toList,hl];rfl
 have hw:Region.wanted o (yielded ops a.tmps)=true:=by unfold Region.wanted;rw[hg]
 have hsz:List.range ops.size=0::List.range' 1 rest.length:=by
  have:ops.size=rest.length+1:=by rw[<-Array.length_toList,hl];rfl
  rw[this,List.range_eq_range',List.range'_succ]
 have ach:=stepGR_op (P:=P) (b:=b) (k:=k) (cs:=cs) (w:=w) (rest:=List.range' 1 rest.length) ho hw
 have hse:o.semAt b.roundOf a.eval=execOp a.eval o:=by
  cases b.roundOf with
  |none=>rfl
  |some l=>exact Oper.semAt_some l _ _ hd
 rw[hse]at ach
 have hs:step P (lone (b.atR a (.inRegion ops (0::List.range' 1 rest.length)::k)) cs w)= .next (lone (b.atR (a.put o.dst v) (.inRegion ops (List.range' 1 rest.length)::k)) cs w'):=by
  have h1: ∃es,stepG P true (Go.Conc.G (b.atR a (.inRegion ops (0::List.range' 1 rest.length)::k)) cs) w= .comm (Go.Conc.G (b.atR a (.inRegion ops (0::List.range' 1 rest.length)::k)) cs) cases false .select w es:=by
   have adJ:stepG P true (Go.Conc.G (b.atR a (.inRegion ops (0::List.range' 1 rest.length)::k)) cs) w=_:=ach
   rw[adJ]
   simp only[stepG.apply,Sem.runT_eq,hop]
   exact⟨_,rfl⟩
  obtain⟨es,h1⟩:=h1
  have h2:=hst _ _ es h1
  rw[Frame.finish_atR,ho]at h2
  exact h2
 have hQ':wpOpsIn (W ro) 0 P ops Q (List.range' 1 rest.length) (a.put o.dst v) w':=by
  rw[wpOpsIn_eq_wpListIn rest 1 (fun j=>by rw[<-Array.getElem?_toList,hl,Nat.add_comm];rfl)]
  exact hQ
 obtain⟨e,a',w'',q,r⟩:=wp_opsIn _ _ _ hQ' b k cs hro hb hr
 have h0:=stepR_region (P:=P) (b:=b) (a:=a) (k:=k) (cs:=cs) (w:=w) (ops:=ops) (id:=id)
 rw[hsz]at h0
 exact⟨e,a',w'',q, .of_steps (.head (Kr _) h0 (.one (Kr _) hs)) r⟩
theorem Lm (b:Nat)(v z u:Value)(ok:Bool)(k:Int):commResult #[Go.Conc.scase b v z] .select k u ok= .tuple [goInt k, .bool ok].toArray:=by simp[commResult,Go.Conc.scase]
theorem Xz (b:Nat)(z u:Value)(ok:Bool):commResult #[Go.Conc.rcase b z] .select 0 u ok= .tuple [goInt 0, .bool ok,u].toArray:=by simp[commResult,Go.Conc.rcase]
theorem XA (b:Nat)(z u:Value)(ok:Bool):commResult #[Go.Conc.rcase b z] .select (-1) u ok= .tuple [goInt (-1), .bool ok,z].toArray:=by simp[commResult,Go.Conc.rcase]
section
variable {P:Program} {g:Nat} {w0:World} {ρ:Ren} {h:Hp} {nx:Nat} {w:World} {N:Nat} {env:Env} {a:Act} {D:List Deferred}
noncomputable def Xr (P:Program)(g:Nat)(cases:List SelectCase)(env:Env)(h:Hp)(k:RV->Hp->Bool):Bool:=match cases with
 |[c]=>bU g env c.chan fun r=>(match r with
  | .c (.ch id)=>iff (Nat.ble g id) (au (h.get id) fun o=>(match o with
    | .chan cap buf s r=>zeroV P c.elem fun z=>(match c.send with
      |some x=>bU g env x fun v=>xu v fun a=>Bool.casesOn (Nat.ble (Nat.succ (llen buf)) cap) (k (.aN [.c (.int .i64 (Int.negSucc 0)), .c (.bool false)]) h)
        (fL (buf++[a]) fun b=>fN (Nat.succ s) fun s=>h.fU id (some (.chan cap b s r)) fun h=>k (.aN [.c (.int .i64 (Int.ofNat 0)), .c (.bool false)]) h)
      |none=>(match buf with
       |a::t=>fN (Nat.succ r) fun r=>h.fU id (some (.chan cap t s r)) fun h=>k (.aN [.c (.int .i64 (Int.ofNat 0)), .c (.bool true),a]) h
       |[]=>k (.aN [.c (.int .i64 (Int.negSucc 0)), .c (.bool false),z]) h))
    |_=>false))
  |_=>false)
 |_=>false
theorem ZT {ro:Option Nat}(H:HR P g w0 ρ h nx w)(hF:Fr D ρ N env a){id:Nat}{ops:Array Oper}{o:Oper}{rest:List Oper}{cases:Array SelectCase}(hl:ops.toList=o::rest)(ho:o.op= .select cases false)(hg:o.guard=none){k:RV->Hp->Bool}(hk:Xr P g cases.toList env h k=true)
 {Q:Exit->Act->World->Prop} (hQ: ∀r x h' w',k r h'=true->HR P g w0 ρ h' nx w'->GR ρ r x->wpListIn (W ro) 0 P ops Q rest (a.put o.dst x) w'):(Code.region id ops false).wpIn (W ro) 0 P Q a w:=by
 have hd: ∀c,o.op≠ .defer c:=fun c e=>by rw[ho]at e;cases e
 unfold Xr at hk
 split at hk
 case h_2=>cases hk
 rename_i c hc
 obtain rfl:cases= #[c]:=by apply Array.ext';simpa using hc
 obtain⟨r,hk,hr⟩:=qj H.glob hF.er hk
 split at hk
 case h_2=>cases hk
 rename_i id
 obtain⟨hgi,hk⟩:=aj hk
 have hgi:=aK hgi
 obtain⟨ob,hob,hk⟩:=ah hk
 cases ob<;>try(cases hk;done)
 rename_i cap buf s rr
 dsimp only at hk
 obtain⟨za,z,hk,hz,hzv⟩:=uq (ρ:=ρ) hk
 obtain⟨bb,base,cp,hrb,hcv⟩: ∃bb base cp,ρ id=some (.blk bb base cp)/\a.eval c.chan= .chan (some bb):=by
  generalize a.eval c.chan=X at hr
  cases hr with
  |c hr=>cases hr with
   |ch hr=>exact⟨_,_,_,hr,rfl⟩
 obtain⟨xs,hrb,hh,hx⟩: ∃xs:List Value,ρ id=some (.blk bb 0 0)/\w.heap[bb]?=some (.chan cap xs.toArray false s rr false)/\F2 (GA ρ) buf xs:=by
  cases H.ob hob hrb with
  |chan hr' hh hx=>rw[hrb]at hr';cases hr';exact⟨_,hrb,hh,hx⟩
 have hrun: ∀cc:CommCase,cc={chan:= .chan (some bb),send:=c.send.map a.eval,zero:=z}->(execOp a.eval o).run P w= .ok (.comm #[cc] false .select) w:=fun cc e=>by
  subst e
  obtain⟨dst,op,type,pos,after,guard⟩:=o
  subst ho
  simp[execOp,hcv,hzv]
 split at hk
 ·rename_i x hx'
  obtain⟨v,hk,hv⟩:=qj H.glob hF.er hk
  obtain⟨va,hk,hva⟩:=lN hv hk
  have hcc:({chan:= .chan (some bb),send:=c.send.map a.eval,zero:=z}:CommCase)=Go.Conc.scase bb (a.eval x) z:=by rw[hx'];rfl
  have hrun:=hrun _ hcc.symm
  cases hle:Nat.ble (Nat.succ (llen buf)) cap with
  |false=>
   rw[hle]at hk
   have hfull:cap<=xs.toArray.size:=by
    have: ¬(llen buf+1<=cap):=fun hh=>by have:=Nat.ble_eq_true_of_le hh;rw[hle]at this;cases this
    rw[aG,bJ hx]at this
    simp;omega
   have hG:GR ρ (.aN [.c (.int .i64 (Int.negSucc 0)), .c (.bool false)]) (commResult #[Go.Conc.scase bb (a.eval x) z] .select (-1) undef false):=by
    rw[Lm];exact .aN (.cons (.c (.int _ _)) (.cons (.c (.bool _)) .nil))
   refine kU hl hg hd hrun (fun fr cs es h=>Go.Conc.step_lone_sel_default h fun cc Nu=>?_) (hQ _ _ _ _ hk H hG)
   simp only[List.mem_toArray,List.mem_singleton,Array.mem_def]at Nu
   rw[Nu]
   exact Go.Conc.noWay_send hh hfull
  |true=>
   rw[hle]at hk
   dsimp only at hk
   rw[eP,dY]at hk
   obtain⟨h',hk,hh'⟩:=Tr.aW hk
   have hroom:xs.toArray.size<cap:=by
    have:llen buf+1<=cap:=by rw[<-Nat.ble_eq];exact hle
    rw[aG,bJ hx]at this
    simp;omega
   have e1:w.setChan bb cap (xs.toArray.push (a.eval x)) false (s+1) rr false=bV w bb (.chan cap (xs++[a.eval x]).toArray false (s+1) rr false):=by simp[World.setChan,bV]
   have H':=H.bV (x:= .chan cap (xs++[a.eval x]).toArray false (s+1) rr false) hob hgi ⟨_,_,hrb⟩ (fun w' hw'=> .chan hrb hw' (bZ hx (.cons hva .nil))) hh'
   have hG:GR ρ (.aN [.c (.int .i64 (Int.ofNat 0)), .c (.bool false)]) (commResult #[Go.Conc.scase bb (a.eval x) z] .select (0:Nat) undef false):=by
    rw[Lm];exact .aN (.cons (.c (.int _ _)) (.cons (.c (.bool _)) .nil))
   refine kU hl hg hd hrun (fun fr cs es h=>?_) (hQ _ _ _ _ hk H' hG)
   have h2:=Go.Conc.step_lone_sel_send_room (k:=0) h rfl (fun m c' hm hc'=>by
    rcases m with _|m
    ·exact absurd rfl hm
    ·simp at hc') hh hroom
   rw[h2,e1]
 ·rename_i hx'
  have hcc:({chan:= .chan (some bb),send:=c.send.map a.eval,zero:=z}:CommCase)=Go.Conc.rcase bb z:=by rw[hx'];rfl
  have hrun:=hrun _ hcc.symm
  split at hk
  ·rename_i va t0 _
   cases hx with
   | @cons _ y _ ys hva ht=>
     rw[dY]at hk
     obtain⟨h',hk,hh'⟩:=Tr.aW hk
     have H':=H.bV (x:= .chan cap ys.toArray false s (rr+1) false) hob hgi ⟨_,_,hrb⟩ (fun w' hw'=> .chan hrb hw' ht) hh'
     have e1:w.setChan bb cap ((y::ys).toArray.extract 1 (y::ys).toArray.size) false s (rr+1) false=bV w bb (.chan cap ys.toArray false s (rr+1) false):=by simp[World.setChan,bV]
     have hG:GR ρ (.aN [.c (.int .i64 (Int.ofNat 0)), .c (.bool true),va]) (commResult #[Go.Conc.rcase bb z] .select (0:Nat) y true):=by
      have:=Xz bb z y true
      rw[show((0:Nat):Int)=0 from rfl,this];exact .aN (.cons (.c (.int _ _)) (.cons (.c (.bool _)) (.cons hva .nil)))
     refine kU hl hg hd hrun (fun fr cs es h=>?_) (hQ _ _ _ _ hk H' hG)
     have h2:=Go.Conc.step_lone_sel_recv_buf (k:=0) h rfl (fun m c' hm hc'=>by
      rcases m with _|m
      ·exact absurd rfl hm
      ·simp at hc') hh (by simp)
     rw[h2,e1]
     simp
  ·cases hx
   refine kU hl hg hd hrun (fun fr cs es h=>Go.Conc.step_lone_sel_default h fun cc Nu=>?_) (hQ _ _ _ _ hk H (by rw[XA];exact .aN (.cons (.c (.int _ _)) (.cons (.c (.bool _)) (.cons hz .nil)))))
   simp only[List.mem_toArray,List.mem_singleton,Array.mem_def]at Nu
   rw[Nu]
   exact Go.Conc.noWay_recv hh
end
end bC
end
section
namespace bC
open Go Go.RowKit
deriving instance DecidableEq for CV
deriving instance DecidableEq for AV
deriving instance DecidableEq for ME
noncomputable def WY (a b:AO):Bool:=match a,b with
 | .row c e m, .row c' e' m'=>iff (decide (c=c')) (iff (Nat.beq e e') (decide (m=m')))
 | .ro c, .ro c'=>decide (c=c')
 | .map es k, .map es' k'=>iff (decide (es=es')) (Nat.beq k k')
 | .chan c b s r, .chan c' b' s' r'=>iff (Nat.beq c c') (iff (decide (b=b')) (iff (Nat.beq s s') (Nat.beq r r')))
 | .sit s p, .sit s' p'=>iff (decide (s=s')) (Nat.beq p p')
 | .dN m s l t, .dN m' s' l' t'=>iff (Nat.beq m m') (iff (Nat.beq s s') (iff (decide (l=l')) (Nat.beq t t')))
 | .clo f x y, .clo f' x' y'=>iff (Nat.beq f f') (iff (decide (x=x')) (decide (y=y')))
 | .eF t v, .eF t' v'=>iff (Nat.beq t t') (decide (v=v'))
 | .jd, .jd=>true
 | .any, .any=>true
 |_,_=>false
theorem Gw {a b:AO}(h:WY a b=true):a=b:=by
 cases a<;>cases b<;>first|rfl|(cases h;done)|skip
 ·obtain⟨h1,h⟩:=aj h;obtain⟨h2,h3⟩:=aj h
  rw[of_decide_eq_true h1,aJ h2,of_decide_eq_true h3]
 ·rw[of_decide_eq_true h]
 ·obtain⟨h1,h2⟩:=aj h
  rw[of_decide_eq_true h1,aJ h2]
 ·obtain⟨h1,h⟩:=aj h;obtain⟨h2,h⟩:=aj h;obtain⟨h3,h4⟩:=aj h
  rw[aJ h1,of_decide_eq_true h2,aJ h3,aJ h4]
 ·obtain⟨h1,h2⟩:=aj h
  rw[of_decide_eq_true h1,aJ h2]
 ·obtain⟨h1,h⟩:=aj h;obtain⟨h2,h⟩:=aj h;obtain⟨h3,h4⟩:=aj h
  rw[aJ h1,aJ h2,of_decide_eq_true h3,aJ h4]
 ·obtain⟨h1,h⟩:=aj h;obtain⟨h2,h3⟩:=aj h
  rw[aJ h1,of_decide_eq_true h2,of_decide_eq_true h3]
 ·obtain⟨h1,h2⟩:=aj h
  rw[aJ h1,of_decide_eq_true h2]
noncomputable def Zj (P:Program)(op:Op):Bool:=match op with
 | .convert s d _=>(match bQ P s with|some .string=>(match bQ P d with|some (.slice _)=>true|_=>false)|_=>false)
 |_=>false
noncomputable def Hl (P:Program)(g:Nat)(aU:jW)(ih:Run)(o:Oper)(env:Env)(h:Hp)(nx:Nat)(k:KF):Bool:=
 Bool.casesOn (Bool.casesOn (Zj P o.op) (floats o.op) false) (Y7 P g aU ih o.op env h nx fun r h nx=>k r h nx []) (LU P g o.op env h nx k)
noncomputable def Tf (o:Oper)(env:Env):Option (Nat×List Operand):=match o.op with
 | .call c=>(match c.callee with| .value (.tmp t)=>(match env.get t with|some (.c (.Ef id))=>some (id,c.args.toList)|_=>none)|_=>none)
 |_=>none
noncomputable def abn (N:Nat)(l:List (Tmp×AV)):Env->(Env->Bool)->Bool:=List.rec (motive:=fun _=>Env->(Env->Bool)->Bool) (fun env k=>k env) (fun p _ ih env k=>iff (Nat.ble (Nat.succ p.1) N) (env.fU p.1 (some p.2.rv) fun env=>ih env k)) l
noncomputable def Xf (g:Nat)(ih:Run)(id:Nat)(args:List Operand)(env:Env)(h:Hp)(nx:Nat)(k:KV):Bool:=
 A8 g env args fun l=>iff (Nat.ble g id) (au (h.get id) fun ob=>(match ob with
  | .loop N nV ps asg bd false none=>iff (Nat.beq (llen l) (llen ps)) (fL (ps.zip l) fun zs=>abn N zs nV fun jw=>ih asg N jw h nx fun e acO h nx=>(match e with
    | .normal=>au (h.get id) fun ob=>(match ob with
      | .loop N1 acN ps1 as1 bd1 false none=>h.fU id (some (.loop N1 acN ps1 as1 bd1 true none)) fun h=>ih bd N acO h nx fun e _ h nx=>au (h.get id) fun ob=>(match ob with
        | .loop N2 YD ps2 as2 bd2 true none=>(match e with
          | .normal=>h.fU id (some (.loop N2 YD ps2 as2 bd2 false none)) fun h=>k (.c (.bool true)) h nx
          | .ret=>h.fU id (some (.loop N2 YD ps2 as2 bd2 false (some none))) fun h=>k (.c (.bool false)) h nx
          | .exit i=>h.fU id (some (.loop N2 YD ps2 as2 bd2 false (some (some i)))) fun h=>k (.c (.bool false)) h nx
          | .goto _=>false)
        |_=>false)
      |_=>false)
    |_=>false))
  |_=>false))
noncomputable def Sj (P:Program)(g:Nat)(aU:jW)(ih:Run)(all:List Oper)(N:Nat)(l:List Oper):Env->Hp->Nat->(Env->Hp->Nat->Bool)->Bool:=
 List.rec (motive:=fun _=>Env->Hp->Nat->(Env->Hp->Nat->Bool)->Bool) (fun env h nx k=>k env h nx)
  (fun o _ rec env h nx k=>uU all o env fun want=>Bool.casesOn want (lZ N env o.dst .undef fun env=>rec env h nx k) (match Tf o env with
    |some p=>Xf g ih p.1 p.2 env h nx fun r h nx=>lZ N env o.dst r fun env=>rec env h nx k
    |none=>Hl P g aU ih o env h nx fun r h nx _=>lZ N env o.dst r fun env=>rec env h nx k)) l
def abY (o:Oper):Bool:=(match o.op with| .alloc _=>true|_=>false)&&o.guard.isNone&&o.after.toList.isEmpty&&o.dst.isSome
def Ot (ops:Array Oper)(i:Nat):Bool:=match ops[i]? with|some o=>abY o|none=>false
def LV (o:Oper)(i:Nat):Bool:=o.after.any fun e=>Region.binds .any e&&e.on==i
def early (ops:Array Oper)(al:List Nat)(j:Nat):Bool:=match ops[j]? with
 |some o=>al.all fun i=>!LV o i&&(match ops[i]? with|some oi=>o.apart ops oi|none=>false)
 |none=>false
def late (ops:Array Oper)(al:List Nat)(j:Nat):Bool:=match ops[j]? with
 |some o=>al.all fun i=>LV o i
 |none=>false
def TN (ops:Array Oper)(i:Nat):Option Tmp:=(ops[i]?).bind (·.dst)
def TU (ops:Array Oper)(al:List Nat):Bool:=((List.range ops.size).all fun j=>al.contains j||early ops al j||late ops al j)&&al.all fun i=>al.all fun j=>i==j||!(TN ops i==TN ops j)
def Oq (ops:Array Oper):List Nat:=(List.range ops.size).filter (Ot ops)
def jg (ops:Array Oper):List Nat:=bif TU ops (Oq ops)then Oq ops else[]
inductive Nxt where
 |done
 |float (i:Nat)
 |loud (i:Nat)
 |fork (i:Nat) (js:List Nat)
 |bad
def zD (ops:Array Oper)(al:List Nat)(L:Array Bool):Bool:=(List.range ops.size).all fun j=>L.getD j true||!early ops al j
def Vb (ops:Array Oper)(i:Nat):Bool:=match ops[i]? with
 |some o=>(match o.op with| .load .. =>false| .lookup .. =>false| .entry _=>false| .typeAssert .. =>false| .convert .. =>false| .call _=>false|_=>true)
 |none=>false
def wO (ops:Array Oper)(al:List Nat)(L:Array Bool)(i:Nat):Bool:=early ops al i&&y9 ops i&&Region.free .any ops L i&&(!barT ops||!(L.getD (ops.size-1) true))
def sQ (ops:Array Oper)(al:List Nat)(L:Array Bool):Nxt:=
 let r:=Region.ready .any ops L
 match r.find? (fun i=>Vb ops i&&wO ops al L i)with
 |some i=> .float i
 |none=>if zD ops al L then .done else match r with
  |[i]=>if early ops al i then .loud i else .bad
  |r=>match r.find? (wO ops al L)with
   |some i=> .float i
   |none=>(match r with
    |i::j::js=>if al.isEmpty then .fork i (j::js)else .bad
    |_=> .bad)
noncomputable def Uf (h:Hp)(ids:List Nat):List (Nat×AO)->(List (Nat×AO)->Bool)->Bool:=
 List.rec (motive:=fun _=>List (Nat×AO)->(List (Nat×AO)->Bool)->Bool) (fun rs k=>k rs) (fun i _ ih rs k=>au (h.get i) fun o=>ih ((i,o)::rs) k) ids
noncomputable def EJ (h:Hp)(rs:List (Nat×AO)):Bool:=List.rec (motive:=fun _=>Bool) true (fun p _ ih=>au (h.get p.1) fun o=>iff (WY o p.2) ih) rs
deriving instance DecidableEq for RV
noncomputable def oeq {α:Type}(eq:α->α->Bool)(a b:Option α):Bool:=match a,b with
 |none,none=>true
 |some a,some b=>eq a b
 |_,_=>false
noncomputable def Tr.eqB {α:Type}(eq:α->α->Bool)(t:Tr α):Tr α->Bool:=
 Tr.rec (motive:=fun _=>Tr α->Bool) (fun t=>match t with| .leaf=>true|_=>false) (fun v _ _ il ir t=>match t with| .node v' l' r'=>iff (oeq eq v v') (iff (il l') (ir r'))|_=>false) t
theorem abz {α:Type}{eq:α->α->Bool}(he: ∀a b,eq a b=true->a=b){a b:Option α}(h:oeq eq a b=true):a=b:=by
 cases a<;>cases b<;>simp[oeq]at h⊢
 exact he _ _ h
theorem Tr.WC {α:Type}{eq:α->α->Bool}(he: ∀a b,eq a b=true->a=b){t:Tr α}: ∀{t':Tr α},t.eqB eq t'=true->t=t':=by
 induction t with
 |leaf=>intro t' h;cases t' with
  |leaf=>rfl
  |node=>cases h
 |node v l r il ir=>intro t' h;cases t' with
  |leaf=>cases h
  |node v' l' r'=>
   obtain⟨h1,h⟩:=aj h
   obtain⟨h2,h3⟩:=aj h
   rw[abz he h1,il h2,ir h3]
noncomputable def Oo (l:List Nat)(f:Nat->Bool):Bool:=List.rec (motive:=fun _=>Bool) true (fun j _ ih=>iff (f j) ih) l
theorem aaR {l:List Nat}{f:Nat->Bool}(h:Oo l f=true): ∀j∈l,f j=true:=by
 induction l with
 |nil=>intro j hj;cases hj
 |cons a l ih=>
  obtain⟨h1,h2⟩:=aj h
  intro j hj
  cases hj with
  |head=>exact h1
  |tail _ hj=>exact ih h2 j hj
abbrev RS:=List (Nat×(Nat×AO))
noncomputable def RD (h:Hp)(rs:RS):Bool:=List.rec (motive:=fun _=>Bool) true (fun p _ ih=>au (h.get p.2.1) fun o=>iff (WY o p.2.2) ih) rs
noncomputable def abe:RS->RS->Bool:=fun l=>List.rec (motive:=fun _=>RS->Bool) (fun m=>match m with|[]=>true|_=>false) (fun p _ ih m=>match m with|q::m=>iff (Nat.beq p.1 q.1) (iff (Nat.beq p.2.1 q.2.1) (iff (WY p.2.2 q.2.2) (ih m)))|[]=>false) l
theorem PN: ∀{l m:RS},abe l m=true->l=m
 |[],[],_=>rfl
 |[],_::_,h=>by cases h
 |_::_,[],h=>by cases h
 |(x,i,a)::l,(y,j,b)::m,h=>by
  obtain⟨h0,h⟩:=aj h
  obtain⟨h1,h⟩:=aj h
  obtain⟨h2,h3⟩:=aj h
  have h0:x=y:=aJ h0
  have h1:i=j:=aJ h1
  have h2:a=b:=Gw h2
  rw[h0,h1,h2,PN h3]
noncomputable def FC (ops:Array Oper)(i:Nat)(h:Hp)(rs:RS)(k:RS->Bool):Bool:=
 Bool.casesOn (RD h rs) (fL (rs.filter fun p=>!sN ops p.1 i) fun rs=>iff (RD h rs) (k rs)) (k rs)
noncomputable def GV (i:Nat)(l:List (Nat×AO))(rs:RS):RS:=List.rec (motive:=fun _=>RS) rs (fun p _ ih=>(i,p)::ih) l
abbrev KR:=Nat->Array Bool->RS->Env->Hp->Nat->Bool
noncomputable def ED (n:Nat)(L:Array Bool)(rs:RS)(env:Env)(h:Hp)(nx:Nat):KR:=fun n' L' rs' env' h' nx'=>
 iff (Nat.beq n n') (iff (Nat.beq nx nx') (iff (decide (L=L')) (iff (abe rs rs') (iff (env.eqB (fun a b=>decide (a=b)) env') (h.eqB WY h')))))
theorem Xv {n n' nx nx':Nat}{L L':Array Bool}{rs rs':RS}{env env':Env}{h h':Hp}(hk:ED n L rs env h nx n' L' rs' env' h' nx'=true):n=n'/\L=L'/\rs=rs'/\env=env'/\h=h'/\nx=nx':=by
 obtain⟨h1,hk⟩:=aj hk
 obtain⟨h2,hk⟩:=aj hk
 obtain⟨h3,hk⟩:=aj hk
 obtain⟨h4,hk⟩:=aj hk
 obtain⟨h5,h6⟩:=aj hk
 exact⟨aJ h1,of_decide_eq_true h3,PN h4,Tr.WC (fun _ _=>of_decide_eq_true) h5,Tr.WC (fun _ _=>Gw) h6,aJ h2⟩
noncomputable def oq (P:Program)(g:Nat)(aU:jW)(ih:Run)(ops:Array Oper)(N:Nat)(al:List Nat)(pre:List (Nat×AO))(bF:Nat)(rec:Array Bool->RS->Env->Hp->Nat->Bool)(i:Nat)(L:Array Bool)(rs:RS)(env:Env)(h:Hp)(nx:Nat):Bool:=
 fN i fun i=>au (aA ops.toList i) fun o=>uU ops.toList o env fun want=>Bool.casesOn want (lZ N env o.dst .undef fun env=>rec (L.setIfInBounds i true) rs env h nx)
  (match o.op with
    | .buildSlice t len parts=>ES g env parts.toList fun ps=>fN (Nat.add bF i) fun r=>zV P h r t len ps fun v h=>iff (EJ h pre) (FC ops i h rs fun rs=>lZ N env o.dst v fun env=>rec (L.setIfInBounds i true) rs env h nx)
    |_=>Hl P g aU ih o env h nx fun r h nx _=>iff (EJ h pre) (FC ops i h rs fun rs=>lZ N env o.dst r fun env=>rec (L.setIfInBounds i true) rs env h nx))
noncomputable def lY (P:Program)(g:Nat)(aU:jW)(ih:Run)(ops:Array Oper)(N:Nat)(al:List Nat)(pre:List (Nat×AO))(nxb:Nat)(fuel:Nat):Array Bool->RS->Env->Hp->Nat->KR->Bool:=
 Nat.rec (motive:=fun _=>Array Bool->RS->Env->Hp->Nat->KR->Bool)
  (fun L rs env h nx k=>(match sQ ops al L with| .done=>k 0 L rs env h nx|_=>false))
  (fun n rec L rs env h nx k=>(match sQ ops al L with
    | .done=>k (Nat.succ n) L rs env h nx
    | .float i=>fN i fun i=>au (aA ops.toList i) fun o=>uU ops.toList o env fun want=>Bool.casesOn want (lZ N env o.dst .undef fun env=>rec (L.setIfInBounds i true) rs env h nx k)
       (LU P g o.op env h nx fun r h nx ids=>Uf h ids [] fun l=>fL (GV i l rs) fun rs=>lZ N env o.dst r fun env=>rec (L.setIfInBounds i true) rs env h nx k)
    | .loud i=>oq P g aU ih ops N al pre nxb (fun L rs env h nx=>rec L rs env h nx k) i L rs env h nx
    | .fork i js=>oq P g aU ih ops N al pre nxb (fun L0 xB nV h0 bF=>rec L0 xB nV h0 bF fun n1 L1 zI jw h1 zL=>
       iff (Oo js fun j=>oq P g aU ih ops N al pre nxb (fun L0 xB nV h0 bF=>rec L0 xB nV h0 bF (ED n1 L1 zI jw h1 zL)) j L rs env h nx) (k n1 L1 zI jw h1 zL)) i L rs env h nx
    | .bad=>false)) fuel
noncomputable def abm (P:Program)(ops:Array Oper)(bF:Nat)(al:List Nat):Env->Hp->List (Nat×AO)->(Env->Hp->List (Nat×AO)->Bool)->Bool:=
 List.rec (motive:=fun _=>Env->Hp->List (Nat×AO)->(Env->Hp->List (Nat×AO)->Bool)->Bool) (fun env h pre k=>k env h pre)
  (fun i _ ih env h pre k=>au (aA ops.toList i) fun o=>au o.dst fun d=>(match o.op with
    | .alloc t=>vI P t fun cs=>fN (Nat.add bF i) fun r=>h.fU r (some (.row cs t (some 0))) fun h=>env.fU d none fun env=>ih env h ((r, .row cs t (some 0))::pre) k
    |_=>false)) al
noncomputable def RY (ops:Array Oper)(N:Nat)(bF:Nat)(al:List Nat):Env->(Env->Bool)->Bool:=
 List.rec (motive:=fun _=>Env->(Env->Bool)->Bool) (fun env k=>k env)
  (fun i _ ih env k=>au (aA ops.toList i) fun o=>fN (Nat.add bF i) fun r=>lZ N env o.dst (.c (.ptr r 0)) fun env=>ih env k) al
def aa4 (ops:Array Oper)(al:List Nat):Array Bool:=al.foldl (fun L i=>L.setIfInBounds i true) (Array.replicate ops.size false)
def LG (ops:Array Oper):Bool:=ops.all fun o=>match o.op with| .select .. =>false| .defer _=>false|_=>true
noncomputable def TP (P:Program)(g:Nat)(aU:jW)(ih:Run)(ops:Array Oper)(N:Nat)(env:Env)(h:Hp)(nx:Nat)(k:Env->Hp->Nat->Bool):Bool:=
 iff (LG ops) (abm P ops nx (jg ops) env h [] fun env h pre=>iff (EJ h pre) (fN (Nat.add nx ops.size) fun nx'=>
  lY P g aU ih ops N (jg ops) pre nx (Nat.sub ops.size (llen (jg ops))) (aa4 ops (jg ops)) [] env h nx' fun n L rs env h nx'=>RY ops N nx (jg ops) env fun env=>
   lY P g aU ih ops N [] [] nx n L rs env h nx' fun n _ _ env h nx'=>iff (Nat.beq n 0) (k env h nx')))
def Rx (ops:Array Oper):Option (Oper×List SelectCase×List Oper):=match ops.toList with
 |o::rest=>(match o.op with| .select cases false=>(match o.guard with|none=>some (o,cases.toList,rest)|some _=>none)|_=>none)
 |_=>none
noncomputable def PX (P:Program)(g:Nat)(aU:jW)(ih:Run)(_id:Nat)(ops:Array Oper)(draw:Bool)(N:Nat)(env:Env)(h:Hp)(nx:Nat)(k:KX):Bool:=
 Bool.casesOn draw (match Rx ops with
  |some s=>Xr P g s.2.1 env h fun r h=>lZ N env s.1.dst r fun env=>Sj P g aU ih ops.toList N s.2.2 env h nx fun env h nx=>k .normal env h nx
  |none=>Sj P g aU ih ops.toList N ops.toList env h nx fun env h nx=>k .normal env h nx) (TP P g aU ih ops N env h nx fun env h nx=>k .normal env h nx)
noncomputable def Kt (P:Program)(g:Nat)(aU:jW)(ih:Run)(c:Code):Nat->Env->Hp->Nat->KX->Bool:=match c with
 | .skip=>fun _ env h nx k=>k .normal env h nx
 | .region id ops draw=>PX P g aU ih id ops draw
 | .seq a b=>fun N env h nx k=>ih a N env h nx fun e env h nx=>(match e with| .normal=>ih b N env h nx k|e=>k e env h nx)
 | .cond c t e=>fun N env h nx k=>bU g env c fun r=>(match r with| .c (.bool b)=>Bool.casesOn b (ih e N env h nx k) (ih t N env h nx k)|_=>false)
 | .block id c=>fun N env h nx k=>ih c N env h nx fun e env h nx=>(match e with| .exit i=>Bool.casesOn (Nat.beq i id) (k (.exit i) env h nx) (k .normal env h nx)|e=>k e env h nx)
 | .loop c=>fun N env h nx k=>ih c N env h nx fun e env h nx=>(match e with| .normal=>ih (.loop c) N env h nx k|e=>k e env h nx)
 | .exit id=>fun _ env h nx k=>k (.exit id) env h nx
 | .scope c=>fun N env h nx k=>ih c N env h nx fun e env h nx=>(match e with| .goto _=>false|e=>k e env h nx)
 | .label _=>fun _ env h nx k=>k .normal env h nx
 | .ret=>fun _ env h nx k=>k .ret env h nx
 |_=>fun _ _ _ _ _=>false
noncomputable def exec (P:Program)(g:Nat)(aU:jW)(fuel:Nat):Run:=Nat.rec (motive:=fun _=>Run) (fun _ _ _ _ _ _=>false) (fun _ ih=>Kt P g aU ih) fuel
end bC
end
end Go.Proofs.YtakhobfamnjnoaaGreatDoor
