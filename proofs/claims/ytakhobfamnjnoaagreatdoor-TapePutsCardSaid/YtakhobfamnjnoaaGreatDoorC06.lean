/- Symbolic runs: codes, looked up; how they are run. -/
import Derived.Test.YtakhobfamnjnoaaGreatDoorC05
set_option linter.unusedVariables false
set_option linter.unusedSimpArgs false
namespace Go.Proofs.YtakhobfamnjnoaaGreatDoor
section
namespace Sx
open Go Go.RowKit
structure RO where
 d:Option Nat
 o:Ox
 g:Option (Nat×Bool)
def gdO (all:List Oper):Option (Nat×Bool)->Option (Option (Nat×Bool))
 |none=>some none
 |some (j,w)=>bF (aF all j) fun o=>bF o.dst fun d=>some (some (d,w))
def aa7 (T:jE)(N:Nat)(all:List Oper)(o:Oper):Option RO:=
 bF (rop T o.op) fun r=>bF (gdO all o.guard) fun g=>match o.dst with
  |none=>some ⟨none,r,g⟩
  |some d=>(match Nat.ble (Nat.succ d) N with|true=>some ⟨some d,r,g⟩|false=>none)
def G6 (T:jE)(N:Nat)(all:List Oper):List Oper->Option (List RO)
 |[]=>some []
 |o::l=>bF (aa7 T N all o) fun r=>bF (G6 T N all l) fun m=>some (r::m)
inductive pq where
 |skip|reg (l:List RO)|draw (ops:Array Oper) (l:List RO)|seq (a b:pq)|cond (c:Operand) (a b:pq)|block (id:Nat) (c:pq)
 |loop (c:pq)|exit (id:Nat)|ret|scope (c:pq)|bad
def aie (ops:Array Oper)(d:Bool):Option (List RO)->pq
 |none=> .bad
 |some l=>match d with
  |true=> .draw ops l
  |false=> .reg l
def comp (T:jE)(N:Nat):Code->pq
 | .skip=> .skip
 | .label _=> .skip
 | .region _ ops d=>aie ops d (G6 T N ops.toList ops.toList)
 | .seq a b=> .seq (comp T N a) (comp T N b)
 | .cond c a b=> .cond c (comp T N a) (comp T N b)
 | .block id c=> .block id (comp T N c)
 | .loop c=> .loop (comp T N c)
 | .exit id=> .exit id
 | .ret=> .ret
 | .scope c=> .scope (comp T N c)
 |_=> .bad
inductive Xt where
 |normal|exit (id:Nat)|ret
def Xt.to:Xt->Exit
 | .normal=> .normal
 | .exit id=> .exit id
 | .ret=> .ret
abbrev KX:=Xt->bK->Hp->Prop
structure Fr (ρ:Ren)(N:Nat)(e:bK)(a:Act):Prop where
 er: ∀i,GR ρ (eg e i) (a.tmps.getD i undef)
 size:a.tmps.size=N
 kE:a.defers=[]
def MC (P:Program)(N n:Nat)(c:Code)(e:bK)(h:Hp)(k:KX):Prop:=n<=h.length-> ∀ρ O a w,HR P ρ h O w->Fr ρ N e a-> ∀Q:Exit->Act->World->Prop,
 (∀x e' h' ρ' O' a' w',k x e' h'->Le n ρ ρ'->Fm ρ.fz O w ρ'.fz O' w'->HR P ρ' h' O' w'->n<=h'.length->Fr ρ' N e' a'->Q x.to a' w')->c.wp P Q a w
structure O7 (P:Program)(N n:Nat)(c:pq)(e:bK)(h:Hp)(k:KX):Prop where
 h: ∀(T:jE)(_:lN P T) code,comp T N code=c->MC P N n (.loop code) e h k
structure O8 (P:Program)(N n:Nat)(ops:Array Oper)(l:List RO)(e:bK)(h:Hp)(k:bK->Hp->Prop):Prop where
 h: ∀(T:jE)(_:lN P T),G6 T N ops.toList ops.toList=some l-> ∀id,MC P N n (.region id ops true) e h fun x e h=>match x with
  | .normal=>k e h
  |_=>False
section
variable (bx:{α:Type}->α->α)
def wants (g:Option (Nat×Bool))(e:bK)(yes no:bK->Prop):Prop:=match g with
 |none=>yes e
 |some (s,true)=>(match eg e s with
  | .a (.c (.p .tt))=>yes e
  | .a (.c (.p .ff))=>no e
  | .a (.c (.p (.bool b)))=>BrS b (fun _=>yes (fM .u e s (.a (.c (.p .tt))))) (fun _=>no (fM .u e s (.a (.c (.p .ff)))))
  | .aK []=>no e
  |_=>False)
 |some (s,false)=>(match eg e s with
  | .a (.c (.p .tt))=>no e
  | .a (.c (.p .ff))=>yes e
  | .a (.c (.p (.bool b)))=>BrS b (fun _=>no (fM .u e s (.a (.c (.p .tt))))) (fun _=>yes (fM .u e s (.a (.c (.p .ff)))))
  | .aK []=>no e
  |_=>False)
def YI (P:Program):List RO->bK->Hp->(bK->Hp->Prop)->Prop
 |[],e,h,k=>k e h
 |o::l,e,h,k=>wants o.g e (fun e=>qc bx P o.o e h fun _ r h=>YI P l (es e o.d r) h k) (fun e=>YI P l (es e o.d .undef) h k)
def run (P:Program)(N n:Nat):pq->bK->Hp->KX->Prop
 | .skip,e,h,k=>k .normal e h
 | .reg l,e,h,k=>YI bx P l e h fun e h=>k .normal e h
 | .draw ops l,e,h,k=>O8 P N n ops l e h fun e h=>k .normal e h
 | .seq a b,e,h,k=>run P N n a e h fun x e h=>match x with
   | .normal=>run P N n b e h k
   |x=>k x e h
 | .cond c a b,e,h,k=>(match ev e c with
   | .a (.c (.p .tt))=>run P N n a e h k
   | .a (.c (.p .ff))=>run P N n b e h k
   | .a (.c (.p (.bool q)))=>(match c with
     | .tmp t=>BrS q (fun _=>run P N n a (fM .u e t (.a (.c (.p .tt)))) h k) (fun _=>run P N n b (fM .u e t (.a (.c (.p .ff)))) h k)
     |_=>False)
   |_=>False)
 | .block id c,e,h,k=>run P N n c e h fun x e h=>match x with
   | .exit i=>(match Nat.beq i id with|true=>k .normal e h|false=>k (.exit i) e h)
   |x=>k x e h
 | .loop c,e,h,k=>O7 P N n c e h k
 | .exit id,e,h,k=>k (.exit id) e h
 | .ret,e,h,k=>k .ret e h
 | .scope c,e,h,k=>run P N n c e h k
 | .bad,_,_,_=>False
inductive RR where
 |tmp (t:Nat)|cell (n:Option Nat) (c:Nat)|bad
def rr (T:jE):List ResultVar->List RR
 |[]=>[]
 | .tmp t::l=> .tmp t::rr T l
 | .cell c t::l=>(match agg T t with|some n=> .cell n c|none=> .bad)::rr T l
def zA (e:bK)(h:Hp):List RR->(List AV->Prop)->Prop
 |[],k=>k []
 | .tmp t::l,k=>(match eg e t with
   | .a v=>zA e h l fun r=>k (v::r)
   |_=>False)
 | .cell n c::l,k=>(match eg e c with
   | .a (.c (.ptr i j o))=>acc bx h i j fun ob=>(match ob with
     | .row l' _=>y5 n l' o fun r=>(match r with| .a v=>zA e h l fun r=>k (v::r)|_=>False)
     | .bH l' _=>OL bx n l' o fun r=>(match r with| .a v=>zA e h l fun r=>k (v::r)|_=>False)
     |_=>False)
   |_=>False)
 | .bad::_,_=>False
def WT (k:RV->Prop):List AV->Prop
 |[v]=>k (.a v)
 |l=>k (.aK l)
def avs:List AV->bK
 |[]=>[]
 |v::l=> .a v::avs l
structure FnR where
 N:Nat
 res:List RR
 c:pq
def JX (T:jE)(fn:Func):Option FnR:=bF fn.body fun c=>match fn.name== "runtime.NumGoroutine" with
 |true=>none
 |false=>some ⟨fn.ntmps,rr T fn.results.toList,comp T fn.ntmps c⟩
def fin (res:List RR)(k:RV->Hp->Prop)(x:Xt)(e:bK)(h:Hp):Prop:=match x with
 | .exit _=>False
 |_=>zA bx e h res fun l=>WT (fun r=>k r h) l
def body (P:Program)(args:List AV)(h:Hp)(k:RV->Hp->Prop):Option FnR->Prop
 |none=>False
 |some f=>(match Nat.ble (llen args) f.N with|true=>run bx P f.N (llen h) f.c (avs args) h (fin bx f.res k)|false=>False)
end
end Sx
end
section
namespace Sx
open Go Go.RowKit
theorem ah {α:Type}{o:Option α}{k:α->Prop}(h:au o k): ∃a,o=some a/\k a:=by
 cases o with
 |none=>exact h.elim
 |some a=>exact⟨a,rfl,h⟩
theorem aA {α β:Type}{o:Option α}{f:α->Option β}{b:β}(h:bF o f=some b): ∃a,o=some a/\f a=some b:=by
 cases o with
 |none=>cases h
 |some a=>exact⟨a,rfl,h⟩
theorem aQ {a b:Nat}(h:Nat.beq a b=true):a=b:=Nat.eq_of_beq_eq_true h
theorem aT {a b:Nat}(h:Nat.ble a b=true):a<=b:=Nat.le_of_ble_eq_true h
section
variable {P:Program} {T:jE} [lN P T]
theorem qY {t:TypeId}{i:TypeInfo}(h:inf T t=some i):P.info? t=some i:=by
 have e2:P.types[t]?=some i:=by
  unfold inf oid at h
  rw[lN.ok (P:=P) (T:=T),Array.getElem?_map]
  split at h
  ·rename_i f hf;rw[hf];exact h
  ·cases h
 have h2:t<P.types.size:=(Array.getElem?_eq_some_iff.1 e2).1
 have:P.info? t=P.types[t]?:=by show(if t<P.types.size then P.types[t]? else _)=_;rw[if_pos h2]
 rw[this,e2]
theorem eX {t:TypeId}{d:TypeDesc}(h:und T t=some d):P.underlying t=some d:=by
 unfold und at h
 unfold Program.underlying
 cases hi:inf T t with
 |none=>rw[hi]at h;cases h
 |some i=>
  rw[hi]at h
  rw[qY (P:=P) hi]
  obtain⟨desc⟩:=i
  cases desc<;>try exact h
  dsimp only at h
  split at h
  ·rename_i j hj
   show Option.map (·.desc) (P.info? _)=some d
   rw[qY (P:=P) hj]
   exact h
  ·cases h
theorem rU {t n:Nat}(ht:zV T t=some n)(w:World):(sizeOf t).run P w= .ok n w:=by
 unfold zV at ht
 split at ht
 ·rename_i i hi
  cases ht
  simp[sizeOf,typeInfo,qY (P:=P) hi]
 ·cases ht
theorem KH {t:TypeId}{n:Option Nat}(ht:agg T t=some n)(w:World):(isAgg t).run P w= .ok n.isSome w/\ ∀m,n=some m->(sizeOf t).run P w= .ok m w:=by
 unfold agg at ht
 cases hd:und T t with
 |none=>rw[hd]at ht;cases ht
 |some d=>
  cases hi:inf T t with
  |none=>rw[hd,hi]at ht;cases d<;>cases ht
  |some i=>
   rw[hd,hi]at ht
   have hu:=eX (P:=P) hd
   have hs: ∀m,some i.size=some m->(sizeOf t).run P w= .ok m w:=fun m e=>by cases e;simp[sizeOf,typeInfo,qY (P:=P) hi]
   cases d<;>(cases ht;first|exact⟨by simp[isAgg,run_underlying hu],hs⟩|exact⟨by simp[isAgg,run_underlying hu],fun _ e=>by cases e⟩)
end
section
variable {ρ:Ren}
theorem Zh {v:Value}{c:PV}(h:ofP v=some c):GP ρ.fz c v:=by
 unfold ofP at h
 split at h<;>cases h<;>rfl
theorem LC: ∀{l:List Value}{c:List SV},Qv l=some c->F2 (G ρ) c l
 |[],_,h=>by cases h;exact .nil
 |v::l,c,h=>by
  unfold Qv at h
  split at h
  ·rename_i p r h1 h2
   cases h
   exact .cons (.p (Zh h1)) (LC h2)
  ·cases h
theorem Zg (v:Value):GR ρ (ofV v) v:=by
 unfold ofV
 split
 ·rename_i cs
  split
  ·rename_i l h
   have:=GA.agg (LC (ρ:=ρ) h)
   exact .a (by simpa using this)
  ·exact .u _
 ·rename_i ts
  split
  ·rename_i h
   have:ts= #[]:=by apply Array.ext';simpa using h
   subst this
   exact .undef
  ·exact .u _
 ·split
  ·rename_i p h
   exact .a (.c (.p (Zh h)))
  ·exact .u _
variable {N:Nat} {e:bK} {a:Act}
theorem Fv (hF:Fr ρ N e a)(x:Operand):GR ρ (ev e x) (a.eval x):=by
 cases x with
 |tmp t=>exact hF.er t
 |const v=>exact Zg v
 |global g=>exact .u _
 |func f=>exact .a (.c (.p rfl))
theorem Az (hF:Fr ρ N e a): ∀{l:List Operand}{r:List AV},evs e l=some r->F2 (GA ρ) r (l.map a.eval)
 |[],_,h=>by cases h;exact .nil
 |x::l,r,h=>by
  unfold evs at h
  split at h
  ·rename_i v m h1 h2
   cases h
   have:=Fv hF x
   rw[h1]at this
   cases this with
   |a this=>exact .cons this (Az hF h2)
  ·cases h
theorem PI {r:RV}{x:Value}{l:List SV}(hr:Uy r=some l)(hx:GR ρ r x): ∃xs:List Value,x.cells=xs.toArray/\F2 (G ρ) l xs:=by
 unfold Uy at hr
 split at hr
 ·cases hr
  cases hx with
  |a hx=>cases hx with
   |c hx=>exact⟨[_],hx.cells, .cons hx .nil⟩
 ·cases hr
  cases hx with
  |a hx=>cases hx with
   |agg hx=>exact⟨_,rfl,hx⟩
 ·cases hr
theorem FC: ∀(e:bK)(d i:Nat)(v:RV),eg (fM .u e d v) i=if i=d then v else eg e i
 |[],0,0,v=>rfl
 |[],0,i+1,v=>by simp[fM,eg]
 |[],d+1,0,v=>by simp[fM,eg]
 |[],d+1,i+1,v=>by simp[fM,eg,FC [] d i v]
 |_::_,0,0,v=>rfl
 |_::_,0,i+1,v=>by simp[fM,eg]
 |_::_,d+1,0,v=>by simp[fM,eg]
 |_::e,d+1,i+1,v=>by simp[fM,eg,FC e d i v]
theorem Fr.put (hF:Fr ρ N e a){d:Option Nat}(hd: ∀i,d=some i->i<N){v:RV}{x:Value}(hx:GR ρ v x):Fr ρ N (es e d v) (a.put d x):=by
 cases d with
 |none=>exact hF
 |some d=>
  have hd:=hd d rfl
  refine⟨fun i=>?_,by simp[Act.put,hF.size],hF.kE⟩
  simp only[es,Act.put,FC]
  by_cases hi:i=d
  ·subst hi
   rw[if_pos rfl]
   have:(a.tmps.setIfInBounds i x).getD i undef=x:=by simp[Array.getD_eq_getD_getElem?,hF.size,hd]
   rw[this];exact hx
  ·rw[if_neg hi]
   have:(a.tmps.setIfInBounds d x).getD i undef=a.tmps.getD i undef:=by simp[Array.getD_eq_getD_getElem?,Array.getElem?_setIfInBounds_ne (Ne.symm hi)]
   rw[this];exact hF.er i
theorem Fr.tell (hF:Fr ρ N e a){s:Nat}{v:RV}(hv:GR ρ v (a.tmps.getD s undef)):Fr ρ N (fM .u e s v) a:=
 ⟨fun i=>by
   rw[FC]
   by_cases hi:i=s
   ·subst hi;rw[if_pos rfl];exact hv
   ·rw[if_neg hi];exact hF.er i,hF.size,hF.kE⟩
theorem Fr.mono {ρ':Ren}(hρ:ρ.le ρ')(hF:Fr ρ N e a):Fr ρ' N e a:=⟨fun i=>(hF.er i).mono hρ,hF.size,hF.kE⟩
end
section
variable {P:Program} {T:jE} [lN P T] {ρ:Ren} {h:Hp} {O:Own} {w:World}
abbrev I0:{α:Type}->α->α:=fun{_} x=>x
theorem jQ {i k:Nat}{K:AO->Prop}(hk:acc I0 h i k K): ∃o,bI h i k=some o/\K o:=by
 unfold acc at hk
 unfold bI
 split at hk
 ·rename_i o ho
  split at hk
  ·exact⟨o,by rw[ho];rfl,hk⟩
  ·exact hk.elim
 ·rename_i f hf
  obtain⟨⟨o,h1,h2⟩⟩:=hk
  exact⟨o,by rw[hf];exact h1,h2⟩
 ·exact hk.elim
theorem rQ {w:World}{b o:Nat}{cs:Array Value}{e:TypeId}{fr:Nat×Nat}(hh:w.heap[b]?=some (.cells cs e fr)):w.cell? ⟨b,o,none⟩=cs[o]?:=by simp[World.cell?,hh]
theorem Qd: ∀(l:List PV),YX l=l.map .p
 |[]=>rfl
 |a::l=>congrArg (SV.p a:: ·) (Qd l)
theorem AU: ∀{l:List SV}{p:List PV},wu l=some p->l=p.map .p
 |[],_,h=>by cases h;rfl
 | .p a::l,p,h=>by
   unfold wu at h
   split at h
   ·rename_i r hr
    cases h
    rw[AU hr];rfl
   ·cases h
 | .ptr .. ::_,_,h| .pts .. ::_,_,h| .fp _::_,_,h| .sl .. ::_,_,h| .mp .. ::_,_,h| .ch .. ::_,_,h| .clo .. ::_,_,h=>by cases h
theorem FD {l c:List PV}{off n:Nat}(h:zK l off n=some c):off+n<=l.length/\c=(l.drop off).take n:=by
 unfold zK at h
 split at h
 ·cases h;exact⟨by assumption,rfl⟩
 ·cases h
theorem Bz {t:TypeId}{n:Option Nat}(ha:agg T t=some n){b base:Nat}{cells:List SV}{c:List SV}{off:Nat}(hc:(cells.drop off).take (one1 n)=c)(hl:off+one1 n<=cells.length){cs:Array Value}{e:TypeId}{fr:Nat×Nat}
 (hh:w.heap[b]?=some (.cells cs e fr)) (hcs: ∀j v,cells[j]?=some v-> ∃x,G ρ v x/\cs[base+j]?=some x):
 ∃xs,F2 (G ρ) c xs/\ ∀w',(∃e fr,w'.heap[b]?=some (.cells cs e fr))->(loadVar t ⟨b,base+off,none⟩).run P w'= .ok (match n with|none=>xs.headD undef|some _=> .agg xs.toArray) w':=by
 have hlen:c.length=one1 n:=by rw[<-hc];simp;omega
 obtain⟨xs,h1,h2⟩:=Fj (R:=G ρ) (l:=c) (f:=fun j=>cs[base+off+j]?) fun j v hv=>by
  rw[<-hc,List.getElem?_take]at hv
  split at hv
  ·rw[List.getElem?_drop]at hv
   obtain⟨x,h1,h2⟩:=hcs _ _ hv
   exact⟨x,h1,by rw[Nat.add_assoc];exact h2⟩
  ·cases hv
 refine⟨xs,h1,fun w' ⟨e',fr',hw'⟩=>?_⟩
 obtain⟨ha1,ha2⟩:=KH (P:=P) ha w'
 have hx:xs.length=one1 n:=by rw[<-dw h1,hlen]
 cases n with
 |none=>
  cases xs with
  |nil=>simp[one1]at hx
  |cons x xs=>
   have:=h2 0 x rfl
   simp[loadVar,ha1,rQ hw',show cs[base+off]?=some x from this]
 |some m=>
  have hcell: ∀j x,xs[j]?=some x->w'.cell? ((⟨b,base+off,none⟩:Addr).add j)=some x:=fun j x hj=>by rw[Addr.add_lit,rQ hw'];exact h2 j x hj
  have:=run_loadCells_list (P:=P) w' _ xs hcell
  rw[show xs.length=m from hx]at this
  simp[loadVar,ha1,ha2 m rfl,this]
end
end Sx
end
section
namespace Sx
open Go Go.RowKit
section
variable {P:Program} {T:jE} [lN P T] {ρ:Ren}
abbrev Pu (P:Program)(ρ:Ren)(k:RV->Prop)(s:Sem Value):Prop:= ∃r x,k r/\GR ρ r x/\ ∀w,s.run P w= .ok x w
theorem same_eq {q q':IntKind}(h:same q q'=true):q=q':=by cases q<;>cases q'<;>first|rfl|cases h
theorem sJ (q:IntKind)(n:Int):wr q n=q.wrap n:=by
 cases q<;>first|rfl|(show wrap64 n=_;unfold wrap64;exact(IntKind.wrap_i64 n).symm)
theorem eH {q:IntKind}{k:RV->Prop}{n:Int}{s:Sem Value}(h:k (.a (.c (.p (.int q n)))))(hs: ∀w,s.run P w= .ok (.int q n) w):Pu P ρ k s:=⟨_,_,h, .a (.c (.p rfl)),hs⟩
theorem yg {q:IntKind}{k:RV->Prop}{n:Int}{s:Sem Value}(h:kl q k n)(hs: ∀w,s.run P w= .ok (.int q n) w):Pu P ρ k s:=⟨_,_,h, .a (.c (.p rfl)),hs⟩
theorem dF {k:RV->Prop}{b:Bool}{s:Sem Value}(h:k (.a (.c (.p (.bool b)))))(hs: ∀w,s.run P w= .ok (.bool b) w):Pu P ρ k s:=⟨_,_,h, .a (.c (.p rfl)),hs⟩
theorem yY {k:RV->Prop}{b:Bool}{s:Sem Value}(h:kb k b)(hs: ∀w,s.run P w= .ok (.bool b) w):Pu P ρ k s:=by
 cases b
 ·exact⟨_,_,h, .a (.c (.p rfl)),hs⟩
 ·exact⟨_,_,h, .a (.c (.p rfl)),hs⟩
theorem SE {op:BinOp}{t:TypeId}{q q':IntKind}{a b:Int}{k:RV->Prop}(hq:Xq op=true\/q=q')(h:biS I0 op q a b k):Pu P ρ k (binOp op t (.int q a) (.int q' b)):=by
 cases op<;>(first|(rcases hq with hq|rfl;·cases hq;done)|skip)<;>simp only[biS]at h
 case add=>exact eH h fun w=>by simp[binOp,Op.intArith,sJ];try rfl
 case sub=>exact eH h fun w=>by simp[binOp,Op.intArith,sJ];try rfl
 case mul=>exact eH h fun w=>by simp[binOp,Op.intArith,sJ];try rfl
 case quo=>
  obtain⟨h0,h⟩:=h
  have h0: ¬b=0:=by simpa using h0
  exact eH h fun w=>by simp[binOp,Op.intDiv,h0,sJ]
 case rem=>
  obtain⟨h0,h⟩:=h
  have h0: ¬b=0:=by simpa using h0
  exact eH h fun w=>by simp[binOp,Op.intDiv,h0]
 case and=>exact eH h fun w=>by simp only[binOp,Op.intBits,bit,ne_eq,not_true,if_false];simp only[BitVec.toNat_and];rfl
 case or=>exact eH h fun w=>by simp only[binOp,Op.intBits,bit,ne_eq,not_true,if_false];simp only[BitVec.toNat_or];rfl
 case xor=>exact eH h fun w=>by simp only[binOp,Op.intBits,bit,ne_eq,not_true,if_false];simp only[BitVec.toNat_xor];rfl
 case shl=>
  obtain⟨h0,h⟩:=h
  have h0:0<=b:=by simpa using h0
  exact eH h fun w=>by simp[binOp,Op.shift,sJ];omega
 case shr=>
  obtain⟨h0,h⟩:=h
  have h0:0<=b:=by simpa using h0
  exact eH h fun w=>by simp[binOp,Op.shift];omega
 case eql=>exact dF h fun w=>by simp[binOp,Op.intCmp];try rfl
 case neq=>exact dF h fun w=>by simp[binOp,Op.intCmp];try rfl
 case lss=>exact dF h fun w=>by simp[binOp,Op.intCmp]
 case leq=>exact dF h fun w=>by simp[binOp,Op.intCmp]
 case gtr=>exact dF h fun w=>by simp[binOp,Op.intCmp]
 case geq=>exact dF h fun w=>by simp[binOp,Op.intCmp]
 all_goals exact h.elim
theorem agI {op:BinOp}{t:TypeId}{q:IntKind}{a b:Int}{k:RV->Prop}(h:biL op q a b k):Pu P ρ k (binOp op t (.int q a) (.int q b)):=by
 cases op<;>simp only[biL]at h
 case add=>exact yg h fun w=>by simp[binOp,Op.intArith];try rfl
 case sub=>exact yg h fun w=>by simp[binOp,Op.intArith];try rfl
 case mul=>exact yg h fun w=>by simp[binOp,Op.intArith];try rfl
 case quo=>
  cases h0:decide (b=0)with
  |true=>rw[h0]at h;exact h.elim
  |false=>
   rw[h0]at h
   have h0: ¬b=0:=by simpa using h0
   exact yg h fun w=>by simp[binOp,Op.intDiv,h0]
 case rem=>
  cases h0:decide (b=0)with
  |true=>rw[h0]at h;exact h.elim
  |false=>
   rw[h0]at h
   have h0: ¬b=0:=by simpa using h0
   exact yg h fun w=>by simp[binOp,Op.intDiv,h0]
 case eql=>exact yY h fun w=>by simp[binOp,Op.intCmp];try rfl
 case neq=>exact yY h fun w=>by simp[binOp,Op.intCmp];try rfl
 case lss=>exact yY h fun w=>by simp[binOp,Op.intCmp]
 case leq=>exact yY h fun w=>by simp[binOp,Op.intCmp]
 case gtr=>exact yY h fun w=>by simp[binOp,Op.intCmp]
 case geq=>exact yY h fun w=>by simp[binOp,Op.intCmp]
 all_goals exact h.elim
theorem agK {op:BinOp}{t:TypeId}{q q':IntKind}{a b:Int}{k:RV->Prop}(hq:Xq op=true\/q=q')(h:biD I0 op q a b k):Pu P ρ k (binOp op t (.int q a) (.int q' b)):=by
 unfold biD at h
 split at h
 ·rename_i h0
  rcases hq with hq|rfl
  ·cases hq
  have h0: ¬b=0:=by simpa using h0
  exact eH h fun w=>by simp[binOp,Op.intDiv,h0,sJ]
 ·rename_i h0
  rcases hq with hq|rfl
  ·cases hq
  have h0: ¬b=0:=by simpa using h0
  exact eH h fun w=>by simp[binOp,Op.intDiv,h0]
 ·exact h.elim
 ·exact h.elim
 ·exact SE hq h
theorem Lc {op:BinOp}{q q':IntKind}(h:PU op q q'=true):Xq op=true\/q=q':=by
 unfold PU at h
 split at h
 ·exact .inl (by assumption)
 ·exact .inr (same_eq h)
theorem abV {op:BinOp}{t:TypeId}{xo yo:Operand}{x y:Value}(h1:x≠ .nilIface)(h2: ∀c,x≠ .agg c)(w:World):(eqGuard op t xo yo x y).run P w= .ok () w:=by
 cases x<;>first|exact absurd rfl h1|exact absurd rfl (h2 _)|(cases op<;>first|rfl|(cases y<;>rfl))
theorem guarded {op:BinOp}{t:TypeId}{xo yo:Operand}{x y:Value}{k:RV->Prop}(h1:x≠ .nilIface)(h2: ∀c,x≠ .agg c)(h:Pu P ρ k (binOp op t x y)):Pu P ρ k (do eqGuard op t xo yo x y;binOp op t x y):=by
 obtain⟨r,v,h3,h4,h5⟩:=h
 exact⟨r,v,h3,h4,fun w=>by simp only[Sem.run_bind,abV h1 h2 w,Result.andThen_ok,h5]⟩
theorem ahA {op:BinOp}{t:TypeId}{xo yo:Operand}{x y:RV}{vx vy:Value}{k:RV->Prop}(hx:GR ρ x vx)(hy:GR ρ y vy)(h:bi I0 op x y k):Pu P ρ k (do eqGuard op t xo yo vx vy;binOp op t vx vy):=by
 unfold bi at h
 split at h
 ·split at h
  ·rename_i hq
   have hq:=same_eq hq
   subst hq
   cases hx with|a hx=>cases hx with|c hx=>cases hx with|p hx=>cases hy with|a hy=>cases hy with|c hy=>cases hy with|p hy=>
    cases hx;cases hy
    exact guarded (by simp) (by simp) (agI h)
  ·exact h.elim
 ·split at h
  ·rename_i hq
   cases hx with|a hx=>cases hx with|c hx=>cases hx with|p hx=>cases hy with|a hy=>cases hy with|c hy=>cases hy with|p hy=>
    cases hx;cases hy
    exact guarded (by simp) (by simp) (agK (Lc hq) h)
  ·exact h.elim
 ·split at h
  ·rename_i hq
   cases hx with|a hx=>cases hx with|c hx=>cases hx with|p hx=>cases hy with|a hy=>cases hy with|c hy=>cases hy with|p hy=>
    cases hx;cases hy
    exact guarded (by simp) (by simp) (SE (Lc hq) h)
  ·exact h.elim
 ·split at h
  ·rename_i hq
   cases hx with|a hx=>cases hx with|c hx=>cases hx with|p hx=>cases hy with|a hy=>cases hy with|c hy=>cases hy with|p hy=>
    cases hx;cases hy
    exact guarded (by simp) (by simp) (SE (Lc hq) h)
  ·exact h.elim
 ·exact h.elim
theorem adw {op:BinOp}{t:TypeId}{xo yo:Operand}{x y:ByteArray}{k:RV->Prop}(h:aaS I0 op x y k):Pu P ρ k (do eqGuard op t xo yo (.string x) (.string y);binOp op t (.string x) (.string y)):=by
 refine guarded (by simp) (by simp) ?_
 unfold aaS at h
 split at h
 ·obtain⟨h0,h⟩:=h
  have h0:x.size+y.size<=1099511627776:=by simpa using h0
  refine⟨_,_,h, .a (.c (.p rfl)),fun w=>?_⟩
  show(Op.stringOp .add x y).run P w=_
  exact run_string_add_sum w x y (Nat.le_trans h0 (by omega))
 ·exact dF h fun w=>by show(Op.stringOp .eql x y).run P w=_;simp[Op.stringOp]
 ·exact dF h fun w=>by show(Op.stringOp .neq x y).run P w=_;simp[Op.stringOp]
 ·exact h.elim
end
end Sx
end
end Go.Proofs.YtakhobfamnjnoaaGreatDoor
