/- DERIVED: THE SHELF's CONTRACTS AT THIS DUMP, IN PLAIN WORDS (tools/lay-plain.mjs out of 'YtakhobfamnjnoaaGreatDoorShelj.lean', which tools/lay-shelf.mjs wrote): THE SAME DECLARATIONS UNDER THE SAME NAMES: 'import', 'namespace', 'open', 'def', 'theorem' AND NOTHING ELSE: no command of the shelf's: FOR A HAND-IN. Each laying: the table of numbers ('.._ren') and one theorem, a field a fact of the dump's own or the kernel's comparison; each contract: ONE APPLICATION. -/
import Derived.Shelf.SlGeneric
import Derived.Shelf.Strings.OnBuilder
import Derived.Test.YtakhobfamnjnoaaGreatDoorB25
import Derived.Test.YtakhobfamnjnoaaGreatDoorB26
set_option linter.unusedVariables false
set_option linter.unusedSimpArgs false
namespace Go.Proofs
open Go.Shelf
def Tryz.joinL_ren:Go.Shelf.Ren:=⟨fun|156=>95|165=>140|166=>141|169=>142|240=>202|241=>203|276=>288|277=>289|n=>n,fun|31=>115|9=>9|3=>3|4=>4|0=>0|20=>20|72=>199|76=>203|70=>197|37=>107|75=>202|127=>278|164=>393|5=>5|80=>129|n=>n,fun|n=>n⟩
theorem Tryz.joinL:Go.Proofs.Lays.n156 Tryz.prog Tryz.joinL_ren:={
 mixed:=by kernel_rfl
 f156:=Tryz.func95.trans (congrArg some (by kernel_rfl))
 f165:=Tryz.func140.trans (congrArg some (by kernel_rfl))
 f166:=Tryz.func141.trans (congrArg some (by kernel_rfl))
 f169:=Tryz.func142.trans (congrArg some (by kernel_rfl))
 f240:=Tryz.func202.trans (congrArg some (by kernel_rfl))
 f241:=Tryz.func203.trans (congrArg some (by kernel_rfl))
 f276:=Tryz.func288.trans (congrArg some (by kernel_rfl))
 f277:=Tryz.func289.trans (congrArg some (by kernel_rfl))
 t0:=Tryz.underlying0
 a0:=Tryz.isAgg0
 z0:=Tryz.sizeOf0
 v0:=Tryz.zeroValue0
 t3:=Tryz.underlying3
 a3:=Tryz.isAgg3
 z3:=Tryz.sizeOf3
 v3:=Tryz.zeroValue3
 t4:=Tryz.underlying4
 a4:=Tryz.isAgg4
 z4:=Tryz.sizeOf4
 v4:=Tryz.zeroValue4
 t9:=Tryz.underlying9
 a9:=Tryz.isAgg9
 z9:=Tryz.sizeOf9
 v9:=Tryz.zeroValue9
 t20:=Tryz.underlying20
 a20:=Tryz.isAgg20
 z20:=Tryz.sizeOf20
 v20:=Tryz.zeroValue20
 t31:=Tryz.underlying115
 a31:=Tryz.isAgg115
 z31:=Tryz.sizeOf115
 v31:=Tryz.zeroValue115
 t37:=Tryz.underlying107
 a37:=Tryz.isAgg107
 z37:=Tryz.sizeOf107
 v37:=Tryz.zeroValue107
 t70:=Tryz.underlying197
 a70:=Tryz.isAgg197
 z70:=Tryz.sizeOf197
 v70:=Tryz.zeroValue197
 t72:=Tryz.underlying199
 a72:=Tryz.isAgg199
 z72:=Tryz.sizeOf199
 v72:=Tryz.zeroValue199
 t75:=Tryz.underlying202
 a75:=Tryz.isAgg202
 z75:=Tryz.sizeOf202
 v75:=Tryz.zeroValue202
 t76:=Tryz.underlying203
 a76:=Tryz.isAgg203
 z76:=Tryz.sizeOf203
 v76:=Tryz.zeroValue203
 t127:=Tryz.underlying278
 a127:=Tryz.isAgg278
 z127:=Tryz.sizeOf278
 v127:=Tryz.zeroValue278
 t164:=Tryz.underlying393
 a164:=Tryz.isAgg393
 z164:=Tryz.sizeOf393
 v164:=Tryz.zeroValue393}
theorem Tryz.joinX:Builder.Extra Tryz.prog Tryz.joinL_ren:={
 sizeBuilder:=by kernel_rfl
 liesBuilder:=by kernel_rfl
 t5:=Tryz.underlying5
 a5:=Tryz.isAgg5
 z5:=Tryz.sizeOf5
 v5:=Tryz.zeroValue5
 infoByte:=by kernel_rfl
 cellsByte:=by kernel_rfl
 sizeByte:=by kernel_rfl
 neB5:=by decide}
end Go.Proofs
namespace Go.Proofs.YtakhobfamnjnoaaGreatDoor
section
namespace Sx
open Go Go.RowKit _root_.Go.Proofs.Tryz
section
variable {P:Program} {ρ:Ren} {h:Hp} {O:Own} {w w':World}
theorem HR.kept (H:HR P ρ h O w)(hk:Kept none' w w'):HR P ρ h O w':=
 ⟨fun i k o ho=>(H.ob i k o ho).frame fun b _ hlt=>hk.block b hlt id,H.dj,fun i k b hb=>Nat.lt_of_lt_of_le (H.lt i k b hb) hk.size,H.live,H.fr,H.on,H.sg,H.of,fun b cs hb=>by
   obtain⟨⟨e,fr,h1⟩,h2⟩:=H.fz b cs hb
   exact⟨⟨e,fr,by rw[hk.block b (Array.getElem?_eq_some_iff.1 h1).1 id];exact h1⟩,h2⟩,Nat.le_trans H.sz hk.size⟩
def Ren.more (ρ:Ren)(N:Fz):Ren:={ρ with fz:=fun b=>match ρ.fz b with|some c=>some c|none=>N b}
theorem Ren.Qr (ρ:Ren)(N:Fz):ρ.le (ρ.more N):=⟨fun _ _ _ h=>h,fun b cs hb=>by show(match ρ.fz b with|some c=>some c|none=>N b)=some cs;rw[hb],fun _ h=>h⟩
theorem HR.more (H:HR P ρ h O w){N:Fz}(hN: ∀b cs,N b=some cs->(∃e fr,w.heap[b]?=some (.cells cs e fr))/\ ∀i k,¬O i k b):HR P (ρ.more N) h O w:=
 ⟨fun i k o ho=>(H.ob i k o ho).mono (ρ.Qr N),H.dj,H.lt,H.live,H.fr,H.on,H.sg,H.of,fun b cs hb=>by
   have hb:(match ρ.fz b with|some c=>some c|none=>N b)=some cs:=hb
   cases hf:ρ.fz b with
   |some c=>rw[hf]at hb;cases hb;exact H.fz b _ hf
   |none=>rw[hf]at hb;exact hN b cs hb,H.sz⟩
theorem Ct.of {f:FuncId}{F:Func}(hf:P.funcs[f]?=some F)(hF:F.body.isSome=true)(hn:(F.name== "runtime.NumGoroutine")=false){args:List AV}{K:RV->Hp->Prop}(hc: ∀ρ O w xs,HR P ρ h O w->F2 (GA ρ) args xs->Calls P f xs.toArray w fun e w'=> ∃x,e= .returned x/\Kept none' w w'/\
 ∃(N:Fz)(r:RV),(∀b cs,N b=some cs->w.heap.size<=b/\ ∃e fr,w'.heap[b]?=some (.cells cs e fr))/\K r h/\GR (ρ.more N) r x):Ct P f args h K:=by
 refine⟨fun w xs=>?_,fun ρ O w xs H hx=>(hc ρ O w xs H hx).mono ?_⟩
 ·obtain⟨c,h3⟩:=Option.isSome_iff_exists.1 hF
  have hb': ¬F.body=none:=by simp[h3]
  have hn': ¬F.name= "runtime.NumGoroutine":=by simpa using hn
  simp[callFunc,hf,hn',hb']
 ·rintro e w' ⟨x,rfl,hk,N,r,hN,hK,hr⟩
  refine⟨rng (llen h),r,x,ρ.more N,h,O,rfl,⟨rfl,hK⟩,ρ.Qr N,⟨hk.os,hk.tape,hk.output,hk.size,fun b hb _=>hk.block b hb id,fun _ _ h=>h,fun b cs hb hlt=>?_⟩,(H.kept hk).more fun b cs hb=>⟨(hN b cs hb).2,fun i k ho=>?_⟩,Nat.le_refl _,fun i k q _ hq=>⟨hq,hk.block q (H.lt i k q hq) id⟩,hr⟩
  ·have hb:(match ρ.fz b with|some c=>some c|none=>N b)=some cs:=hb
   cases hf:ρ.fz b with
   |some c=>rw[hf]at hb;cases hb;exact .inl rfl
   |none=>rw[hf]at hb;have:=(hN b cs hb).1;omega
  ·have:=H.lt i k b ho
   have:=(hN b cs hb).1
   omega
theorem Ct.pure {f:FuncId}{F:Func}(hf:P.funcs[f]?=some F)(hF:F.body.isSome=true)(hn:(F.name== "runtime.NumGoroutine")=false){args:List AV}{r:RV}(hc: ∀ρ O w xs,HR P ρ h O w->F2 (GA ρ) args xs-> ∃x,(∀ρ':Ren,GR ρ' r x)/\Calls P f xs.toArray w fun e w'=>e= .returned x/\Kept none' w w'):Ct P f args h fun r' h'=>r'=r/\h'=h:=
 Ct.of hf hF hn fun ρ O w xs H hx=>by
  obtain⟨x,h1,h2⟩:=hc ρ O w xs H hx
  refine h2.mono fun e w' ⟨h3,h4⟩=>⟨x,h3,h4,fun _=>none,r,fun _ _ h=>(by cases h),⟨rfl,rfl⟩,h1 _⟩
theorem Dj {F:Fz}(hw:zH F w){n:Nat}{l:List PV}{v:Value}(hg:GP F (.fz n l) v){k:Nat}(hl:l.length=n*k): ∃cs,Reads w k v cs/\F2 (GP F) l cs:=by
 obtain⟨a,cap,rfl,h1,h2,h3⟩:=hg
 rcases h3 with⟨rfl,rfl⟩|⟨b,o,arr,rfl,hb,hl2⟩
 ·exact⟨[],⟨a,0,cap,rfl,h1,h2,by simp, .inl rfl⟩, .nil⟩
 ·obtain⟨e,fr,hh⟩:=hw b arr hb
  obtain⟨cs,h4,h5⟩:=BN (R:=GP F) (l:=l) (f:=fun j=>arr[o+j]?) fun j v hv=>let⟨x,q1,q2⟩:=hl2.get hv;⟨x,q2,q1⟩
  refine⟨cs,⟨_,n,cap,rfl,h1,h2,by rw[<-bJ h4,hl], .inr ⟨b,o,rfl,fun i x hx=>?_⟩⟩,h4⟩
  simp[World.cell?,hh,h5 i x hx]
theorem U2 (H:HR P ρ h O w){i:Nat}{L:List PV}{e:TypeId}(hi:aV h i 0=some (.bG L e)){n:Nat}(hn:L.length=n){x:Value}(hx:G ρ (.sl i 0 0 n) x): ∃cs,Reads w 1 x cs/\F2 (GP ρ.fz) L cs:=by
 have ob:=H.ob i 0 _ hi
 cases hx with
 |sl off len cap h0 h1 h2 h3=>
  cases ob with
  |row ho hr hB hh hc hsz=>
   rcases ho with e|⟨l,e,rfl⟩<;>cases e
   rw[h0]at hr;cases hr
   obtain⟨cs,q1,q2⟩:=BN (R:=GP ρ.fz) (l:=L) (f:=fun j=>_) fun j v hv=>by
    obtain⟨x,g1,g2⟩:=hc j (.p v) (by simp[hv])
    cases g1 with|p g1=>exact⟨x,g1,g2⟩
   refine⟨cs,⟨_,n,cap,rfl,h1,h2,by rw[<-bJ q1,hn];omega, .inr ⟨_,_,rfl,fun j x hx=>?_⟩⟩,q1⟩
   simp[World.cell?,hh,q2 j x hx]
  |cZ ho hr hB=>rw[h0]at hr;cases hr
 |cZ h0 h00=>
  subst h00
  have:L=[]:=List.eq_nil_of_length_eq_zero hn
  subst this
  exact⟨[],⟨none,0,0,rfl,Nat.le_refl _,by unfold maxLen;omega,rfl, .inl rfl⟩, .nil⟩
end
theorem DX (l:List Ex):(iV l).length=l.length*3:=by rw[oU];exact zf oV l
mutual
theorem acC {F:Fz}{w:World}(hw:zH F w): ∀{x:Ex}{cs:List Value},iO x->F2 (GP F) (zQ x) cs->bP w cs.toArray x
 | .mk op n args,cs,hf,h=>by
   unfold zQ at h
   cases h with|cons h1 t=>cases t with|cons h2 t=>cases t with|cons h3 t=>
    cases t
    cases h1;cases h2
    obtain⟨cs,q1,q2⟩:=Dj hw h3 (k:=3) (DX args)
    obtain⟨f1,f2,f3,_,f4⟩:=hf
    exact .mk f1 f2 f3 q1 (by rw[<-bJ q2,DX]) (Zr hw f4 q2)
theorem Zr {F:Fz}{w:World}(hw:zH F w): ∀{args:List Ex}{cs:List Value},rX args->F2 (GP F) (iV args) cs-> ∀i x,args[i]?=some x->bP w ((cs.drop (i*3)).take 3).toArray x
 |[],_,_,_,i,x,h=>by simp at h
 |y::l,cs,hf,h,i,x,hi=>by
  unfold iV at h
  have h1:=uj h 3
  have h2:=um h 3
  rw[List.take_left' (oV y)]at h1
  rw[List.drop_left' (oV y)]at h2
  cases i with
  |zero=>simp at hi;subst hi;simpa using acC hw hf.1 h1
  |succ i=>
   have:=Zr hw hf.2 h2 i x (by simpa using hi)
   rw[List.drop_drop]at this
   rw[show(i+1)*3=3+i*3 by omega]
   exact this
end
theorem DN (l:List Int):(l9 l).length=l.length:=by
 have:=zf (f:=fun x:Int=>[PV.int .i64 x]) (n:=1) (fun _=>rfl) l
 unfold l9;omega
theorem Hz {F:Fz}: ∀{l:List Int}{cs:List Value},F2 (GP F) (l9 l) cs->cs=ints l
 |[],_,h=>by cases h;rfl
 |x::l,_,h=>by
  cases h with|cons h1 t=>
   cases h1
   exact congrArg (_:: ·) (Hz t)
theorem nodeAt {F:Fz}{w:World}(hw:zH F w){d:JN}{cs:List Value}(hf:kG d)(h:F2 (GP F) (wo d) cs):wY w cs.toArray d:=by
 unfold wo at h
 cases h with|cons h1 t=>cases t with|cons h2 t=>cases t with|cons h3 t=>cases t with|cons h4 t=>cases t with|cons h5 t=>cases t with|cons h6 t=>cases t with|cons h7 t=>
  cases t
  cases h1;cases h2;cases h4;cases h5;cases h7
  obtain⟨f1,f2,f3,f4,f5,f6,f7⟩:=hf
  obtain⟨ci,q1,q2⟩:=Dj hw h3 (k:=1) (by rw[DN];omega)
  have:=Hz q2
  subst this
  have hx: ∀v,GP F (.fz d.x.args.length (iV d.x.args)) v->bP w #[.int .u8 d.x.op, .int .i64 d.x.n,v] d.x:=fun v hv=>by
   refine acC hw (cs:=[.int .u8 d.x.op, .int .i64 d.x.n,v]) f2 ?_
   have e:zQ d.x=[.int .u8 d.x.op, .int .i64 d.x.n, .fz d.x.args.length (iV d.x.args)]:=by
    cases d.x;rfl
   rw[e]
   exact .cons rfl (.cons rfl (.cons hv .nil))
  have hx:=hx _ h6
  obtain⟨pi,cp,rfl,_⟩:=h3
  obtain⟨p,cap,rfl,_⟩:=h6
  exact⟨pi,cp,p,cap,rfl,hx,q1,f3,f4,f5,f6,f7⟩
theorem yS (l:List JN):(dO l).length=l.length*7:=zf mQ l
theorem aai {F:Fz}{w:World}(hw:zH F w){l:List JN}(hf: ∀d∈l,kG d){v:Value}(h:GP F (.fz l.length (dO l)) v):jJ w v l:=by
 obtain⟨cs,q1,q2⟩:=Dj hw h (k:=7) (yS l)
 refine⟨cs,q1,by rw[<-bJ q2,yS],fun i d hd=>?_⟩
 have hc:=NZ mQ hd
 obtain⟨c1,c2⟩:=BU hc
 refine nodeAt hw (hf d (List.mem_of_getElem? hd)) ?_
 rw[c2]
 exact uj (um q2 _) _
theorem adF {ρ:Ren}{w:World}(hw:zH ρ.fz w){j:Jb}(hf:gK j){x:Value}(h:GA ρ (qR I0 j) x): ∃a,x= .agg a/\Ee w a j:=by
 cases h with|agg h=>cases h with|cons h1 t=>cases t with|cons h2 t=>
  cases t
  cases h1 with|p h1=>cases h2 with|p h2=>
   cases h1
   exact⟨_,rfl,_,rfl,aai hw hf.2.1 h2,hf.2.2⟩
section
variable {bx:{α:Type}->α->α} (hb: ∀{α:Type}(x:α),bx x=x)
include hb
theorem J5 (j:Jb)(hf:gK j):Ct prog 25 [qR bx j] [] fun r h=>r= .aN [.c (.p (.int .i64 (bx (dV j).1))), .c (.p (.int .i64 (bx (dV j).2)))]/\h=[]:=by
 have eb: @bx= @I0:=rF hb
 subst eb
 refine Ct.pure func25 rfl rfl fun ρ O w xs H h=>?_
 cases h with|cons h1 t=>
  cases t
  obtain⟨a,rfl,ha⟩:=adF (fun b cs hb=>(H.fz b cs hb).1) hf h1
  exact⟨_,fun _=> .aN (xs:=[.int .i64 (dV j).1, .int .i64 (dV j).2]) (.cons (.c (.p rfl)) (.cons (.c (.p rfl)) .nil)),Yj j a w ha⟩
def Dt (l:List Int):ByteArray:=⟨(aH l).toArray⟩
theorem tH (l:List Int)(hl:l.length<=1000)(h64: ∀n∈l,aS n):Ct prog 21 [.c (.sl 0 0 0 l.length)] [.one (.bG (l9 l) 2)] fun r h=>r= .a (.c (.p (.str (bx (Dt l)))))/\h=[.one (.bG (l9 l) 2)]:=by
 have eb: @bx= @I0:=rF hb
 subst eb
 refine Ct.pure func21 rfl rfl fun ρ O w xs H h=>?_
 cases h with|cons h1 t=>
  cases t
  cases h1 with|c h1=>
   obtain⟨cs,q1,q2⟩:=U2 H (i:=0) rfl (DN l) h1
   have:=Hz q2
   subst this
   exact⟨_,fun _=> .a (.c (.p rfl)),put_walk _ l w q1 h64 (by omega)⟩
def Uy (s:ByteArray):Int×Nat×Int:=_root_.Go.Proofs.YtakhobfamnjnoaaGreatDoor.tk s.data.toList
theorem aa2 (s:ByteArray)(hs:s.size<=maxLen):Ct prog 36 [.c (.p (.str (bx s)))] [] fun r h=>r= .aN [.c (.p (.int .i64 (bx (Uy s).1))), .c (.p (.int .i64 (bx (((Uy s).2.1:Nat):Int)))), .c (.p (.int .i64 (bx (Uy s).2.2)))]/\h=[]:=by
 have eb: @bx= @I0:=rF hb
 subst eb
 refine Ct.pure func36 rfl rfl fun ρ O w xs H h=>?_
 cases h with|cons h1 t=>
  cases t
  cases h1 with|c h1=>cases h1 with|p h1=>
   cases h1
   exact⟨_,fun _=> .aN (xs:=[.int .i64 _, .int .i64 _, .int .i64 _]) (.cons (.c (.p rfl)) (.cons (.c (.p rfl)) (.cons (.c (.p rfl)) .nil))),(WQ s hs w).mono fun e w' ⟨h1,h2⟩=>⟨h1,h2▸Kept.refl _ _⟩⟩
end
end Sx
end
section
namespace Sx
open Go Go.RowKit _root_.Go.Proofs.Tryz
set_option maxRecDepth 100000
theorem qP (a b:Int):E8 true a b=min a b:=by unfold E8;simp only;split<;>omega
theorem Hr (a b:Int):E8 false a b=max a b:=by unfold E8;simp only;split<;>omega
structure Ac where
 kind:Int
 n:Int
 m:Int
 part:Int
 key:Int
 val:Int
 j:Jb
structure Tp where
 bytes:Int
 room:Int
 first:Jb
 acts:List Ac
def zG (a:Ac):List PV:=[.int .u8 a.kind, .int .i64 a.n, .int .i64 a.m, .int .i64 a.part, .int .i64 a.key, .int .i64 a.val, .int .i64 a.j.par, .fz a.j.nodes.length (dO a.j.nodes)]
theorem oK (a:Ac):(zG a).length=8:=rfl
def jD (l:List Ac):List PV:=l.flatMap zG
def wE (a b:Ac):Bool:=decide (a.kind=b.kind)&&decide (a.n=b.n)&&decide (a.m=b.m)&&(decide (a.part=b.part)&&(decide (a.key=b.key)&&decide (a.val=b.val)))&&zS a.j b.j
def lI:List Ac->List Ac->Bool
 |[],[]=>true
 |a::l,b::m=>wE a b&&lI l m
 |_,_=>false
def Jy (a b:Tp):Bool:=decide (a.bytes=b.bytes)&&decide (a.room=b.room)&&zS a.first b.first&&lI a.acts b.acts
theorem NV: ∀{a b:List Ac},lI a b=true->a.length=b.length
 |[],[],_=>rfl
 |x::a,y::b,h=>by
  simp only[lI,Bool.and_eq_true]at h
  rw[List.length_cons,List.length_cons,NV h.2]
 |[],_::_,h=>by cases h
 |_::_,[],h=>by cases h
theorem JD: ∀{a b:List Ac}{k:Nat}{x y:Ac},a[k]?=some x->b[k]?=some y->lI (a.take (k+1)) (b.take (k+1))=(lI (a.take k) (b.take k)&&wE x y)
 |[],_,_,_,_,h,_=>by simp at h
 |_::_,[],_,_,_,_,h=>by simp at h
 |u::a,v::b,0,x,y,h1,h2=>by
  simp at h1 h2;subst h1 h2
  simp[lI]
 |u::a,v::b,k+1,x,y,h1,h2=>by
  have:=JD (a:=a) (b:=b) (k:=k) (by simpa using h1) (by simpa using h2)
  simp only[List.take_succ_cons,lI]at this⊢
  rw[this,Bool.and_assoc]
theorem aay {a b:List Ac}{k:Nat}{x y:Ac}(h1:a[k]?=some x)(h2:b[k]?=some y)(h:wE x y=false):lI a b=false:=by
 induction a generalizing b k with
 |nil=>simp at h1
 |cons u a ih=>cases b with
  |nil=>rfl
  |cons v b=>cases k with
   |zero=>simp at h1 h2;subst h1 h2;simp[lI,h]
   |succ k=>simp only[lI];rw[ih (by simpa using h1) (by simpa using h2),Bool.and_false]
abbrev zJ:Jb:=⟨0,[]⟩
def Em (a:Ac):Ac:=if a.kind=0 then⟨a.kind,0,0,a.part,a.key,a.val,zJ⟩else if a.kind=2\/a.kind=3 then⟨a.kind,a.n,0,0,0,0,zJ⟩else if a.kind=4 then⟨a.kind,a.n,a.m,0,0,0,zJ⟩else if a.kind=5 then⟨a.kind,a.n,0,0,0,0,a.j⟩else⟨a.kind,0,0,0,0,0,zJ⟩
def jP (a:Ac):Bool:=if a.kind=0 then decide (0<=a.part)&&decide (a.part<2)else if a.kind=5 then decide ((dV a.j).2=0)else decide (a.kind<=8)
def bY (a:Ac):Bool:=jP a&&wE a (Em a)&&decide (0<=min a.n a.m)&&decide (max a.n a.m<=2147483647)
def iU (t:Tp):Bool:=decide (1<=t.bytes)&&decide (t.bytes<=4194304)&&decide (1<=t.room)&&decide (t.room<=8)&&decide ((dV t.first).2=0)&&decide (t.acts.length<=2000)&&t.acts.all bY
def lQ (a:Ac):Prop:=0<=a.kind/\a.kind<=255/\aS a.n/\aS a.m/\aS a.part/\aS a.key/\aS a.val/\gK a.j
def gQ (t:Tp):Prop:=aS t.bytes/\aS t.room/\gK t.first/\t.acts.length<4611686018427387904/\ ∀a∈t.acts,lQ a
section
variable (bx:{α:Type}->α->α)
def Ed (a:Ac):List PV:=[.int .u8 (bx a.kind), .int .i64 (bx a.n), .int .i64 (bx a.m), .int .i64 (bx a.part), .int .i64 (bx a.key), .int .i64 (bx a.val), .int .i64 (bx a.j.par), .fz (bx a.j.nodes.length) (bx (dO a.j.nodes))]
def Ug (a:Ac):AV:= .agg [.p (.int .u8 (bx a.kind)), .p (.int .i64 (bx a.n)), .p (.int .i64 (bx a.m)), .p (.int .i64 (bx a.part)), .p (.int .i64 (bx a.key)), .p (.int .i64 (bx a.val)), .p (.int .i64 (bx a.j.par)), .p (.fz (bx a.j.nodes.length) (bx (dO a.j.nodes)))]
def jX (t:Tp):AV:= .agg [.p (.int .i64 (bx t.bytes)), .p (.int .i64 (bx t.room)), .p (.int .i64 (bx t.first.par)), .p (.fz (bx t.first.nodes.length) (bx (dO t.first.nodes))), .p (.fz (bx t.acts.length) (bx (jD t.acts)))]
end
section
variable {bx:{α:Type}->α->α} (hb: ∀{α:Type}(x:α),bx x=x)
include hb
theorem yh (a:Ac):Ed bx a=zG a:=by simp only[Ed,hb,zG]
theorem uG (x y:Ac)(hx:gK x.j):Ct prog 33 [Ug bx x,Ug bx y] [] fun r h=>r= .a (.c (.p (.bool (bx (wE x y)))))/\h=[]:=ct hb func33 fun Q hQ K hK=>by
 have no: ∀{H:Hp},wE x y=false->K (.a (.c (.p .ff))) H:=fun h=>hK _ _ (.a (.c (.p (.bool (bx (wE x y)))))) [] (aZ [] [] (he:=ou (by rw[hb];exact h))) ⟨rfl,rfl⟩
 have e:wE x y=(decide (x.kind=y.kind)&&decide (x.n=y.n)&&decide (x.m=y.m)&&(decide (x.part=y.part)&&(decide (x.key=y.key)&&decide (x.val=y.val)))&&zS x.j y.j):=rfl
 cbv
 refine⟨fun h1=>?_,fun h1=>?_⟩<;>simp only[hb,pl]at h1
 ·cbv
  refine⟨fun h2=>?_,fun h2=>?_⟩<;>simp only[hb,pl]at h2
  ·cbv
   refine⟨fun h3=>?_,fun h3=>?_⟩<;>simp only[hb,pl]at h3
   ·cbv
    refine chk (by rw[hb,hQ];kernel_rfl) ?_
    cbv
    refine⟨fun h4=>?_,fun h4=>?_⟩<;>simp only[hb,allB,qX,Bool.and_true,pl]at h4
    ·cbv
     refine call hQ (UW hb x.j y.j hx) [] ?_
     rintro _ _ ⟨rfl,rfl⟩
     cbv
     exact hK _ _ (.a (.c (.p (.bool (bx (wE x y)))))) [] (aZ [] [] (he:=rE (by simp[hb,e,h1,h2,h3,h4]))) ⟨rfl,rfl⟩
    ·cbv
     exact no (by rw[e,h4];simp)
   ·cbv
    exact no (by simp[e,h3])
  ·cbv
   exact no (by simp[e,h2])
 ·cbv
  exact no (by simp[e,h1])
theorem adP (a b:List Ac)(hl:a.length<4611686018427387904)(hf: ∀d∈a,lQ d):Ct prog 32 [.c (.p (.fz (bx a.length) (bx (jD a)))), .c (.p (.fz (bx b.length) (bx (jD b)))), .c (.p (.fn 33))] [] fun r h=>r= .a (.c (.p (.bool (bx (lI a b)))))/\h=[]:=ct hb func32 fun Q hQ K hK=>by
 have no: ∀{H:Hp},lI a b=false->K (.a (.c (.p .ff))) H:=fun h=>hK _ _ (.a (.c (.p (.bool (bx (lI a b)))))) [] (aZ [] [] (he:=ou (by rw[hb];exact h))) ⟨rfl,rfl⟩
 cbv
 refine⟨fun hc=>?_,fun hc=>?_⟩<;>simp only[hb,pl]at hc
 ·cbv
  exact no (by rw[<-Bool.not_eq_true];exact fun h=>hc (NV h))
 ·cbv
  refine loop hb (fun k=>k<=a.length/\lI (a.take k) (b.take k)=true) (fun k=>a.length-k) (fun k=>[(17, .a (.c (.p (.int .i64 (bx (Int.ofNat k))))))]) (fun _=>[]) 0 ⟨by omega,rfl⟩ (ent [] []) fun k hI=>?_
  cbv
  refine⟨fun hd=>?_,fun hd=>?_⟩<;>simp only[hb,pl]at hd
  ·obtain⟨x,hx⟩: ∃x,a[k]?=some x:=⟨_,List.getElem?_eq_getElem hd⟩
   obtain⟨y,hy⟩: ∃y,b[k]?=some y:=⟨_,List.getElem?_eq_getElem (by omega)⟩
   cbv
   refine get (Ed bx x) (jZ hb oK rfl hx (yh hb x)) (chk (kC hb hd (by omega)) ?_)
   cbv
   refine get (Ed bx y) (jZ hb oK rfl hy (yh hb y)) (chk (kC hb (by omega) (by omega)) ?_)
   cbv
   refine call hQ (uG hb x y (hf x (List.mem_of_getElem? hx)).2.2.2.2.2.2.2) [] ?_
   rintro _ _ ⟨rfl,rfl⟩
   cbv
   refine⟨fun he=>?_,fun he=>?_⟩<;>simp only[hb,pl]at he
   ·cbv
    exact no (aay hx hy he)
   ·have hu:=uz hb (k:=k) (by omega)
    cbv
    exact⟨k+1,⟨by omega,by rw[JD hx hy,hI.2,he];rfl⟩,by omega,ent [] [] (he:=by cbv;(repeat' (first|trivial|rfl|apply And.intro|exact hu)))⟩
  ·cbv
   have hk:k=a.length:=by omega
   have h1:=hI.2
   rw[hk,List.take_of_length_le (Nat.le_refl _),List.take_of_length_le (by omega)]at h1
   exact hK _ _ (.a (.c (.p (.bool (bx (lI a b)))))) [] (aZ [] [] (he:=J9 (by rw[hb];exact h1))) ⟨rfl,rfl⟩
theorem abb (a b:Tp)(hf:gQ a):Ct prog 11 [jX bx a,jX bx b] [] fun r h=>r= .a (.c (.p (.bool (bx (Jy a b)))))/\h=[]:=ct hb func11 fun Q hQ K hK=>by
 have no: ∀{H:Hp},Jy a b=false->K (.a (.c (.p .ff))) H:=fun h=>hK _ _ (.a (.c (.p (.bool (bx (Jy a b)))))) [] (aZ [] [] (he:=ou (by rw[hb];exact h))) ⟨rfl,rfl⟩
 have e:Jy a b=(decide (a.bytes=b.bytes)&&decide (a.room=b.room)&&zS a.first b.first&&lI a.acts b.acts):=rfl
 cbv
 refine⟨fun h1=>?_,fun h1=>?_⟩<;>simp only[hb,pl]at h1
 ·cbv
  refine⟨fun h2=>?_,fun h2=>?_⟩<;>simp only[hb,pl]at h2
  ·cbv
   refine call hQ (UW hb a.first b.first hf.2.2.1) [] ?_
   rintro _ _ ⟨rfl,rfl⟩
   cbv
   refine⟨fun h3=>?_,fun h3=>?_⟩<;>simp only[hb,pl]at h3
   ·cbv
    refine call hQ (adP hb a.acts b.acts hf.2.2.2.1 hf.2.2.2.2) [] ?_
    rintro _ _ ⟨rfl,rfl⟩
    cbv
    exact hK _ _ (.a (.c (.p (.bool (bx (Jy a b)))))) [] (aZ [] [] (he:=rE (by simp[hb,e,h1,h2,h3]))) ⟨rfl,rfl⟩
   ·cbv
    exact no (by simp[e,h3])
  ·cbv
   exact no (by simp[e,h2])
 ·cbv
  exact no (by simp[e,h1])
theorem adD (a:Ac)(hf:lQ a):Ct prog 28 [Ug bx a] [] fun r h=>r= .a (.c (.p (.bool (bx (bY a)))))/\h=[]:=ct hb func28 fun Q hQ K hK=>by
 obtain⟨u,eu⟩: ∃u,Em a=u:=⟨_,rfl⟩
 have no: ∀{H:Hp},bY a=false->K (.a (.c (.p .ff))) H:=fun h=>hK _ _ (.a (.c (.p (.bool (bx (bY a)))))) [] (aZ [] [] (he:=ou (by rw[hb];exact h))) ⟨rfl,rfl⟩
 have k1: ∀{H:Hp},jP a=true->wE a u=true->0<=E8 true a.n a.m->K (.a (.c (.p (.bool (bx (decide (bx (E8 false (bx a.n) (bx a.m))<=2147483647))))))) H:=fun h1 h2 h3=>hK _ _ (.a (.c (.p (.bool (bx (bY a)))))) [] (aZ [] [] (he:=rE (by
  unfold bY
  rw[eu,h1,h2,<-qP,<-Hr,decide_eq_true h3];simp[hb]))) ⟨rfl,rfl⟩
 have hj:=hf.2.2.2.2.2.2.2
 cbv
 refine⟨fun h0=>?_,fun h0=>?_⟩<;>simp only[hb,pl]at h0
 ·have hg:jP a=(decide (0<=a.part)&&decide (a.part<2)):=if_pos h0
  have hu:u=⟨a.kind,0,0,a.part,a.key,a.val,zJ⟩:=eu.symm.trans (if_pos h0)
  cbv
  refine⟨fun h1=>?_,fun h1=>?_⟩<;>simp only[hb,pl]at h1
  ·have hg:jP a=decide (a.part<2):=by simp[hg,h1]
   cbv
   refine⟨fun h2=>?_,fun h2=>?_⟩<;>simp only[hb,pl]at h2
   ·replace hg:jP a=true:=by simp[hg,h2]
    clear h2
    cbv
    refine call hQ (uG hb a u hf.2.2.2.2.2.2.2) [] ?_ (ha:=by cbv;(repeat' (first|trivial|rfl|apply And.intro|exact dH _|(simp[hb,hu];done))))
    rintro _ _ ⟨rfl,rfl⟩
    cbv
    refine⟨fun h3=>?_,fun h3=>?_⟩<;>simp only[hb]at h3
    ·cbv
     refine⟨fun h4=>?_,fun h4=>?_⟩<;>simp only[hb,pl]at h4
     ·cbv
      exact k1 hg h3 h4
     ·cbv
      exact no (by simp[bY,<-qP,h4])
    ·cbv
     exact no (by simp[bY,eu,h3])
   ·cbv
    exact no (by simp[bY,hg,h2])
  ·cbv
   exact no (by simp[bY,hg,h1])
 ·have hg0:jP a=if a.kind=5 then decide ((dV a.j).2=0)else decide (a.kind<=8):=if_neg h0
  have hu0:=eu.symm.trans (if_neg h0)
  cbv
  refine⟨fun h1=>?_,fun h1=>?_⟩<;>simp only[hb,pl]at h1
  ·have hg:jP a=decide (a.kind<=8):=hg0.trans (if_neg (by omega))
   have hu:u=⟨a.kind,a.n,0,0,0,0,zJ⟩:=hu0.trans (if_pos (.inl h1))
   cbv
   refine⟨fun h2=>?_,fun h2=>?_⟩<;>simp only[hb,pl]at h2
   ·replace hg:jP a=true:=by simp[hg,h2]
    clear h2
    cbv
    refine call hQ (uG hb a u hf.2.2.2.2.2.2.2) [] ?_ (ha:=by cbv;(repeat' (first|trivial|rfl|apply And.intro|exact dH _|(simp[hb,hu];done))))
    rintro _ _ ⟨rfl,rfl⟩
    cbv
    refine⟨fun h3=>?_,fun h3=>?_⟩<;>simp only[hb]at h3
    ·cbv
     refine⟨fun h4=>?_,fun h4=>?_⟩<;>simp only[hb,pl]at h4
     ·cbv
      exact k1 hg h3 h4
     ·cbv
      exact no (by simp[bY,<-qP,h4])
    ·cbv
     exact no (by simp[bY,eu,h3])
   ·cbv
    exact no (by simp[bY,hg,h2])
  ·cbv
   refine⟨fun h5=>?_,fun h5=>?_⟩<;>simp only[hb,pl]at h5
   ·have hg:jP a=decide (a.kind<=8):=hg0.trans (if_neg (by omega))
    have hu:u=⟨a.kind,a.n,0,0,0,0,zJ⟩:=hu0.trans (if_pos (.inr h5))
    cbv
    refine⟨fun h2=>?_,fun h2=>?_⟩<;>simp only[hb,pl]at h2
    ·replace hg:jP a=true:=by simp[hg,h2]
     clear h2
     cbv
     refine call hQ (uG hb a u hf.2.2.2.2.2.2.2) [] ?_ (ha:=by cbv;(repeat' (first|trivial|rfl|apply And.intro|exact dH _|(simp[hb,hu];done))))
     rintro _ _ ⟨rfl,rfl⟩
     cbv
     refine⟨fun h3=>?_,fun h3=>?_⟩<;>simp only[hb]at h3
     ·cbv
      refine⟨fun h4=>?_,fun h4=>?_⟩<;>simp only[hb,pl]at h4
      ·cbv
       exact k1 hg h3 h4
      ·cbv
       exact no (by simp[bY,<-qP,h4])
     ·cbv
      exact no (by simp[bY,eu,h3])
    ·cbv
     exact no (by simp[bY,hg,h2])
   ·have hu0:=hu0.trans (if_neg (by omega))
    cbv
    refine⟨fun h6=>?_,fun h6=>?_⟩<;>simp only[hb,pl]at h6
    ·have hg:jP a=decide (a.kind<=8):=hg0.trans (if_neg (by omega))
     have hu:u=⟨a.kind,a.n,a.m,0,0,0,zJ⟩:=hu0.trans (if_pos h6)
     cbv
     refine draw hb hQ iW [] ?_
     cbv
     refine⟨fun h2=>?_,fun h2=>?_⟩<;>simp only[hb,pl]at h2
     ·replace hg:jP a=true:=by simp[hg,h2]
      clear h2
      cbv
      refine call hQ (uG hb a u hf.2.2.2.2.2.2.2) [] ?_ (ha:=by cbv;(repeat' (first|trivial|rfl|apply And.intro|exact dH _|(simp[hb,hu];done))))
      rintro _ _ ⟨rfl,rfl⟩
      cbv
      refine⟨fun h3=>?_,fun h3=>?_⟩<;>simp only[hb]at h3
      ·cbv
       refine⟨fun h4=>?_,fun h4=>?_⟩<;>simp only[hb,pl]at h4
       ·cbv
        exact k1 hg h3 h4
       ·cbv
        exact no (by simp[bY,<-qP,h4])
      ·cbv
       exact no (by simp[bY,eu,h3])
     ·cbv
      exact no (by simp[bY,hg,h2])
    ·have hu0:=hu0.trans (if_neg h6)
     cbv
     refine⟨fun h7=>?_,fun h7=>?_⟩<;>simp only[hb,pl]at h7
     ·have hg:jP a=decide ((dV a.j).2=0):=hg0.trans (if_pos h7)
      have hu:u=⟨a.kind,a.n,0,0,0,0,a.j⟩:=hu0.trans (if_pos h7)
      cbv
      refine draw hb hQ iW [] ?_
      cbv
      refine call hQ (J5 hb a.j hj) [] ?_
      rintro _ _ ⟨rfl,rfl⟩
      cbv
      refine⟨fun h2=>?_,fun h2=>?_⟩<;>simp only[hb,pl]at h2
      ·replace hg:jP a=true:=by simp[hg,h2]
       clear h2
       cbv
       refine call hQ (uG hb a u hf.2.2.2.2.2.2.2) [] ?_ (ha:=by cbv;(repeat' (first|trivial|rfl|apply And.intro|exact dH _|(simp[hb,hu];done))))
       rintro _ _ ⟨rfl,rfl⟩
       cbv
       refine⟨fun h3=>?_,fun h3=>?_⟩<;>simp only[hb]at h3
       ·cbv
        refine⟨fun h4=>?_,fun h4=>?_⟩<;>simp only[hb,pl]at h4
        ·cbv
         exact k1 hg h3 h4
        ·cbv
         exact no (by simp[bY,<-qP,h4])
       ·cbv
        exact no (by simp[bY,eu,h3])
      ·cbv
       exact no (by simp[bY,hg,h2])
     ·have hg:jP a=decide (a.kind<=8):=hg0.trans (if_neg h7)
      have hu:u=⟨a.kind,0,0,0,0,0,zJ⟩:=hu0.trans (if_neg h7)
      cbv
      refine⟨fun h2=>?_,fun h2=>?_⟩<;>simp only[hb,pl]at h2
      ·replace hg:jP a=true:=by simp[hg,h2]
       clear h2
       cbv
       refine call hQ (uG hb a u hf.2.2.2.2.2.2.2) [] ?_ (ha:=by cbv;(repeat' (first|trivial|rfl|apply And.intro|exact dH _|(simp[hb,hu];done))))
       rintro _ _ ⟨rfl,rfl⟩
       cbv
       refine⟨fun h3=>?_,fun h3=>?_⟩<;>simp only[hb]at h3
       ·cbv
        refine⟨fun h4=>?_,fun h4=>?_⟩<;>simp only[hb,pl]at h4
        ·cbv
         exact k1 hg h3 h4
        ·cbv
         exact no (by simp[bY,<-qP,h4])
       ·cbv
        exact no (by simp[bY,eu,h3])
      ·cbv
       exact no (by simp[bY,hg,h2])
end
end Sx
end
end Go.Proofs.YtakhobfamnjnoaaGreatDoor
