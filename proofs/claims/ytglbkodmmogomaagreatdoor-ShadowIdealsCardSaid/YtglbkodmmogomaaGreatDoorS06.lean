/- What a node makes of records: the plain law; the row that grows (goes); each. -/
import Derived.Test.YtglbkodmmogomaaGreatDoorS05
import Derived.Test.YtglbkodmmogomaaGreatDoorS04
set_option linter.unusedVariables false
set_option linter.unusedSimpArgs false
set_option maxHeartbeats 2000000
set_option maxRecDepth 100000
namespace Go.Proofs.YtglbkodmmogomaaGreatDoor
open List Go.Proofs.Tryz
section
open Go Go.RowKit
attribute [local irreducible] dI
def jD (w:World)(Bo base:Nat)(A:Nat->Prop)(out:List Rec):Prop:=
 ∃v,w.heap[Bo]?=some (.cells #[v] 60 (0,0))/\w.ownsRow base 68 3 v out.length (recs out)/\ ∀k,v.ownBlock=some k->A k
theorem jD.kept {w w':World}{Bo base:Nat}{A S:Nat->Prop}{out:List Rec}(h:jD w Bo base A out)(hk:ε S w w')(h1: ¬S Bo)(h2: ∀k,A k-> ¬S k):jD w' Bo base A out:=by obtain⟨v,a,b,c⟩:=h;exact⟨v,hk.heap a h1,hk.owns b (fun k hv=>h2 k (c k hv)),c⟩
theorem jD.pure {w w':World}{Bo base:Nat}{A:Nat->Prop}{out:List Rec}(h:jD w Bo base A out)(hk:ε η w w'):jD w' Bo base A out:=h.kept hk id (fun _ _ h=>h)
def adg (w:World)(Bo base:Nat)(A:Nat->Prop)(out:List Rec)(e:Ending)(w':World):Prop:=
 e= .returned (.tuple #[])/\jD w' Bo base A out/\ε (fun k=>k=Bo\/A k) w w'
theorem uw {P:Program}{w w':World}(base:Nat)(t ty e:TypeId)(i:TypeInfo)(z:Value)(size bytes:Nat)(ht:P.underlying t=some (.slice e))(hi:P.info? e=some i)(hz:i.zero=some z)(hsize:i.size=size)(hby:i.bytes=bytes)
 (v:Value) (n:Nat) (xs:List Value) (hown:w.ownsRow base e size v n xs) (a:Addr) (m c:Nat) (news:List Value) (hl:news.length=m*size) (hnews: ∀j u,news[j]?=some u->w.cell? (a.add j)=some u)
 (h1: ∀u∈news,u.oneCell'=true) (hm:0<m) (h63:n+m<=maxLen) (hbytes:(n+m)*bytes<=140737488355328) {v':Value}
 (hr:(Builtin.append_ #[t,t] ty #[v,.slice (some a) m c]).run P w= .ok v' w'): ∀k,v'.ownBlock=some k->v.ownBlock=some k\/k=w.heap.size:=by
 subst hsize hby
 have hsmall:n+m<=9223372036854775807:=(by simp only[maxLen]at h63;omega);intro k hk
 rcases hown.2 with⟨rfl,rfl⟩|⟨g,cap,cur,rfl,hbg,hg,hnc,hcm,hcs,htake⟩
 ·have h2:=run_append_nil (P:=P) w t ty e i z ht hi hz a m c news hl hnews hm (by omega) (by simp only[Nat.zero_add]at hbytes;omega)
  rw[h2]at hr
  injection hr with hr _
  subst hr;right;simpa[Value.ownBlock]using hk.symm
 ·by_cases hroom:n+m<=cap
  ·have h2:=run_append_room (P:=P) w t ty e i ht hi g n cap cur hg a m c news hl hnews h1 hroom (by rw[hl,hcs,<-Nat.add_mul];exact Nat.mul_le_mul_right _ hroom)
   rw[h2]at hr
   injection hr with hr _
   subst hr;left;simpa[Value.ownBlock]using hk
  ·have h2:=run_append_grow (P:=P) w t ty e i z ht hi hz ⟨g,0,none⟩ n cap xs hown.1 (hown.cells (g:=g) rfl) a m c news hl hnews (by omega) (by omega) (growslice_fits (by omega) hbytes)
   rw[h2]at hr
   injection hr with hr _
   subst hr;right;simpa[Value.ownBlock]using hk.symm
theorem wpList_append_run {P:Program}{w w':World}{ops:Array Oper}{rest:List Oper}{o:Oper}{a:Act}{Q:Exit->Act->World->Prop}(hgd:o.guard=none)(s x:Operand)(t:TypeId)
 (ho:o.op= .call {callee:= .builtin .append,args:= #[s,x],argTypes:= #[t,t]}) (v u v':Value) (hs:a.eval s=v) (hx:a.eval x=u) (hr:(Builtin.append_ #[t,t] o.type #[v,u]).run P w= .ok v' w')
 (h:wpList P ops Q rest (a.put o.dst v') w'):wpList P ops Q (o::rest) a w:=
 wpList_plain hgd fun K hK=>by unfold Oper.wp execOp;simp only[ho,resolve,invoke,builtin,Sem.run_bind,Sem.run_pure,Result.andThen_ok,map_toArray,Θ,Ξ,hs,hx,hr];exact hK _ _ h
theorem yw (r:Rec)(out:List Rec)(Bo base:Nat)(A:Nat->Prop)(w:World)(h:jD w Bo base A out)(hb:base<=w.heap.size)(hA: ∀k,w.heap.size<=k->A k)(hlen:out.length<=1073741824):
 Calls prog 104 #[.agg #[.int .i64 r.pos,.int .i64 r.key,.int .i64 r.val],.pointer (some ⟨Bo,0,none⟩)] w (adg w Bo base A (out++[r])):=by
 obtain⟨v,hh,hown,hv⟩:=h;have hlt:=(κ.1 hh).1;obtain⟨W0,hW0⟩:=acu ((w.alloc (.cells #[.int .i64 r.pos,.int .i64 r.key,.int .i64 r.val] 68)).alloc (.cells #[.int .i64 r.pos,.int .i64 r.key,.int .i64 r.val] 68));have hk0:ε η w W0:=(by rw[<-hW0];exact(δ.alloc _).alloc _);have hsz0:w.heap.size<=W0.heap.size:=hk0.size;have hown0:=hk0.owns hown (fun _ _ h=>h);have hh0:=hk0.heap hh id;have c0:w.cell? ⟨Bo,0,none⟩=some v:=ζ hh rfl;obtain⟨a,cap,rfl⟩:=au hown;obtain⟨i,z,hi,hz,hs,hby,hzs⟩:=Tryz.info68;have hrd:Reads W0 3 (.slice (some ⟨w.heap.size+1,0,none⟩) 1 1) (recs [r]):=by have:=Reads.lit (w.alloc (.cells #[.int .i64 r.pos,.int .i64 r.key,.int .i64 r.val] 68)) (recs [r]) 68 3 1 rfl (by unfold maxLen;omega);rw[World.size_alloc]at this;rw[<-hW0];exact this
 obtain⟨v',n',w',g1,g2,g3,g4,g5⟩:=aZ (P:=prog) base 60 60 68 i z 3 24 underlying60 hi hz hs hby hzs (by omega) hown0 hrd (rQ [r]) (by rw[aQ];simp;omega) (by rw[aQ];unfold maxLen;simp;omega) (ω hb hk0.size);have Zn: ∀k,v'.ownBlock=some k->A k:=by
  intro k hk;obtain⟨_,_,_,e,_,_,_,hcl⟩:=hrd;cases e
  rcases hcl with hcl|⟨b',off',e',hcl⟩
  ·cases hcl
  ·cases e'
   rcases uw (P:=prog) base 60 60 68 i z 3 24 underlying60 hi hz hs hby _ _ _ hown0 ⟨w.heap.size+1,0,none⟩ 1 1 (recs [r]) rfl (fun j u hj=>by rw[Addr.add_lit];exact hcl j u hj) (rQ [r]) (by omega) (by unfold maxLen;omega) (by omega) g1 k hk with h|h
   ·exact hv k h
   ·exact hA k (by omega)
 have hn':n'=(out++[r]).length:=(by rw[aQ]at g3;simp at g3⊢;omega);subst hn';have hBo: ∀k,Value.ownBlock (.slice a out.length cap)=some k->k≠Bo:=by
  intro k hk e
  rcases hown.2 with⟨e',_⟩|⟨g,cap',cur,e',_,hg,_⟩
  ·rw[e']at hk;cases hk
  ·rw[e']at hk
   simp[Value.ownBlock]at hk;rw[<-e,<-hk,hg]at hh;cases hh
 have kw:ε (fun k=>k=Bo\/A k) w w':=hk0.pure.trans (ε.grown g4 (fun k hk _=> .inr (hv k hk)));have hh':w'.heap[Bo]?=some (.cells #[.slice a out.length cap] 60 (0,0)):=(by rw[g4.block Bo (by omega) (fun e=>hBo Bo e.symm rfl)];exact hh0);have c1:w'.cell? ⟨Bo,0,none⟩=some (.slice a out.length cap):=ζ hh' rfl;have f1:=free_at hh' 0;have F:adg w Bo base A (out++[r]) (.returned (.tuple #[])) (w'.setCell ⟨Bo,0,none⟩ v'):=by
  refine⟨rfl,⟨v',?_,?_,Zn⟩,kw.setCell (p:=⟨Bo,0,none⟩) (.inl (.inl rfl)) _⟩
  ·have:=aU hh' 0 v'
   simpa using this
  ·refine((ε.refl (one Bo) w').setCell (p:=⟨Bo,0,none⟩) (.inl rfl) v').owns (by rw[qZ];exact g2) (fun k hk e=>?_)
   unfold one at e;subst e
   rcases g2.2 with⟨e',_⟩|⟨g,cap',cur,e',_,hg,_⟩
   ·rw[e']at hk;cases hk
   ·rw[e']at hk
    simp[Value.ownBlock]at hk;rw[hk,hh']at hg;cases hg
 have F':=γ F;rw[<-hW0]at g1;obtain⟨va,vc,rfl⟩:=au g2;have HG:=γ g1;clear F g1 hW0 hk0 hown hown0 hh hh0 hrd g2 g3 g4 g5 Zn hBo kw hh' hv hA;go_enter func104,ntmps104;go_wp2_with (at_builtin;refine wpList_append_run rfl (.tmp 3) (.tmp 5) 60 rfl _ _ _ rfl rfl HG.o ?_)
 go_end0
 have F:=F'.o;rw[ν]at F;exact F
def dR (w:World)(a:Array Value)(nd:dG):Prop:=
 ∃uid inv p cap,a= #[.string uid,.int .u8 nd.kind,inv,.int .u8 nd.x.op,.int .i64 nd.x.n,.slice p nd.x.args.length cap,.int .i64 nd.n]/\aF w #[.int .u8 nd.x.op,.int .i64 nd.x.n,.slice p nd.x.args.length cap] nd.x/\
  0<=nd.kind/\nd.kind<=255/\aJ nd.n
theorem dR.kept {w w':World}{S:Nat->Prop}(hk:ε S w w')(hS: ∀k,S k-> ∀c E f,w.heap[k]?≠some (.cells c E f)){a:Array Value}{nd:dG}(h:dR w a nd):dR w' a nd:=by obtain⟨uid,inv,p,cap,h1,h2,h3⟩:=h;exact⟨uid,inv,p,cap,h1,h2.kept hk hS,h3⟩
theorem dR.pure {w w':World}(hk:ε η w w'){a:Array Value}{nd:dG}(h:dR w a nd):dR w' a nd:=h.kept hk (fun _ h=>h.elim)
abbrev tJ (r:Rec):Value:= .agg #[.int .i64 r.pos,.int .i64 r.key,.int .i64 r.val]
def adk (St:Nat->World->Prop)(n:Nat)(e:Ending)(w':World):Prop:=e= .returned (.tuple #[])/\St n w'
theorem uZ (c:Nat)(caps:Array Value)(L:List Rec)(v:Value)(Bi:Nat)(St:Nat->World->Prop)(w:World)(hent: ∀(args:Array Value)(w:World),(callFunc c args).run prog w= .ok (.enter c args) w)
 (hin: ∀k w,St k w->w.cell? ⟨Bi,0,none⟩=some v/\Reads w 3 v (recs L)) (hall: ∀k w o,St k w->St k (w.alloc o)) (h0:St 0 w)
 (hstep: ∀k r w,L[k]?=some r->St k w->Calls prog c (#[tJ r,fD (aH r)]++caps) w (adk St (k+1))):
 Calls prog 103 #[.func (.func c) #[] caps,.pointer (some ⟨Bi,0,none⟩)] w (adk St L.length):=by
 obtain⟨hc,hr⟩:=hin 0 w h0;obtain⟨a,cap,rfl,h1,h2,h3⟩:=hr.recAt;unfold maxLen at h2;have H0:=γ h0;have HI:=γ hin;have HA:=γ hall;have HS:=γ hstep;clear hr h3 h0 hin hall hstep;go_enter func103,ntmps103;go_wp2;clear hc;go_loopg [7] L.length (fun g vi wr=> ∃k:Nat,k<=L.length/\vi= .int .i64 (k:Int)/\L.length-k<=g/\St k wr)
 case atStart=>exact⟨0,by omega,rfl,by omega,H0.o⟩
 case round=>
  obtain⟨k,hkl,rfl,hg,hst⟩:=hrel;have G:=γ (θ hg hst);clear hg hst;by_cases hlt:k<L.length
  ·obtain⟨r,hr⟩: ∃r,L[k]?=some r:=⟨_,ι hlt⟩
   obtain⟨_,hrd⟩:=HI.o k wr G.o.2;obtain⟨a',cap',e,_,_,hrc⟩:=hrd.recAt;cases e;obtain⟨b,off,rfl,hc⟩:=hrc.resolve_left (fun h=>by rw[h]at hr;cases hr);obtain⟨q0,q1,q2⟩:=hc k r hr;have HR:=γ hr;clear hrc hc hr hrd;go_wp2_with fail;have cc:=HS.o k r _ HR.o (HA.o k wr (.cells #[.int .i64 r.pos,.int .i64 r.key,.int .i64 r.val] 68) G.o.2);refine cc.mono ?_;clear cc;rintro e w2 ⟨rfl,hs2⟩;go_wp2;go_roundg (L.length-(k+1))
   case rel=>exact⟨k+1,by omega,by go_num,ξ _,hs2⟩
   case measure=>have:=G.o.1;omega
  ·have hkl:k=L.length:=by omega
   subst hkl;go_wp2_with fail
   go_end0
   exact⟨rfl,G.o.2⟩
theorem jD.mono {w:World}{Bo base:Nat}{A A':Nat->Prop}{out:List Rec}(h:jD w Bo base A out)(hA: ∀k,A k->k<w.heap.size->A' k):jD w Bo base A' out:=by obtain⟨v,a,b,c⟩:=h;exact⟨v,a,b,fun k hk=>hA k (c k hk) (aY b hk).2⟩
structure iP (S:Nat->Prop)(w0 w:World)(Bn Bi Bo Bg base:Nat)(na:Array Value)(nd:dG)(v:Value)(L out:List Rec):Prop where
 free: ∀k,S k->k<w0.heap.size/\ ∀c E f,w0.heap[k]?≠some (.cells c E f)
 kept:ε S w0 w
 acj:dR w0 na nd
 in0:Reads w0 3 v (recs L)
 agj: ∀r∈L,bF r
 node:w.heap[Bn]?=some (.cells na 42 (0,0))
 ins:w.heap[Bi]?=some (.cells #[v] 60 (0,0))
 goes:w.heap[Bg]?=some (.cells #[.func (.func 104) #[] #[.pointer (some ⟨Bo,0,none⟩)]] 184 (0,0))
 out:jD w Bo base (fun k=>base<=k) out
 lo:w0.heap.size<=Bn/\w0.heap.size<=Bi/\w0.heap.size<=Bg/\w0.heap.size<=Bo
 hi:Bn<base/\Bi<base/\Bg<base/\Bo<base/\base<=w.heap.size
 ne:Bn≠Bo/\Bi≠Bo/\Bg≠Bo
section
variable {S:Nat->Prop} {w0 w w':World} {Bn Bi Bo Bg base:Nat} {na:Array Value} {nd:dG} {v:Value} {L out out':List Rec}
theorem iP.Af (h:iP S w0 w Bn Bi Bo Bg base na nd v L out):dR w na nd:=h.acj.kept h.kept (fun k hk=>(h.free k hk).2)
theorem iP.reads (h:iP S w0 w Bn Bi Bo Bg base na nd v L out):Reads w 3 v (recs L):=
 h.in0.kept h.kept (fun b hb hs=>by obtain⟨c,E,f,hc⟩:=h.in0.isCells (by omega) hb;exact(h.free b hs).2 c E f hc)
theorem iP.next (h:iP S w0 w Bn Bi Bo Bg base na nd v L out){S':Nat->Prop}(hk:ε S' w w')(hS: ∀k,S' k->k=Bo\/base<=k\/S k)(ho:jD w' Bo base (fun k=>base<=k) out'):iP S w0 w' Bn Bi Bo Bg base na nd v L out':=by
 obtain⟨l1,l2,l3,l4⟩:=h.lo;obtain⟨i1,i2,i3,i4,i5⟩:=h.hi;obtain⟨n1,n2,n3⟩:=h.ne;have no: ∀b,w0.heap.size<=b->b<base->b≠Bo-> ¬S' b:=fun b h1 h2 h3 hs=>by
  rcases hS b hs with e|e|e
  ·exact h3 e
  ·omega
  ·have:=(h.free b e).1;omega
 exact⟨h.free,h.kept.new hk (fun i hi hs=>by rcases hS i hs with e|e|e;omega;omega;exact e),h.acj,h.in0,h.agj,hk.heap h.node (no _ l1 i1 n1),hk.heap h.ins (no _ l2 i2 n2),hk.heap h.goes (no _ l3 i3 n3),ho,h.lo,
  ⟨i1,i2,i3,i4,ω i5 hk.size⟩,h.ne⟩
theorem iP.alloc (h:iP S w0 w Bn Bi Bo Bg base na nd v L out)(o:Obj):iP S w0 (w.alloc o) Bn Bi Bo Bg base na nd v L out:=
 h.next ((ε.refl η w).alloc o) (fun _ h=>h.elim) (h.out.pure ((ε.refl η w).alloc o))
end
def yV (S:Nat->Prop)(w0:World)(Bn Bi Bo Bg base:Nat)(na:Array Value)(nd:dG)(v:Value)(L out:List Rec)(e:Ending)(w':World):Prop:=
 e= .returned (.tuple #[])/\iP S w0 w' Bn Bi Bo Bg base na nd v L out
theorem abT {S:Nat->Prop}{w0 w:World}{Bn Bi Bo Bg base:Nat}{na:Array Value}{nd:dG}{v:Value}{L out:List Rec}(h:iP S w0 w Bn Bi Bo Bg base na nd v L out)(r:Rec)(hr:bF r)(hlen:out.length<=1073741824):
 Calls prog 105 #[tJ r,fD (aH r),.pointer (some ⟨Bn,0,none⟩),.pointer (some ⟨Bg,0,none⟩)] w (yV S w0 Bn Bi Bo Bg base na nd v L (out++[{r with val:=dF nd.x (aH r)}])):=by
 obtain⟨uid,inv,p,cap,hna,hx,hk0,hk1,hn⟩:=h.Af;have dH:=h.node;rw[hna]at dH;clear hna;have x0:w.cell? ⟨Bn,3,none⟩=some (.int .u8 nd.x.op):=ζ dH rfl;have x1:w.cell? ⟨Bn,4,none⟩=some (.int .i64 nd.x.n):=ζ dH rfl;have x2:w.cell? ⟨Bn,5,none⟩=some (.slice p nd.x.args.length cap):=ζ dH rfl;have g0:w.cell? ⟨Bg,0,none⟩=some (.func (.func 104) #[] #[.pointer (some ⟨Bo,0,none⟩)]):=ζ h.goes rfl;obtain⟨l1,l2,l3,l4⟩:=h.lo;obtain⟨i1,i2,i3,i4,i5⟩:=h.hi;have hlb:Bn<w.heap.size:=(by omega);have Zz:Bg<w.heap.size:=(by omega);have H:=γ h;have HX:=γ hx;have HR:=γ hr;clear h hx hr dH;go_enter func105,ntmps105;go_wp2_with fail;obtain⟨W0,hW0⟩:=acu ((w.alloc (.cells #[.int .i64 r.pos,.int .i64 r.key,.int .i64 r.val] 68)).alloc (.cells #[.int .i64 (aH r).key,.int .i64 (aH r).val,.int .i64 (aH r).acc] 182));have k0:ε η w W0:=(by rw[<-hW0];exact(δ.alloc _).alloc _);have hB:W0.heap[w.heap.size]?=some (.cells #[.int .i64 r.pos,.int .i64 r.key,.int .i64 r.val] 68 (0,0)):=by rw[<-hW0];exact((ε.refl η (w.alloc (.cells #[.int .i64 r.pos,.int .i64 r.key,.int .i64 r.val] 68))).alloc _).heap (heap_alloc_new w (.cells #[.int .i64 r.pos,.int .i64 r.key,.int .i64 r.val] 68)) id
 rw[hW0];have c:=DN nd.x _ (aH r) W0 (aF.pure k0 HX.o) (uY HR.o);refine c.mono ?_;clear c;rintro e W1 ⟨rfl,k1⟩;have k2:ε η w W1:=k0.trans k1;have hB1:=k1.heap hB id;have b0:W1.cell? ⟨w.heap.size,0,none⟩=some (.int .i64 r.pos):=ζ hB1 rfl;have b1:W1.cell? ⟨w.heap.size,1,none⟩=some (.int .i64 r.key):=ζ hB1 rfl;have b2:W1.cell? ⟨w.heap.size,2,none⟩=some (.int .i64 r.val):=ζ hB1 rfl;have f2:=free_at hB1 2;have g1:=k2.cell (p:=⟨Bg,0,none⟩) id g0;have hbg:Bg≠w.heap.size:=(by omega);obtain⟨X,hX⟩:=acu (dF nd.x (aH r));have ks:ε (one w.heap.size) W1 (W1.setCell ⟨w.heap.size,2,none⟩ (.int .i64 X)):=(ε.refl (one w.heap.size) W1).setCell (p:=⟨w.heap.size,2,none⟩) (.inl rfl) _;have hout:jD (W1.setCell ⟨w.heap.size,2,none⟩ (.int .i64 X)) Bo base (fun k=>base<=k) out:=
  ((((H.o.out.mono (A':=fun k=>base<=k/\k<w.heap.size) (fun k h1 h2=>⟨h1,h2⟩)).pure k2).kept ks (fun e=>by unfold one at e;omega) (fun k h e=>by unfold one at e;omega)).mono (fun k h _=>h.1))
 have G:=γ (θ k2 (θ ks hout));have hsz:base<=(W1.setCell ⟨w.heap.size,2,none⟩ (.int .i64 X)).heap.size:=ω i5 (ω k2.size ks.size);have lF:=γ hsz;clear k0 k1 k2 hB hB1 hW0 x0 x1 x2 g0 ks hout hsz;rw[hX];have HX':=γ hX;clear hX;go_wp2_with fail;have c:=yw {r with val:=X} out Bo base (fun k=>base<=k) _ G.o.2.2 lF.o (fun k hk=>ω lF.o hk) hlen;refine c.mono ?_;clear c;rintro e W2 ⟨rfl,o2,k3⟩;have F:yV S w0 Bn Bi Bo Bg base na nd v L (out++[{r with val:=dF nd.x (aH r)}]) (.returned (.tuple #[])) W2:=(by rw[HX'.o];refine⟨rfl,H.o.next (S':=fun k=>k=Bo\/base<=k) (G.o.1.pure.trans ((G.o.2.1.mono (fun k _ e=>by unfold one at e;right;omega)).trans k3)) (fun k h=>by rcases h with h|h;exact .inl h;exact .inr (.inl h)) o2⟩);have F':=γ F;clear F o2 k3;go_wp2_with fail
 go_end0
 exact F'.o
theorem abU {S:Nat->Prop}{w0 w:World}{Bn Bi Bo Bg base:Nat}{na:Array Value}{nd:dG}{v:Value}{L out:List Rec}(h:iP S w0 w Bn Bi Bo Bg base na nd v L out)(r:Rec)(hr:bF r)(hlen:out.length<=1073741824):
 Calls prog 107 #[tJ r,fD (aH r),.pointer (some ⟨Bn,0,none⟩),.pointer (some ⟨Bg,0,none⟩)] w (yV S w0 Bn Bi Bo Bg base na nd v L (out++[{r with key:=dF nd.x (aH r)}])):=by
 obtain⟨uid,inv,p,cap,hna,hx,hk0,hk1,hn⟩:=h.Af;have dH:=h.node;rw[hna]at dH;clear hna;have x0:w.cell? ⟨Bn,3,none⟩=some (.int .u8 nd.x.op):=ζ dH rfl;have x1:w.cell? ⟨Bn,4,none⟩=some (.int .i64 nd.x.n):=ζ dH rfl;have x2:w.cell? ⟨Bn,5,none⟩=some (.slice p nd.x.args.length cap):=ζ dH rfl;have g0:w.cell? ⟨Bg,0,none⟩=some (.func (.func 104) #[] #[.pointer (some ⟨Bo,0,none⟩)]):=ζ h.goes rfl;obtain⟨l1,l2,l3,l4⟩:=h.lo;obtain⟨i1,i2,i3,i4,i5⟩:=h.hi;have hlb:Bn<w.heap.size:=(by omega);have Zz:Bg<w.heap.size:=(by omega);have H:=γ h;have HX:=γ hx;have HR:=γ hr;clear h hx hr dH;go_enter func107,ntmps107;go_wp2_with fail;obtain⟨W0,hW0⟩:=acu ((w.alloc (.cells #[.int .i64 r.pos,.int .i64 r.key,.int .i64 r.val] 68)).alloc (.cells #[.int .i64 (aH r).key,.int .i64 (aH r).val,.int .i64 (aH r).acc] 182));have k0:ε η w W0:=(by rw[<-hW0];exact(δ.alloc _).alloc _);have hB:W0.heap[w.heap.size]?=some (.cells #[.int .i64 r.pos,.int .i64 r.key,.int .i64 r.val] 68 (0,0)):=by rw[<-hW0];exact((ε.refl η (w.alloc (.cells #[.int .i64 r.pos,.int .i64 r.key,.int .i64 r.val] 68))).alloc _).heap (heap_alloc_new w (.cells #[.int .i64 r.pos,.int .i64 r.key,.int .i64 r.val] 68)) id
 rw[hW0];have c:=DN nd.x _ (aH r) W0 (aF.pure k0 HX.o) (uY HR.o);refine c.mono ?_;clear c;rintro e W1 ⟨rfl,k1⟩;have k2:ε η w W1:=k0.trans k1;have hB1:=k1.heap hB id;have b0:W1.cell? ⟨w.heap.size,0,none⟩=some (.int .i64 r.pos):=ζ hB1 rfl;have b1:W1.cell? ⟨w.heap.size,1,none⟩=some (.int .i64 r.key):=ζ hB1 rfl;have b2:W1.cell? ⟨w.heap.size,2,none⟩=some (.int .i64 r.val):=ζ hB1 rfl;have f2:=free_at hB1 1;have g1:=k2.cell (p:=⟨Bg,0,none⟩) id g0;have hbg:Bg≠w.heap.size:=(by omega);obtain⟨X,hX⟩:=acu (dF nd.x (aH r));have ks:ε (one w.heap.size) W1 (W1.setCell ⟨w.heap.size,1,none⟩ (.int .i64 X)):=(ε.refl (one w.heap.size) W1).setCell (p:=⟨w.heap.size,1,none⟩) (.inl rfl) _;have hout:jD (W1.setCell ⟨w.heap.size,1,none⟩ (.int .i64 X)) Bo base (fun k=>base<=k) out:=
  ((((H.o.out.mono (A':=fun k=>base<=k/\k<w.heap.size) (fun k h1 h2=>⟨h1,h2⟩)).pure k2).kept ks (fun e=>by unfold one at e;omega) (fun k h e=>by unfold one at e;omega)).mono (fun k h _=>h.1))
 have G:=γ (θ k2 (θ ks hout));have hsz:base<=(W1.setCell ⟨w.heap.size,1,none⟩ (.int .i64 X)).heap.size:=ω i5 (ω k2.size ks.size);have lF:=γ hsz;clear k0 k1 k2 hB hB1 hW0 x0 x1 x2 g0 ks hout hsz;rw[hX];have HX':=γ hX;clear hX;go_wp2_with fail;have c:=yw {r with key:=X} out Bo base (fun k=>base<=k) _ G.o.2.2 lF.o (fun k hk=>ω lF.o hk) hlen;refine c.mono ?_;clear c;rintro e W2 ⟨rfl,o2,k3⟩;have F:yV S w0 Bn Bi Bo Bg base na nd v L (out++[{r with key:=dF nd.x (aH r)}]) (.returned (.tuple #[])) W2:=(by rw[HX'.o];refine⟨rfl,H.o.next (S':=fun k=>k=Bo\/base<=k) (G.o.1.pure.trans ((G.o.2.1.mono (fun k _ e=>by unfold one at e;right;omega)).trans k3)) (fun k h=>by rcases h with h|h;exact .inl h;exact .inr (.inl h)) o2⟩);have F':=γ F;clear F o2 k3;go_wp2_with fail
 go_end0
 exact F'.o
end
section
open Go Go.RowKit
attribute [local irreducible] dI
def WG (b:Bool)(r:Rec):List Rec:=if b then[r]else[]
theorem WI (r:Rec)(k:Nat):jk r (k+1)=jk r k++[⟨wrap64 (wrap64 (8*r.pos)+(k:Int)),r.key,wrap64 (r.val+(k:Int))⟩]:=by unfold jk;rw[range_succ,aay];rfl
theorem qF (r:Rec)(k:Nat):(jk r k).length=k:=by simp[jk]
theorem TW {S:Nat->Prop}{w0 w:World}{Bn Bi Bo Bg base:Nat}{na:Array Value}{nd:dG}{v:Value}{L out:List Rec}(h:iP S w0 w Bn Bi Bo Bg base na nd v L out)(r:Rec)(hr:bF r)(hlen:out.length<=1000000000):
 Calls prog 108 #[tJ r,fD (aH r),.pointer (some ⟨Bn,0,none⟩),.pointer (some ⟨Bg,0,none⟩)] w (yV S w0 Bn Bi Bo Bg base na nd v L (out++WG (nZ nd.x (aH r)) r)):=by
 obtain⟨uid,inv,p,cap,hna,hx,hk0,hk1,hn⟩:=h.Af;have dH:=h.node;rw[hna]at dH;clear hna;have x0:w.cell? ⟨Bn,3,none⟩=some (.int .u8 nd.x.op):=ζ dH rfl;have x1:w.cell? ⟨Bn,4,none⟩=some (.int .i64 nd.x.n):=ζ dH rfl;have x2:w.cell? ⟨Bn,5,none⟩=some (.slice p nd.x.args.length cap):=ζ dH rfl;have g0:w.cell? ⟨Bg,0,none⟩=some (.func (.func 104) #[] #[.pointer (some ⟨Bo,0,none⟩)]):=ζ h.goes rfl;obtain⟨l1,l2,l3,l4⟩:=h.lo;obtain⟨i1,i2,i3,i4,i5⟩:=h.hi;have hlb:Bn<w.heap.size:=(by omega);have Zz:Bg<w.heap.size:=(by omega);have H:=γ h;have HX:=γ hx;have HR:=γ hr;clear h hx hr dH;go_enter func108,ntmps108;go_wp2_with fail;obtain⟨W0,hW0⟩:=acu ((w.alloc (.cells #[.int .i64 r.pos,.int .i64 r.key,.int .i64 r.val] 68)).alloc (.cells #[.int .i64 (aH r).key,.int .i64 (aH r).val,.int .i64 (aH r).acc] 182));have k0:ε η w W0:=(by rw[<-hW0];exact(δ.alloc _).alloc _);have hsz2:w.heap.size+1<W0.heap.size:=(by rw[<-hW0];simp);have hB:W0.heap[w.heap.size]?=some (.cells #[.int .i64 r.pos,.int .i64 r.key,.int .i64 r.val] 68 (0,0)):=(by rw[<-hW0];exact((ε.refl η (w.alloc (.cells #[.int .i64 r.pos,.int .i64 r.key,.int .i64 r.val] 68))).alloc _).heap (heap_alloc_new w (.cells #[.int .i64 r.pos,.int .i64 r.key,.int .i64 r.val] 68)) id);rw[hW0];have c:=abV nd.x _ (aH r) W0 (aF.pure k0 HX.o) (uY HR.o);refine c.mono ?_;clear c;rintro e W1 ⟨rfl,k1⟩;have k2:ε η w W1:=k0.trans k1;have hB1:=k1.heap hB id;have b0:W1.cell? ⟨w.heap.size,0,none⟩=some (.int .i64 r.pos):=ζ hB1 rfl;have b1:W1.cell? ⟨w.heap.size,1,none⟩=some (.int .i64 r.key):=ζ hB1 rfl;have b2:W1.cell? ⟨w.heap.size,2,none⟩=some (.int .i64 r.val):=ζ hB1 rfl;have g1:=k2.cell (p:=⟨Bg,0,none⟩) id g0;have hbg:Bg≠w.heap.size:=(by omega);have hout:=H.o.out.pure k2;have hsz:base<=W1.heap.size:=ω i5 k2.size;have G:=γ (θ k2 hout);clear k0 k1 k2 hB hB1 hW0 x0 x1 x2 g0 hout hsz2
 cases hb:nZ nd.x (aH r)with
 |false=>
  have F:yV S w0 Bn Bi Bo Bg base na nd v L (out++WG false r) (.returned (.tuple #[])) W1:=(by refine⟨rfl,H.o.next (S':=η) G.o.1 (fun k h=>h.elim) ?_⟩;show jD W1 Bo base (fun k=>base<=k) (out++[]);rw[append_nil];exact G.o.2);have F':=γ F;have UZ:=γ hb;clear F hb;go_wp2_with fail
  go_end0
  rw[UZ.o];exact F'.o
 |true=>
  have UZ:=γ hb;clear hb;go_wp2_with fail;have c:=yw r out Bo base (fun k=>base<=k) W1 G.o.2 hsz (fun k hk=>ω hsz hk) (by omega);refine c.mono ?_;clear c;rintro e W2 ⟨rfl,o2,k3⟩;have F:yV S w0 Bn Bi Bo Bg base na nd v L (out++WG true r) (.returned (.tuple #[])) W2:=(by exact⟨rfl,H.o.next (S':=fun k=>k=Bo\/base<=k) (G.o.1.pure.trans k3) (fun k h=>by rcases h with h|h;exact .inl h;exact .inr (.inl h)) o2⟩);have F':=γ F;clear F o2 k3;go_wp2_with fail
  go_end0
  rw[UZ.o];exact F'.o
theorem aah {S:Nat->Prop}{w0 w:World}{Bn Bi Bo Bg base:Nat}{na:Array Value}{nd:dG}{v:Value}{L out:List Rec}(h:iP S w0 w Bn Bi Bo Bg base na nd v L out)(r:Rec)(hr:bF r)(hlen:out.length<=1000000000):
 Calls prog 110 #[tJ r,fD (aH r),.pointer (some ⟨Bn,0,none⟩),.pointer (some ⟨Bg,0,none⟩)] w (yV S w0 Bn Bi Bo Bg base na nd v L (out++jk r (jP (dF nd.x (aH r))))):=by
 obtain⟨uid,inv,p,cap,hna,hx,hk0,hk1,hn⟩:=h.Af;have dH:=h.node;rw[hna]at dH;clear hna;have x0:w.cell? ⟨Bn,3,none⟩=some (.int .u8 nd.x.op):=ζ dH rfl;have x1:w.cell? ⟨Bn,4,none⟩=some (.int .i64 nd.x.n):=ζ dH rfl;have x2:w.cell? ⟨Bn,5,none⟩=some (.slice p nd.x.args.length cap):=ζ dH rfl;have g0:w.cell? ⟨Bg,0,none⟩=some (.func (.func 104) #[] #[.pointer (some ⟨Bo,0,none⟩)]):=ζ h.goes rfl;obtain⟨l1,l2,l3,l4⟩:=h.lo;obtain⟨i1,i2,i3,i4,i5⟩:=h.hi;have hlb:Bn<w.heap.size:=(by omega);have Zz:Bg<w.heap.size:=(by omega);have H:=γ h;have HX:=γ hx;have HR:=γ hr;clear h hx hr dH;go_enter func110,ntmps110;go_wp2_with fail;obtain⟨W0,hW0⟩:=acu ((w.alloc (.cells #[.int .i64 r.pos,.int .i64 r.key,.int .i64 r.val] 68)).alloc (.cells #[.int .i64 (aH r).key,.int .i64 (aH r).val,.int .i64 (aH r).acc] 182));have k0:ε η w W0:=(by rw[<-hW0];exact(δ.alloc _).alloc _);have hsz2:w.heap.size+1<W0.heap.size:=(by rw[<-hW0];simp);have hB:W0.heap[w.heap.size]?=some (.cells #[.int .i64 r.pos,.int .i64 r.key,.int .i64 r.val] 68 (0,0)):=by rw[<-hW0];exact((ε.refl η (w.alloc (.cells #[.int .i64 r.pos,.int .i64 r.key,.int .i64 r.val] 68))).alloc _).heap (heap_alloc_new w (.cells #[.int .i64 r.pos,.int .i64 r.key,.int .i64 r.val] 68)) id
 rw[hW0];have c:=DN nd.x _ (aH r) W0 (aF.pure k0 HX.o) (uY HR.o);refine c.mono ?_;clear c;rintro e W1 ⟨rfl,k1⟩;have k2:ε η w W1:=k0.trans k1;have hB1:=k1.heap hB id;have b0:W1.cell? ⟨w.heap.size,0,none⟩=some (.int .i64 r.pos):=ζ hB1 rfl;have b1:W1.cell? ⟨w.heap.size,1,none⟩=some (.int .i64 r.key):=ζ hB1 rfl;have b2:W1.cell? ⟨w.heap.size,2,none⟩=some (.int .i64 r.val):=ζ hB1 rfl;have g1:=k2.cell (p:=⟨Bg,0,none⟩) id g0;have hbg:Bg≠w.heap.size:=(by omega);have hout:jD W1 Bo base (fun k=>base<=k/\k≠w.heap.size) out:=
  ((H.o.out.mono (A':=fun k=>base<=k/\k<w.heap.size) (fun k h1 h2=>⟨h1,h2⟩)).pure k2).mono (fun k h _=>⟨h.1,by omega⟩)
 have hsz:base<=W1.heap.size/\w.heap.size<W1.heap.size:=⟨ω i5 k2.size,by have:=k1.size;omega⟩;have aff:=wK HX.o (uY HR.o);obtain⟨X,hX⟩:=acu (dF nd.x (aH r));rw[hX]at aff⊢;have HXX:=γ hX;obtain⟨hX1,hX2⟩:=aff;have G:=γ (θ k2 (θ hout (θ hsz hB1)));clear k0 k1 k2 hB hB1 hW0 x0 x1 x2 g0 hout hsz b0 b1 b2 g1 hX;have hfN:jP X<=4:=(by unfold jP;omega);have hFN:=γ (show jP X=(min X 4).toNat from rfl);go_wp2;go_loopg [12] (jP X) (fun g vi wr=> ∃k:Nat,k<=jP X/\vi= .int .i64 (k:Int)/\jP X-k<=g/\jD wr Bo base (fun k=>base<=k/\k≠w.heap.size) (out++jk r k)/\ε (fun k=>k=Bo\/(base<=k/\k≠w.heap.size)) W1 wr)
 case atStart=>exact⟨0,by omega,rfl,by omega,by simpa[jk]using G.o.2.1,ε.refl _ _⟩
 case round=>
  obtain⟨k,hkl,rfl,hg,ho,hkp⟩:=hrel;have hB2:=hkp.heap G.o.2.2.2 (fun h=>by rcases h with h|h;omega;exact h.2 rfl);have b0:wr.cell? ⟨w.heap.size,0,none⟩=some (.int .i64 r.pos):=ζ hB2 rfl;have b1:wr.cell? ⟨w.heap.size,1,none⟩=some (.int .i64 r.key):=ζ hB2 rfl;have b2:wr.cell? ⟨w.heap.size,2,none⟩=some (.int .i64 r.val):=ζ hB2 rfl;have g1:wr.cell? ⟨Bg,0,none⟩=some (.func (.func 104) #[] #[.pointer (some ⟨Bo,0,none⟩)]):=ζ (hkp.heap (G.o.1.heap H.o.goes id) (fun h=>by have:=H.o.ne;rcases h with h|h;exact this.2.2 h;omega)) rfl;have aeJ:=hkp.size;have A:=γ (θ hg (θ ho (θ hkp aeJ)));clear hg ho hkp hB2 aeJ;by_cases hlt:k<jP X
  ·have hlt2:(k:Int)<min X 4:=by have:=hFN.o;omega
   have hlt3:decide ((k:Int)<min X 4)=true:=decide_eq_true hlt2;have hk4:k<=4:=(by omega);go_wp2_with fail;have c:=yw ⟨wrap64 (wrap64 (8*r.pos)+(k:Int)),r.key,wrap64 (r.val+(k:Int))⟩ (out++jk r k) Bo base (fun k=>base<=k/\k≠w.heap.size) wr A.o.2.1 (ω G.o.2.2.1.1 A.o.2.2.2) (fun k hk=>⟨ω G.o.2.2.1.1 (ω A.o.2.2.2 hk),by have:=G.o.2.2.1.2;have:=A.o.2.2.2;omega⟩) (by rw[ν,qF];omega);refine c.mono ?_;clear c;rintro e W2 ⟨rfl,o2,k3⟩;rw[append_assoc,<-WI]at o2;go_wp2;go_roundg (jP X-(k+1))
   case rel=>exact⟨k+1,by omega,by go_num,ξ _,o2,A.o.2.2.1.trans k3⟩
   case measure=>have:=A.o.1;omega
  ·have hlt2: ¬(k:Int)<min X 4:=by have:=hFN.o;omega
   have hlt3:decide ((k:Int)<min X 4)=false:=decide_eq_false hlt2;have hkl:k=jP X:=(by omega);go_wp2_with fail
   go_end0
   rw[HXX.o,<-hkl];exact⟨rfl,H.o.next (S':=fun k=>k=Bo\/(base<=k/\k≠w.heap.size)) (G.o.1.pure.trans A.o.2.2.1) (fun k h=>by rcases h with h|h;exact .inl h;exact .inr (.inl h.1)) (A.o.2.1.mono (fun k h _=>h.1))⟩
end
section
open Go Go.RowKit Go.ChangeShapes Go.WideShapes Go.ChangeAt Go.Deep
end
section
open Go Go.RowKit
def Sep (Gs:Nat->Prop)(w:World)(Bo base tb tm:Nat)(X:Nat->Prop)(out:List Rec)(T:Tab):Prop:=
 ∃A M:Nat->Prop,jD w Bo base (fun k=>base<=k/\A k) out/\TabAt w M tb tm T/\(∀k,A k->M k->False)/\ ¬M Bo/\(∀k,X k-> ¬A k/\ ¬M k/\k≠Bo)/\ ∀k,M k->Gs k\/Bo<k
section
variable {Gs:Nat->Prop} {w w':World} {Bo base tb tm:Nat} {X:Nat->Prop} {out:List Rec} {T:Tab}
theorem Sep.pure (h:Sep Gs w Bo base tb tm X out T)(hk:ε η w w'):Sep Gs w' Bo base tb tm X out T:=by obtain⟨A,M,h1,h2,h3,h4,h5,h6⟩:=h;exact⟨A,M,h1.pure hk,h2.pure hk,h3,h4,h5,h6⟩
theorem Sep.ok (h:Sep Gs w Bo base tb tm X out T):fC T:=by obtain⟨A,M,h1,h2,h3,h4,h5,h6⟩:=h;exact h2.ok
theorem Sep.row (h:Sep Gs w Bo base tb tm X out T):jD w Bo base (fun k=>base<=k) out:=by obtain⟨A,M,h1,h2,h3,h4,h5,h6⟩:=h;exact h1.mono (fun k h _=>h.1)
theorem jD.lt {A:Nat->Prop}(h:jD w Bo base A out):Bo<w.heap.size:=by obtain⟨v,a,_⟩:=h;exact(κ.1 a).1
theorem Sep.enter (h:Sep Gs w Bo base tb tm X out T)(hk:ε η w w'){Y:Nat->Prop}(hY: ∀k,Y k->w.heap.size<=k):Sep Gs w' Bo base tb tm Y out T:=by
 obtain⟨A,M,h1,h2,h3,h4,h5,h6⟩:=h;have hlt:=h1.lt
 exact⟨fun k=>A k/\k<w.heap.size,fun k=>M k/\k<w.heap.size,(h1.mono (fun k h hl=>⟨h.1,h.2,hl⟩)).pure hk,(h2.mono (fun k h hl=>⟨h,hl⟩)).pure hk,fun k a b=>h3 k a.1 b.1,fun h=>h4 h.1,
  fun k hk=>⟨fun h=>by have:=hY k hk;omega,fun h=>by have:=hY k hk;omega,by have:=hY k hk;omega⟩,fun k h=>h6 k h.1⟩
theorem Sep.leave (h:Sep Gs w Bo base tb tm X out T):Sep Gs w Bo base tb tm η out T:=by obtain⟨A,M,h1,h2,h3,h4,h5,h6⟩:=h;exact⟨A,M,h1,h2,h3,h4,fun _ h=>h.elim,h6⟩
theorem Sep.foreign (h:Sep Gs w Bo base tb tm X out T){S:Nat->Prop}(hk:ε S w w')(hS: ∀k,S k->X k):Sep Gs w' Bo base tb tm X out T:=by obtain⟨A,M,h1,h2,h3,h4,h5,h6⟩:=h;exact⟨A,M,h1.kept hk (fun h=>(h5 _ (hS _ h)).2.2 rfl) (fun k h hs=>(h5 _ (hS _ hs)).1 h.2),h2.kept hk (fun k hs hM=>((h5 _ (hS _ hs)).2.1 hM).elim) (fun hs=>(h5 _ (hS _ hs)).2.1 h2.hm),h3,h4,h5,h6⟩
def afT (Gs:Nat->Prop)(w:World)(Bo base tb tm:Nat)(X:Nat->Prop)(out:List Rec)(T:Tab)(v:Value)(e:Ending)(w':World):Prop:=e= .returned v/\Sep Gs w' Bo base tb tm X out T/\ε (one tm) w w'
theorem Sep.get (h:Sep Gs w Bo base tb tm X out T)(k:Int):Calls prog 60 #[.pointer (some ⟨tb,0,none⟩),.int .i64 k] w (Sj w T k):=by obtain⟨A,M,h1,h2,h3,h4⟩:=h;exact get_any M tb tm T k w h2
theorem Sep.put (h:Sep Gs w Bo base tb tm X out T)(hX: ∀k,X k->k<w.heap.size)(k:Int)(c:Cell)(v:Value)(hk:aJ k)(hc1:aJ c.1)(hc2: ∀x∈c.2,aJ x)(hlen:c.2.length<=17592186044416)(hr:Reads w 1 v (ints c.2)):
 Calls prog 112 #[.pointer (some ⟨tb,0,none⟩),.int .i64 k,.agg #[.int .i64 c.1,v]] w (afT Gs w Bo base tb tm X out (dL T k c) (.int .i64 (eP T k c.2.length))):=by
 obtain⟨A,M,h1,h2,h3,h4,h5,h6⟩:=h;have hm:=h2.hm;have hlt:=h1.lt;refine(put_any (fun j=>M j\/w.heap.size<=j) tb tm T k c v w (h2.mono (fun j h _=> .inl h)) (fun j h=> .inr h) hk hc1 hc2 hlen hr).mono ?_;rintro e w' ⟨rfl,t,k1⟩;refine⟨rfl,⟨fun j=>A j/\j<w.heap.size,_,?_,t,?_,?_,?_,?_⟩,k1⟩
 ·refine(h1.mono (A':=fun k=>base<=k/\A k/\k<w.heap.size) (fun k h hl=>⟨h.1,h.2,hl⟩)).kept k1 (fun e=>h4 (by unfold one at e;rw[e];exact hm)) (fun k h e=>h3 k h.2.1 (by unfold one at e;rw[e];exact hm))
 ·rintro j ⟨a,b⟩ (c|c)
  ·exact h3 j a c
  ·omega
 ·rintro(c|c)
  ·exact h4 c
  ·omega
 ·intro j hj
  refine⟨fun a=>(h5 j hj).1 a.1,?_,(h5 j hj).2.2⟩;rintro(a|a)
  ·exact(h5 j hj).2.1 a
  ·have:=hX j hj;omega
 ·rintro j (c|c)
  ·exact h6 j c
  ·right;omega
theorem Sep.drop (h:Sep Gs w Bo base tb tm X out T)(k:Int):Calls prog 114 #[.pointer (some ⟨tb,0,none⟩),.int .i64 k] w (afT Gs w Bo base tb tm X out (eu k T) (.bool (bZ T k).isSome)):=by obtain⟨A,M,h1,h2,h3,h4,h5,h6⟩:=h;have hm:=h2.hm;refine(abN M tb tm T k w h2).mono ?_;rintro e w' ⟨rfl,t,k1⟩;exact⟨rfl,⟨A,M,h1.kept k1 (fun e=>h4 (by unfold one at e;rw[e];exact hm)) (fun k h e=>h3 k h.2 (by unfold one at e;rw[e];exact hm)),t,h3,h4,h5,h6⟩,k1⟩
def abY (Gs:Nat->Prop)(w:World)(Bo base tb tm:Nat)(out:List Rec)(T:Tab)(e:Ending)(w':World):Prop:=
 e= .returned (.tuple #[])/\Sep Gs w' Bo base tb tm η out T/\ε (fun k=>k=Bo\/base<=k) w w'
theorem Sep.goes (h:Sep Gs w Bo base tb tm X out T)(r:Rec)(hb:base<=w.heap.size)(hlen:out.length<=1073741824):
 Calls prog 104 #[tJ r,.pointer (some ⟨Bo,0,none⟩)] w (abY Gs w Bo base tb tm (out++[r]) T):=by
 obtain⟨A,M,h1,h2,h3,h4,_,h6⟩:=h;have hlt:=h1.lt;refine(yw r out Bo base (fun k=>base<=k/\(A k\/w.heap.size<=k)) w (h1.mono (fun k h _=>⟨h.1,.inl h.2⟩)) hb (fun k hk=>⟨ω hb hk,.inr hk⟩) hlen).mono ?_;rintro e w' ⟨rfl,o,k1⟩;have t:TabAt w (fun j=>M j/\j<w.heap.size) tb tm T:=h2.mono (fun j h hl=>⟨h,hl⟩);have dis: ∀k,(k=Bo\/base<=k/\(A k\/w.heap.size<=k))->M k/\k<w.heap.size->False:=by
  rintro k (rfl|⟨_,a|a⟩) ⟨b,c⟩
  ·exact h4 b
  ·exact h3 k a b
  ·omega
 refine⟨rfl,⟨_,_,o,t.kept k1 (fun k hS hM _ _ _ _=>(dis k hS hM).elim) (fun hS=>dis _ hS t.hm),?_,fun h=>h4 h.1,fun _ h=>h.elim,fun k h=>h6 k h.1⟩,k1.mono (fun k _ h=>by rcases h with h|h;exact .inl h;exact .inr h.1)⟩;rintro k (a|a) ⟨b,c⟩
 ·exact h3 k a b
 ·omega
theorem Sep.kK (h:Sep Gs w Bo base tb tm X out T): ∀c E f,w.heap[tm]?≠some (.cells c E f):=by obtain⟨A,M,h1,h2,h3,h4⟩:=h;obtain⟨l,hl,_⟩:=h2.map;obtain⟨L,cl,hL,_⟩:=hl;intro c E f e;rw[hL.heap]at e;cases e
end
structure vC (Gs:Nat->Prop)(w0 w:World)(Bn Bi Bo Bg Bp base tb tm:Nat)(na:Array Value)(nd:dG)(v:Value)(L out:List Rec)(T:Tab):Prop where
 st:iP (one tm) w0 w Bn Bi Bo Bg base na nd v L out
 ptr:w.heap[Bp]?=some (.cells #[.pointer (some ⟨tb,0,none⟩)] 43 (0,0))
 lop:w0.heap.size<=Bp/\Bp<base/\Bp≠Bo/\tm<w0.heap.size
 sep:Sep Gs w Bo base tb tm η out T
def DX (Gs:Nat->Prop)(w0:World)(Bn Bi Bo Bg Bp base tb tm:Nat)(na:Array Value)(nd:dG)(v:Value)(L out:List Rec)(T:Tab)(e:Ending)(w':World):Prop:=
 e= .returned (.tuple #[])/\vC Gs w0 w' Bn Bi Bo Bg Bp base tb tm na nd v L out T
theorem vC.next {Gs:Nat->Prop}{w0 w w':World}{Bn Bi Bo Bg Bp base tb tm:Nat}{na:Array Value}{nd:dG}{v:Value}{L out out':List Rec}{T T':Tab}(h:vC Gs w0 w Bn Bi Bo Bg Bp base tb tm na nd v L out T)
 {S':Nat->Prop} (hk:ε S' w w') (hS: ∀k,S' k->k=Bo\/base<=k\/k=tm) (hs:Sep Gs w' Bo base tb tm η out' T'):vC Gs w0 w' Bn Bi Bo Bg Bp base tb tm na nd v L out' T':=by
 obtain⟨l1,l2,l3,l4⟩:=h.lop;refine⟨h.st.next hk (fun k hk=>by rcases hS k hk with e|e|e;exact .inl e;exact .inr (.inl e);exact .inr (.inr e)) hs.row,hk.heap h.ptr (fun hk=>?_),h.lop,hs⟩
 rcases hS _ hk with e|e|e<;>omega
theorem vC.alloc {Gs:Nat->Prop}{w0 w:World}{Bn Bi Bo Bg Bp base tb tm:Nat}{na:Array Value}{nd:dG}{v:Value}{L out:List Rec}{T:Tab}(h:vC Gs w0 w Bn Bi Bo Bg Bp base tb tm na nd v L out T)(o:Obj):
 vC Gs w0 (w.alloc o) Bn Bi Bo Bg Bp base tb tm na nd v L out T:=
 h.next ((ε.refl η w).alloc o) (fun _ h=>h.elim) (h.sep.pure ((ε.refl η w).alloc o))
theorem yQ {T:Tab}(h:fC T)(k:Int):KO (cellOf T k):=by
 unfold cellOf
 cases hg:bZ T k with
 |none=>exact⟨fF,by simp,by simp⟩
 |some c=>exact h.cell _ ((qc h.rises).1 hg)
end
section
open Go Go.RowKit
attribute [local irreducible] dI
def Fg (T:Tab)(r:Rec)(x:Int):List Rec:=if eP T r.key 0=0 then[{r with val:=x}]else[]
theorem TV {Gs:Nat->Prop}{w0 w:World}{Bn Bi Bo Bg Bp base tb tm:Nat}{na:Array Value}{nd:dG}{v:Value}{L out:List Rec}{T:Tab}(h:vC Gs w0 w Bn Bi Bo Bg Bp base tb tm na nd v L out T)(r:Rec)(hr:bF r)(hlen:out.length<=1000000000):
 Calls prog 111 #[tJ r,fD (aH r),.pointer (some ⟨Bp,0,none⟩),.pointer (some ⟨Bn,0,none⟩),.pointer (some ⟨Bg,0,none⟩)] w
  (DX Gs w0 Bn Bi Bo Bg Bp base tb tm na nd v L (out++Fg T r (dF nd.x {aH r with acc:=(cellOf T r.key).1})) (dL T r.key (dF nd.x {aH r with acc:=(cellOf T r.key).1},[]))):=by
 obtain⟨uid,inv,p,cap,hna,hx,hk0,hk1,hn⟩:=h.st.Af;have dH:=h.st.node;rw[hna]at dH;clear hna;have x0:w.cell? ⟨Bn,3,none⟩=some (.int .u8 nd.x.op):=ζ dH rfl;have x1:w.cell? ⟨Bn,4,none⟩=some (.int .i64 nd.x.n):=ζ dH rfl;have x2:w.cell? ⟨Bn,5,none⟩=some (.slice p nd.x.args.length cap):=ζ dH rfl;have x3:w.cell? ⟨Bn,6,none⟩=some (.int .i64 nd.n):=ζ dH rfl;have g0:w.cell? ⟨Bg,0,none⟩=some (.func (.func 104) #[] #[.pointer (some ⟨Bo,0,none⟩)]):=ζ h.st.goes rfl;have p0:w.cell? ⟨Bp,0,none⟩=some (.pointer (some ⟨tb,0,none⟩)):=ζ h.ptr rfl;obtain⟨l1,l2,l3,l4⟩:=h.st.lo;obtain⟨i1,i2,i3,i4,i5⟩:=h.st.hi;obtain⟨lp1,lp2,lp3,lp4⟩:=h.lop;have hlb:Bn<w.heap.size:=(by omega);have Zz:Bg<w.heap.size:=(by omega);have hlp:Bp<w.heap.size:=(by omega);have H:=γ h;have HX:=γ hx;have HR:=γ hr;clear h hx hr dH;go_enter func111,ntmps111;go_wp2_with fail;obtain⟨W0,hW0⟩:=acu ((w.alloc (.cells #[.int .i64 r.pos,.int .i64 r.key,.int .i64 r.val] 68)).alloc (.cells #[.int .i64 (aH r).key,.int .i64 (aH r).val,.int .i64 (aH r).acc] 182));have k0:ε η w W0:=(by rw[<-hW0];exact(δ.alloc _).alloc _);have hsz2:w.heap.size+2<=W0.heap.size:=(by rw[<-hW0];simp);have hB:W0.heap[w.heap.size]?=some (.cells #[.int .i64 r.pos,.int .i64 r.key,.int .i64 r.val] 68 (0,0)):=(by rw[<-hW0];exact((ε.refl η (w.alloc (.cells #[.int .i64 r.pos,.int .i64 r.key,.int .i64 r.val] 68))).alloc _).heap (heap_alloc_new w (.cells #[.int .i64 r.pos,.int .i64 r.key,.int .i64 r.val] 68)) id);have hE:W0.heap[w.heap.size+1]?=some (.cells #[.int .i64 (aH r).key,.int .i64 (aH r).val,.int .i64 (aH r).acc] 182 (0,0)):=(by rw[<-hW0];have:=heap_alloc_new (w.alloc (.cells #[.int .i64 r.pos,.int .i64 r.key,.int .i64 r.val] 68)) (.cells #[.int .i64 (aH r).key,.int .i64 (aH r).val,.int .i64 (aH r).acc] 182);simpa[World.size_alloc]using this);rw[hW0];have c:=(H.o.sep.pure k0).get r.key;refine c.mono ?_;clear c;rintro e W1 ⟨lv,n',rfl,g1,g2,k1⟩;obtain⟨la,lc,rfl⟩:=au g1;have k2:ε η w W1:=k0.trans k1;have hB1:=k1.heap hB id;have hE1:=k1.heap hE id;have hsz3:w.heap.size+2<=W1.heap.size:=ω hsz2 k1.size;have y0:=k2.cell (p:=⟨Bn,3,none⟩) id x0;have y1:=k2.cell (p:=⟨Bn,4,none⟩) id x1;have y2:=k2.cell (p:=⟨Bn,5,none⟩) id x2;have y3:=k2.cell (p:=⟨Bn,6,none⟩) id x3;have gg:=k2.cell (p:=⟨Bg,0,none⟩) id g0;have pp:=k2.cell (p:=⟨Bp,0,none⟩) id p0;have b0:W1.cell? ⟨w.heap.size,0,none⟩=some (.int .i64 r.pos):=ζ hB1 rfl;have b1:W1.cell? ⟨w.heap.size,1,none⟩=some (.int .i64 r.key):=ζ hB1 rfl;have b2:W1.cell? ⟨w.heap.size,2,none⟩=some (.int .i64 r.val):=ζ hB1 rfl;have e0:W1.cell? ⟨w.heap.size+1,0,none⟩=some (.int .i64 (aH r).key):=ζ hE1 rfl;have e1:W1.cell? ⟨w.heap.size+1,1,none⟩=some (.int .i64 (aH r).val):=ζ hE1 rfl;have e2:W1.cell? ⟨w.heap.size+1,2,none⟩=some (.int .i64 (aH r).acc):=ζ hE1 rfl;have hco:=yQ H.o.sep.ok r.key;have hcd:(bZ T r.key).getD (0,[])=cellOf T r.key:=rfl;rw[hcd]at g1 g2⊢;clear x0 x1 x2 x3 g0 p0 k0 hW0 hB hE;obtain⟨acc,hacc⟩:=acu ((cellOf T r.key).1);have Hq:aJ acc:=hacc▸hco.1;rw[hacc];obtain⟨env',Wn⟩: ∃env':Env,({aH r with acc:=acc}:Env)=env':=⟨_,rfl⟩;have eo:iK env':=Wn▸⟨HR.o.key,HR.o.val,Hq⟩;have f2:=free_at hE1 2;have f3:=free_at hB1 2;have hn1:Bn≠w.heap.size+1:=(by omega);have hn2:Bn≠W1.heap.size:=(by omega);have hn3:w.heap.size+1≠W1.heap.size:=(by omega);have hl1:w.heap.size+1<W1.heap.size:=(by omega);have hl2:w.heap.size<W1.heap.size:=(by omega);have hl3:Bn<W1.heap.size:=(by omega);have K2:=γ (θ k2 (θ hB1 hE1));have UY:=γ (θ Wn eo);have agb:=γ hacc;clear g1 g2 k1 k2 hB1 hE1 hacc hco Wn eo hcd;go_wp2_with fail;obtain⟨Wi,hWi⟩:=acu ((W1.setCell ⟨w.heap.size+1,2,none⟩ (.int .i64 acc)).alloc (.cells #[.int .i64 acc,.slice la n' lc] 109));rw[hWi];have ki:ε (one (w.heap.size+1)) W1 Wi:=(by rw[<-hWi];exact((ε.refl (one (w.heap.size+1)) W1).setCell (p:=⟨w.heap.size+1,2,none⟩) (.inl rfl) _).alloc _);have kwi:ε η w Wi:=K2.o.1.new ki (fun i hi e=>by unfold one at e;omega);have c:=DN nd.x _ env' Wi (aF.pure kwi HX.o) UY.o.2;rw[<-UY.o.1]at c;refine c.mono ?_;clear c;rintro e W2 ⟨rfl,k3⟩;rw[UY.o.1];have X64:=wK HX.o UY.o.2;obtain⟨X,hX⟩:=acu (dF nd.x env');rw[hX]at X64⊢;have hB2:=k3.heap (ki.heap K2.o.2.1 (fun e=>by unfold one at e;omega)) id;have jF:ε η w W2:=kwi.trans k3;have q0:W2.cell? ⟨w.heap.size,0,none⟩=some (.int .i64 r.pos):=ζ hB2 rfl;have q1:W2.cell? ⟨w.heap.size,1,none⟩=some (.int .i64 r.key):=ζ hB2 rfl;have q2:W2.cell? ⟨w.heap.size,2,none⟩=some (.int .i64 r.val):=ζ hB2 rfl;have q3:=free_at hB2 2;have q4:W2.cell? ⟨Bp,0,none⟩=some (.pointer (some ⟨tb,0,none⟩)):=ζ (jF.heap H.o.ptr id) rfl;have hp1:Bp≠w.heap.size:=(by omega);have K4:=γ (θ jF (θ hB2 X64));have HXX:=γ hX;clear k3 ki kwi hB2 jF hWi X64 hX y0 y1 y2 y3 b0 b1 b2 e0 e1 e2 f2 f3 gg pp;go_wp2_with fail;have kp:ε η w (W2.setCell ⟨w.heap.size,2,none⟩ (.int .i64 X)):=K4.o.1.setCell (p:=⟨w.heap.size,2,none⟩) (.inr (ξ _)) _;have c:=(H.o.sep.pure kp).put (fun _ h=>h.elim) r.key (X,[]) (.slice none 0 0) HR.o.key K4.o.2.2 (by simp) (by simp) (Reads.nil _ _);refine c.mono ?_;clear c;rintro e W3 ⟨rfl,s3,k4⟩;have hB3:=k4.heap (aU K4.o.2.1 2 (.int .i64 X)) (fun e=>by unfold one at e;omega);have t0:W3.cell? ⟨w.heap.size,0,none⟩=some (.int .i64 r.pos):=ζ hB3 rfl;have t1:W3.cell? ⟨w.heap.size,1,none⟩=some (.int .i64 r.key):=ζ hB3 rfl;have t2:W3.cell? ⟨w.heap.size,2,none⟩=some (.int .i64 X):=ζ hB3 rfl;have t3:W3.cell? ⟨Bg,0,none⟩=some (.func (.func 104) #[] #[.pointer (some ⟨Bo,0,none⟩)]):=ζ (k4.heap (kp.heap H.o.st.goes id) (fun e=>by unfold one at e;omega)) rfl;have kk:ε (one tm) w W3:=kp.pure.trans k4;have S3:=γ (θ s3 kk);clear s3 kk k4 kp hB3;by_cases hp:eP T r.key 0=0
 ·have HP:=γ hp
  rw[show eP T r.key ((X,([]:List Int)):Int×List Int).2.length=0 from hp];clear hp;go_wp2_with fail;have c:=S3.o.1.goes {r with val:=X} (ω i5 S3.o.2.size) (by omega);refine c.mono ?_;clear c;rintro e W4 ⟨rfl,s4,k5⟩;have F:DX Gs w0 Bn Bi Bo Bg Bp base tb tm na nd v L (out++Fg T r X) (dL T r.key (X,[])) (.returned (.tuple #[])) W4:=(by refine⟨rfl,H.o.next (S':=fun k=>(k=Bo\/base<=k)\/k=tm) ((S3.o.2.mono (fun k _ e=> .inr e)).trans (k5.mono (fun k _ h=> .inl h))) (fun k h=>by rcases h with(h|h)|h;exact .inl h;exact .inr (.inl h);exact .inr (.inr h)) ?_⟩;unfold Fg;rw[if_pos HP.o];exact s4);have F':=γ F;clear F s4 k5;go_wp2_with fail
  go_end0
  rw[agb.o,UY.o.1,HXX.o];exact F'.o
 ·have F:DX Gs w0 Bn Bi Bo Bg Bp base tb tm na nd v L (out++Fg T r X) (dL T r.key (X,[])) (.returned (.tuple #[])) W3:=by
   refine⟨rfl,H.o.next (S':=one tm) S3.o.2 (fun k h=> .inr (.inr h)) ?_⟩;unfold Fg;rw[if_neg hp,append_nil];exact S3.o.1
  have F':=γ F;obtain⟨E,hE⟩:=acu (eP T r.key ((X,([]:List Int)):Int×List Int).2.length);have hE0:(E==0)=false:=(by rw[<-hE];have:eP T r.key ((X,([]:List Int)):Int×List Int).2.length=eP T r.key 0:=rfl;rw[this];simp[hp]);rw[hE];clear F hp hE;go_wp2_with fail
  go_end0
  rw[agb.o,UY.o.1,HXX.o];exact F'.o
def ES (T:Tab)(key n:Int)(len:Nat):Prop:=eP T key len≠0\/((len:Nat):Int)<n
instance (T:Tab) (key n:Int) (len:Nat):Decidable (ES T key n len):=by unfold ES;exact inferInstance
def ER (T:Tab)(r:Rec)(n:Int)(l:List Int):List Rec:=if ES T r.key n l.length then[]else[{r with val:=sumW l}]
def EP (T:Tab)(r:Rec)(n acc:Int)(l:List Int):Tab:=if ES T r.key n l.length then dL T r.key (acc,l)else eu r.key (dL T r.key (acc,l))
theorem sumW_snoc {l:List Int}{k:Nat}{x:Int}(h:l[k]?=some x):sumW (l.take (k+1))=wrap64 (sumW (l.take k)+x):=by unfold sumW;rw[ψ,h,foldl_append];rfl
theorem aaI (l:List Int):aJ (sumW l):=by
 unfold sumW
 rcases eq_nil_or_concat l with rfl|⟨m,x,rfl⟩
 ·exact fF
 ·rw[concat_eq_append,foldl_append];exact nH _
theorem own_ne {w:World}{base e size n t E:Nat}{v:Value}{xs:List Value}{f:Nat×Nat}{cs:Array Value}(h:w.ownsRow base e size v n xs)(ht:w.heap[t]?=some (.cells cs E f))(hne:E≠e): ∀k,Value.blk v=some k->k≠t:=by
 intro k hk ek
 rcases h.2 with⟨e',_⟩|⟨g,cap',cur,e',_,hg,_⟩
 ·rw[e']at hk;simp[Value.blk]at hk
 ·rw[e']at hk
  by_cases hn:n=0
  ·simp[Value.blk,hn]at hk
  ·simp[Value.blk,hn]at hk
   subst ek;rw[<-hk,hg]at ht
   injection ht with ht
   injection ht with _ ht _
   exact hne ht.symm
theorem TF (l m:List Int):ints (l++m)=ints l++ints m:=by unfold ints;rw[aay]
theorem TU {Gs:Nat->Prop}{w0 w:World}{Bn Bi Bo Bg Bp base tb tm:Nat}{na:Array Value}{nd:dG}{v:Value}{L out:List Rec}{T:Tab}(h:vC Gs w0 w Bn Bi Bo Bg Bp base tb tm na nd v L out T)(r:Rec)(hr:bF r)(hlen:out.length<=1000000000):
 Calls prog 113 #[tJ r,fD (aH r),.pointer (some ⟨Bp,0,none⟩),.pointer (some ⟨Bn,0,none⟩),.pointer (some ⟨Bg,0,none⟩)] w
  (DX Gs w0 Bn Bi Bo Bg Bp base tb tm na nd v L (out++ER T r nd.n ((cellOf T r.key).2++[r.val])) (EP T r nd.n (cellOf T r.key).1 ((cellOf T r.key).2++[r.val]))):=by
 obtain⟨uid,inv,p,cap,hna,hx,hk0,hk1,hn⟩:=h.st.Af;have dH:=h.st.node;rw[hna]at dH;clear hna;have x0:w.cell? ⟨Bn,3,none⟩=some (.int .u8 nd.x.op):=ζ dH rfl;have x1:w.cell? ⟨Bn,4,none⟩=some (.int .i64 nd.x.n):=ζ dH rfl;have x2:w.cell? ⟨Bn,5,none⟩=some (.slice p nd.x.args.length cap):=ζ dH rfl;have x3:w.cell? ⟨Bn,6,none⟩=some (.int .i64 nd.n):=ζ dH rfl;have g0:w.cell? ⟨Bg,0,none⟩=some (.func (.func 104) #[] #[.pointer (some ⟨Bo,0,none⟩)]):=ζ h.st.goes rfl;have p0:w.cell? ⟨Bp,0,none⟩=some (.pointer (some ⟨tb,0,none⟩)):=ζ h.ptr rfl;obtain⟨l1,l2,l3,l4⟩:=h.st.lo;obtain⟨i1,i2,i3,i4,i5⟩:=h.st.hi;obtain⟨lp1,lp2,lp3,lp4⟩:=h.lop;have hlb:Bn<w.heap.size:=(by omega);have Zz:Bg<w.heap.size:=(by omega);have hlp:Bp<w.heap.size:=(by omega);have H:=γ h;have HX:=γ hx;have HR:=γ hr;clear h hx hr dH;go_enter func113,ntmps113;go_wp2_with fail;obtain⟨W0,hW0⟩:=acu ((w.alloc (.cells #[.int .i64 r.pos,.int .i64 r.key,.int .i64 r.val] 68)).alloc (.cells #[.int .i64 (aH r).key,.int .i64 (aH r).val,.int .i64 (aH r).acc] 182));have k0:ε η w W0:=(by rw[<-hW0];exact(δ.alloc _).alloc _);have hsz2:w.heap.size+2<=W0.heap.size:=(by rw[<-hW0];simp);have hB:W0.heap[w.heap.size]?=some (.cells #[.int .i64 r.pos,.int .i64 r.key,.int .i64 r.val] 68 (0,0)):=(by rw[<-hW0];exact((ε.refl η (w.alloc (.cells #[.int .i64 r.pos,.int .i64 r.key,.int .i64 r.val] 68))).alloc _).heap (heap_alloc_new w (.cells #[.int .i64 r.pos,.int .i64 r.key,.int .i64 r.val] 68)) id);have hE:W0.heap[w.heap.size+1]?=some (.cells #[.int .i64 (aH r).key,.int .i64 (aH r).val,.int .i64 (aH r).acc] 182 (0,0)):=by rw[<-hW0];have:=heap_alloc_new (w.alloc (.cells #[.int .i64 r.pos,.int .i64 r.key,.int .i64 r.val] 68)) (.cells #[.int .i64 (aH r).key,.int .i64 (aH r).val,.int .i64 (aH r).acc] 182);simpa[World.size_alloc]using this
 rw[hW0];have c:=(H.o.sep.pure k0).get r.key;refine c.mono ?_;clear c;rintro e W1 ⟨lv,n',rfl,g1,g2,k1⟩;obtain⟨la,lc,rfl⟩:=au g1;have k2:ε η w W1:=k0.trans k1;have hB1:=k1.heap hB id;have hE1:=k1.heap hE id;have hsz3:w.heap.size+2<=W1.heap.size:=ω hsz2 k1.size;have y0:=k2.cell (p:=⟨Bn,3,none⟩) id x0;have y1:=k2.cell (p:=⟨Bn,4,none⟩) id x1;have y2:=k2.cell (p:=⟨Bn,5,none⟩) id x2;have y3:=k2.cell (p:=⟨Bn,6,none⟩) id x3;have gg:=k2.cell (p:=⟨Bg,0,none⟩) id g0;have pp:=k2.cell (p:=⟨Bp,0,none⟩) id p0;have b0:W1.cell? ⟨w.heap.size,0,none⟩=some (.int .i64 r.pos):=ζ hB1 rfl;have b1:W1.cell? ⟨w.heap.size,1,none⟩=some (.int .i64 r.key):=ζ hB1 rfl;have b2:W1.cell? ⟨w.heap.size,2,none⟩=some (.int .i64 r.val):=ζ hB1 rfl;have e0:W1.cell? ⟨w.heap.size+1,0,none⟩=some (.int .i64 (aH r).key):=ζ hE1 rfl;have e1:W1.cell? ⟨w.heap.size+1,1,none⟩=some (.int .i64 (aH r).val):=ζ hE1 rfl;have e2:W1.cell? ⟨w.heap.size+1,2,none⟩=some (.int .i64 (aH r).acc):=ζ hE1 rfl;have hco:=yQ H.o.sep.ok r.key;have Hf:=g1.lt;have hcd:(bZ T r.key).getD (0,[])=cellOf T r.key:=rfl;rw[hcd]at g1 g2⊢;clear x0 x1 x2 x3 g0 p0 k0 hW0 hB hE;obtain⟨acc,hacc⟩:=acu ((cellOf T r.key).1);obtain⟨old,hold⟩:=acu ((cellOf T r.key).2);have Hq:aJ acc:=hacc▸hco.1;have Zv: ∀x∈old,aJ x:=hold▸hco.2.1;have aeV:old.length<=16:=hold▸hco.2.2;rw[hold]at g1;rw[hacc];obtain⟨l,hl⟩:=acu (old++[r.val]);have ae4:l.length<=17:=(by rw[<-hl];simp;omega);have ae3: ∀x∈l,aJ x:=by
  intro x hx;rw[<-hl]at hx
  rcases aax.1 hx with hx|hx
  ·exact Zv x hx
  ·simp at hx;subst hx;exact HR.o.val
 obtain⟨i,z,hi,hz,hs,hby,hzs⟩: ∃i z,prog.info? 2=some i/\i.zero=some z/\i.size=1/\i.bytes=8/\z.cells.size=1:=(by obtain⟨i,h1,h2,h3,h4⟩:=info_parts Tryz.info2;exact⟨i,_,h1,h2,h3,h4,rfl⟩);obtain⟨Wa,hWa⟩:=acu ((W1.alloc (.cells #[.int .i64 acc,.slice la n' lc] 109)).alloc (.cells #[.int .i64 r.val] 2));have ka:ε η W1 Wa:=(by rw[<-hWa];exact(δ.alloc _).alloc _);have hC:Wa.heap[W1.heap.size]?=some (.cells #[.int .i64 acc,.slice la n' lc] 109 (0,0)):=(by rw[<-hWa];exact((ε.refl η (W1.alloc (.cells #[.int .i64 acc,.slice la n' lc] 109))).alloc _).heap (heap_alloc_new W1 (.cells #[.int .i64 acc,.slice la n' lc] 109)) id);have hrd:Reads Wa 1 (.slice (some ⟨W1.heap.size+1,0,none⟩) 1 1) (ints [r.val]):=(by have:=Reads.lit (W1.alloc (.cells #[.int .i64 acc,.slice la n' lc] 109)) (ints [r.val]) 2 1 1 rfl (by unfold maxLen;omega);rw[World.size_alloc]at this;rw[<-hWa];exact this);have g1a:=ka.owns g1 (fun _ _ h=>h);have aiC:n'<=16:=(by have:=g1.1;simp at this;omega);obtain⟨v',n2,w',a1,a2,a3,a4,a5⟩:=aZ (P:=prog) _ 97 97 2 i z 1 8 underlying97 hi hz hs hby hzs (by omega) g1a hrd (nM [r.val]) (by simp;omega) (by unfold maxLen;simp;omega) (ω k1.size ka.size);rw[<-TF,hl]at a2;obtain⟨va,vc,rfl⟩:=au a2;have hn2:n2=l.length:=(by have:=a2.1;simp at this;omega);subst hn2;have hown: ∀k,(Value.slice la n' lc).ownBlock=some k->W0.heap.size<=k/\k<W1.heap.size:=fun k hk=>Hf k hk;have kw':ε η w w':=k2.new (ka.pure.trans (ε.grown (S:=fun k=>W0.heap.size<=k/\k<W1.heap.size) a4 (fun k hk _=>hown k hk))) (fun i hi h=>by omega);have hB2:w'.heap[w.heap.size]?=_:=(a4.block w.heap.size (by have:=ka.size;omega) (fun e=>by have:=hown _ e.symm;omega)).trans (ka.heap hB1 id);have hC2:w'.heap[W1.heap.size]?=_:=(a4.block W1.heap.size (by have:=(κ.1 hC).1;omega) (fun e=>by have:=hown _ e.symm;omega)).trans hC;have hrow:=Reads.aN a2;have abw:=own_ne a2 hC2 (by omega);have acE:=own_ne a2 hB2 (by omega);have A1:=γ a1;rw[<-hWa]at A1;have hc1:w'.cell? ⟨W1.heap.size,1,none⟩=some (.slice la n' lc):=ζ hC2 rfl;have hc0:w'.cell? ⟨W1.heap.size,0,none⟩=some (.int .i64 acc):=ζ hC2 rfl;have fc1:=free_at hC2 1;have hq0:w'.cell? ⟨w.heap.size,0,none⟩=some (.int .i64 r.pos):=ζ hB2 rfl;have hq1:w'.cell? ⟨w.heap.size,1,none⟩=some (.int .i64 r.key):=ζ hB2 rfl;have hq2:w'.cell? ⟨w.heap.size,2,none⟩=some (.int .i64 r.val):=ζ hB2 rfl;have hp0:w'.cell? ⟨Bp,0,none⟩=some (.pointer (some ⟨tb,0,none⟩)):=ζ (kw'.heap H.o.ptr id) rfl;have hpne:Bp≠W1.heap.size:=(by omega);have hsne:w.heap.size≠W1.heap.size:=(by omega);have CJ:ε (one W1.heap.size) w' (w'.setCell ⟨W1.heap.size,1,none⟩ (.slice va l.length vc)):=(ε.refl (one W1.heap.size) w').setCell (p:=⟨W1.heap.size,1,none⟩) (.inl rfl) _;have hC3:=aU hC2 1 (.slice va l.length vc);have hB3:=CJ.heap hB2 (fun e=>by unfold one at e;omega);have hrow3:=hrow.kept CJ (fun b hb e=>abw b hb e);have uH:ε η w (w'.setCell ⟨W1.heap.size,1,none⟩ (.slice va l.length vc)):=kw'.new CJ (fun i hi e=>by unfold one at e;omega);have K3:=γ (θ uH (θ hB3 (θ hC3 (θ hrow3 (θ abw acE)))));have HL:=γ (θ ae3 (θ Hq ae4));have Ir:=γ (θ hacc (θ hold hl));clear a1 a2 a3 a4 a5 hC hrd g1a aiC hown kw' hB2 hC2 hrow abw acE CJ hC3 hB3 hrow3 uH ae3 Hq ae4 hacc hold hl Zv aeV hco hcd g1 g2 Hf hWa ka hi hz hs hby hzs k1 k2 hB1 hE1 e0 e1 e2 gg y0 y1 y2 b0 b1 y3;have hlt1:w.heap.size<W1.heap.size:=(by omega);go_wp2_with (at_builtin;refine wpList_append_run rfl (.tmp 19) (.tmp 22) 97 rfl _ _ _ rfl rfl A1.o ?_);obtain⟨Wp,hWp⟩:=acu (w'.setCell ⟨W1.heap.size,1,none⟩ (.slice va l.length vc));rw[hWp]at K3⊢;have c:=(H.o.sep.enter K3.o.1 (Y:=one w.heap.size) (fun k e=>by unfold one at e;omega)).put (fun k e=>by unfold one at e;have:=(κ.1 K3.o.2.1).1;omega) r.key (acc,l) (.slice va l.length vc) HR.o.key HL.o.2.1 HL.o.1 (by have:=HL.o.2.2;simp;omega) K3.o.2.2.2.1;refine c.mono ?_;clear c;rintro e W3 ⟨rfl,s3,k4⟩;have kW3:ε (one tm) w W3:=K3.o.1.pure.trans k4;have hB4:=k4.heap K3.o.2.1 (fun e=>by unfold one at e;omega);have hC4:=k4.heap K3.o.2.2.1 (fun e=>by unfold one at e;omega);have t0:W3.cell? ⟨w.heap.size,0,none⟩=some (.int .i64 r.pos):=ζ hB4 rfl;have t1:W3.cell? ⟨w.heap.size,1,none⟩=some (.int .i64 r.key):=ζ hB4 rfl;have t2:W3.cell? ⟨w.heap.size,2,none⟩=some (.int .i64 r.val):=ζ hB4 rfl;have t3:W3.cell? ⟨W1.heap.size,1,none⟩=some (.slice va l.length vc):=ζ hC4 rfl;obtain⟨uid,inv,p',cap',hna,_,_,_,_⟩:=H.o.st.Af;have dH:=H.o.st.node;rw[hna]at dH;have t4:W3.cell? ⟨Bn,6,none⟩=some (.int .i64 nd.n):=ζ (kW3.heap dH (fun e=>by unfold one at e;omega)) rfl;have t5:W3.cell? ⟨Bp,0,none⟩=some (.pointer (some ⟨tb,0,none⟩)):=ζ (kW3.heap H.o.ptr (fun e=>by unfold one at e;omega)) rfl;have S3:=γ (θ s3 (θ kW3 (θ hB4 (θ hC4 k4))));have HWp:=γ hWp;clear s3 kW3 hB4 hC4 k4 hna dH hc0 hc1 fc1 hq0 hq1 hq2 hp0 hWp b2;have fin0:ES T r.key nd.n l.length->DX Gs w0 Bn Bi Bo Bg Bp base tb tm na nd v L (out++ER T r nd.n l) (EP T r nd.n acc l) (.returned (.tuple #[])) W3:=(by intro hw;refine⟨rfl,H.o.next (S':=one tm) S3.o.2.1 (fun k h=> .inr (.inr h)) ?_⟩;unfold ER EP;rw[if_pos hw,if_pos hw,append_nil];exact S3.o.1.leave);have F0:=γ fin0;clear fin0;by_cases hp:eP T r.key l.length=0
 ·rw[show eP T r.key ((acc,l):Int×List Int).2.length=0 from hp]
  by_cases hn0:((l.length:Nat):Int)<nd.n
  ·have hn1:decide (((l.length:Nat):Int)<nd.n)=true:=decide_eq_true hn0
   have F:=γ (F0.o (.inr hn0));clear F0 hp;go_wp2_with fail
   go_end0
   rw[Ir.o.1,Ir.o.2.1,Ir.o.2.2];exact F.o
  ·have hn1:decide (((l.length:Nat):Int)<nd.n)=false:=decide_eq_false hn0
   have hnb: ¬ES T r.key nd.n l.length:=(by rintro(h|h);exact h hp;exact hn0 h);have HNB:=γ hnb;clear hnb F0 hp;go_wp2_with fail;have c:=S3.o.1.drop r.key;refine c.mono ?_;clear c;rintro e W4 ⟨rfl,s4,k5⟩;have kW4:ε (one tm) w W4:=S3.o.2.1.trans k5;have Ht:=k5.heap S3.o.2.2.1 (fun e=>by unfold one at e;omega);have hC5:=k5.heap S3.o.2.2.2.1 (fun e=>by unfold one at e;omega)
   have V6:Reads W4 1 (.slice va l.length vc) (ints l):=K3.o.2.2.2.1.kept (S3.o.2.2.2.2.trans k5) (fun b hb e=>by
    unfold one at e;obtain⟨c,E,f,hc⟩:=K3.o.2.2.2.1.isCells (by omega) hb;rw[e]at hc
    exact(H.o.sep.pure K3.o.1).kK _ _ _ hc)
   obtain⟨ra,rc,re,rc1,rc2,tN⟩:=V6.at;have hfz:=free_at Ht 2;have hs2:W4.cell? ⟨w.heap.size,2,none⟩=some (.int .i64 r.val):=ζ Ht rfl;have hs5:W4.cell? ⟨W1.heap.size,1,none⟩=some (.slice va l.length vc):=ζ hC5 rfl;have kz:ε (one w.heap.size) W4 (W4.setCell ⟨w.heap.size,2,none⟩ (.int .i64 0)):=(ε.refl (one w.heap.size) W4).setCell (p:=⟨w.heap.size,2,none⟩) (.inl rfl) _;have hz5:=aU Ht 2 (.int .i64 0);have G:=γ (θ s4 (θ kW4 (θ V6 (θ kz hz5))));have HRC:=γ (θ re tN);clear s4 kW4 Ht hC5 V6 k5 kz hz5 re tN t0 t1 t2 t3 t4 t5;go_wp2_with fail;obtain⟨W5,oI⟩:=acu (W4.setCell ⟨w.heap.size,2,none⟩ (.int .i64 0));rw[oI]at G⊢;clear oI hfz hs2 hs5;go_loopg [47] l.length (fun g vi wr=> ∃k:Nat,k<=l.length/\vi= .int .i64 (k:Int)/\l.length-k<=g/\wr.heap[w.heap.size]?=some (.cells #[.int .i64 r.pos,.int .i64 r.key,.int .i64 (sumW (l.take k))] 68 (0,0))/\ε (one w.heap.size) W4 wr)
   case atStart=>exact⟨0,by omega,rfl,by omega,by simpa[sumW]using G.o.2.2.2.2,G.o.2.2.2.1⟩
   case round=>
    obtain⟨k,hkl,rfl,hg,hrow,hkp⟩:=hrel;have u0:wr.cell? ⟨w.heap.size,0,none⟩=some (.int .i64 r.pos):=ζ hrow rfl;have u1:wr.cell? ⟨w.heap.size,1,none⟩=some (.int .i64 r.key):=ζ hrow rfl;have u2:wr.cell? ⟨w.heap.size,2,none⟩=some (.int .i64 (sumW (l.take k))):=ζ hrow rfl;have u3:=free_at hrow 2;have hrd:Reads wr 1 (.slice va l.length vc) (ints l):=G.o.2.2.1.kept hkp (fun b hb e=>K3.o.2.2.2.2.2 b hb e);by_cases hlt:k<l.length
    ·obtain⟨x,hx⟩: ∃x,l[k]?=some x:=⟨_,ι hlt⟩
     obtain⟨ra',rc',re',_,_,YD⟩:=hrd.at;cases re';obtain⟨b,off,rfl,hcl⟩:=YD.resolve_left (fun h=>by rw[h]at hx;cases hx);have hxc:=hcl k x hx;have hst:=aU hrow 2 (.int .i64 (sumW (l.take (k+1))));rw[sumW_snoc hx]at hst;have ks2:ε (one w.heap.size) W4 (wr.setCell ⟨w.heap.size,2,none⟩ (.int .i64 (wrap64 (sumW (l.take k)+x)))):=hkp.setCell (p:=⟨w.heap.size,2,none⟩) (.inl rfl) _;have Z:=γ (θ hg (θ hst (θ ks2 (sumW_snoc hx))));have s64:=aaI (l.take k);obtain⟨sm1,sm2⟩:=s64;obtain⟨sk,hsk⟩:=acu (sumW (l.take k));rw[hsk]at u2 sm1 sm2 Z;have hk17:k<17:=(by have:=HL.o.2.2;omega);have x64:=HL.o.1 x (ς hx);clear hsk hst ks2 hcl YD hrd hrow hkp hg hx u0 u1;go_wp2;go_roundg (l.length-(k+1))
     case rel=>exact⟨k+1,by omega,by go_num,ξ _,by rw[Z.o.2.2.2];exact Z.o.2.1,Z.o.2.2.1⟩
     case measure=>have:=Z.o.1;omega
    ·have hkk:k=l.length:=by omega
     subst hkk;rw[χ (ξ _)]at u2;have u4:wr.cell? ⟨Bg,0,none⟩=some (.func (.func 104) #[] #[.pointer (some ⟨Bo,0,none⟩)]):=ζ (hkp.heap (G.o.2.1.heap H.o.st.goes (fun e=>by unfold one at e;omega)) (fun e=>by unfold one at e;omega)) rfl;have Qe:ε (one tm) w wr:=G.o.2.1.new hkp (fun i hi e=>by unfold one at e;omega);have aef:Sep Gs wr Bo base tb tm η out (eu r.key (dL T r.key (acc,l))):=(G.o.1.foreign hkp (fun k e=>e)).leave;have Z:=γ (θ Qe aef);clear Qe aef hrd hrow hkp hg;go_wp2_with fail;have c:=Z.o.2.goes {r with val:=sumW l} (ω i5 Z.o.1.size) (by omega);refine c.mono ?_;clear c;rintro e W6 ⟨rfl,s6,k6⟩;have F:DX Gs w0 Bn Bi Bo Bg Bp base tb tm na nd v L (out++ER T r nd.n l) (EP T r nd.n acc l) (.returned (.tuple #[])) W6:=(by refine⟨rfl,H.o.next (S':=fun k=>(k=Bo\/base<=k)\/k=tm) ((Z.o.1.mono (fun k _ e=> .inr e)).trans (k6.mono (fun k _ h=> .inl h))) (fun k h=>by rcases h with(h|h)|h;exact .inl h;exact .inr (.inl h);exact .inr (.inr h)) ?_⟩;unfold ER EP;rw[if_neg HNB.o,if_neg HNB.o];exact s6);have F':=γ F;clear F s6 k6;go_wp2_with fail
     go_end0
     rw[Ir.o.1,Ir.o.2.1,Ir.o.2.2];exact F'.o
 ·have F:=γ (F0.o (.inl hp))
  obtain⟨E,hE⟩:=acu (eP T r.key ((acc,l):Int×List Int).2.length);have hE0:(E !=0)=true:=(by rw[<-hE];have:eP T r.key ((acc,l):Int×List Int).2.length=eP T r.key l.length:=rfl;rw[this];simp[hp]);rw[hE];clear F0 hp hE;go_wp2_with fail
  go_end0
  rw[Ir.o.1,Ir.o.2.1,Ir.o.2.2];exact F.o
end
