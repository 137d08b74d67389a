/- What a node makes of records: the plain law; the row that grows (goes); each. -/
import Derived.Test.YtglbkodmmogomaaGreatDoorI10
import Derived.Test.YtglbkodmmogomaaGreatDoorI07
set_option linter.unusedVariables false
set_option linter.unusedSimpArgs false
set_option maxHeartbeats 1000000
set_option maxRecDepth 100000
namespace Go.Proofs.YtglbkodmmogomaaGreatDoor
section
open Go Go.RowKit
attribute [local irreducible] cZ
def jk (w:World)(Bo base:Nat)(A:Nat->Prop)(out:List Rec):Prop:=
 ∃v,w.heap[Bo]?=some (.cells #[v] 60 (0,0))/\w.ownsRow base 68 3 v out.length (recs out)/\ ∀k,v.ownBlock=some k->A k
theorem jk.kept {w w':World}{Bo base:Nat}{A S:Nat->Prop}{out:List Rec}(h:jk w Bo base A out)(hk:ε S w w')(h1: ¬S Bo)(h2: ∀k,A k-> ¬S k):jk w' Bo base A out:=by obtain⟨v,a,b,c⟩:=h;exact⟨v,hk.heap a h1,hk.owns b (fun k hv=>h2 k (c k hv)),c⟩
theorem jk.pure {w w':World}{Bo base:Nat}{A:Nat->Prop}{out:List Rec}(h:jk w Bo base A out)(hk:ε η w w'):jk w' Bo base A out:=h.kept hk id (fun _ _ h=>h)
def acC (w:World)(Bo base:Nat)(A:Nat->Prop)(out:List Rec)(e:Ending)(w':World):Prop:=
 e= .returned (.tuple #[])/\jk w' Bo base A out/\ε (fun k=>k=Bo\/A k) w w'
theorem tZ {P:Program}{w w':World}(base:Nat)(t ty e:TypeId)(i:TypeInfo)(z:Value)(size bytes:Nat)(ht:P.underlying t=some (.slice e))(hi:P.info? e=some i)(hz:i.zero=some z)(hsize:i.size=size)(hby:i.bytes=bytes)
 (v:Value) (n:Nat) (xs:List Value) (hown:w.ownsRow base e size v n xs) (a:Addr) (m c:Nat) (news:List Value) (hl:news.length=m*size) (hnews: ∀j u,news[j]?=some u->w.cell? (a.add j)=some u)
 (h1: ∀u∈news,u.oneCell'=true) (hm:0<m) (h63:n+m<=maxLen) (hbytes:(n+m)*bytes<=140737488355328) {v':Value}
 (hr:(Builtin.append_ #[t,t] ty #[v,.slice (some a) m c]).run P w= .ok v' w'): ∀k,v'.ownBlock=some k->v.ownBlock=some k\/k=w.heap.size:=by
 subst hsize hby
 have hsmall:n+m<=9223372036854775807:=(by simp only[maxLen]at h63;omega);intro k hk
 rcases hown.2 with⟨rfl,rfl⟩|⟨g,cap,cur,rfl,hbg,hg,hnc,hcm,hcs,htake⟩
 ·have h2:=run_append_nil (P:=P) w t ty e i z ht hi hz a m c news hl hnews hm (by omega) (by simp only[Nat.zero_add]at hbytes;omega)
  rw[h2]at hr
  injection hr with hr _
  subst hr;right;simpa[Value.ownBlock]using hk.symm
 ·by_cases hroom:n+m<=cap
  ·have h2:=run_append_room (P:=P) w t ty e i ht hi g n cap cur hg a m c news hl hnews h1 hroom (by rw[hl,hcs,<-Nat.add_mul];exact Nat.mul_le_mul_right _ hroom)
   rw[h2]at hr
   injection hr with hr _
   subst hr;left;simpa[Value.ownBlock]using hk
  ·have h2:=run_append_grow (P:=P) w t ty e i z ht hi hz ⟨g,0,none⟩ n cap xs hown.1 (hown.cells (g:=g) rfl) a m c news hl hnews (by omega) (by omega) (growslice_fits (by omega) hbytes)
   rw[h2]at hr
   injection hr with hr _
   subst hr;right;simpa[Value.ownBlock]using hk.symm
theorem wpList_append_run {P:Program}{w w':World}{ops:Array Oper}{rest:List Oper}{o:Oper}{a:Act}{Q:Exit->Act->World->Prop}(hgd:o.guard=none)(s x:Operand)(t:TypeId)
 (ho:o.op= .call {callee:= .builtin .append,args:= #[s,x],argTypes:= #[t,t]}) (v u v':Value) (hs:a.eval s=v) (hx:a.eval x=u) (hr:(Builtin.append_ #[t,t] o.type #[v,u]).run P w= .ok v' w')
 (h:wpList P ops Q rest (a.put o.dst v') w'):wpList P ops Q (o::rest) a w:=
 wpList_plain hgd fun K hK=>by unfold Oper.wp execOp;simp only[ho,resolve,invoke,builtin,Sem.run_bind,Sem.run_pure,Result.andThen_ok,List.map_toArray,Θ,Ξ,hs,hx,hr];exact hK _ _ h
theorem xI (r:Rec)(out:List Rec)(Bo base:Nat)(A:Nat->Prop)(w:World)(h:jk w Bo base A out)(hb:base<=w.heap.size)(hA: ∀k,w.heap.size<=k->A k)(hlen:out.length<=1073741824):
 Calls Tryz.prog 104 #[.agg #[.int .i64 r.pos,.int .i64 r.key,.int .i64 r.val],.pointer (some ⟨Bo,0,none⟩)] w (acC w Bo base A (out++[r])):=by
 obtain⟨v,hh,hown,hv⟩:=h;have hlt:=(κ.1 hh).1;obtain⟨W0,hW0⟩:=acf ((w.alloc (.cells #[.int .i64 r.pos,.int .i64 r.key,.int .i64 r.val] 68)).alloc (.cells #[.int .i64 r.pos,.int .i64 r.key,.int .i64 r.val] 68));have hk0:ε η w W0:=(by rw[<-hW0];exact(δ.alloc _).alloc _);have hsz0:w.heap.size<=W0.heap.size:=hk0.size;have hown0:=hk0.owns hown (fun _ _ h=>h);have hh0:=hk0.heap hh id;have c0:w.cell? ⟨Bo,0,none⟩=some v:=ζ hh rfl;obtain⟨a,cap,rfl⟩:=au hown;obtain⟨i,z,hi,hz,hs,hby,hzs⟩:=Tryz.info68;have hrd:Reads W0 3 (.slice (some ⟨w.heap.size+1,0,none⟩) 1 1) (recs [r]):=by have:=Reads.lit (w.alloc (.cells #[.int .i64 r.pos,.int .i64 r.key,.int .i64 r.val] 68)) (recs [r]) 68 3 1 rfl (by unfold maxLen;omega);rw[World.size_alloc]at this;rw[<-hW0];exact this
 obtain⟨v',n',w',g1,g2,g3,g4,g5⟩:=aW (P:=Tryz.prog) base 60 60 68 i z 3 24 Tryz.underlying60 hi hz hs hby hzs (by omega) hown0 hrd (qZ [r]) (by rw[aQ];simp;omega) (by rw[aQ];unfold maxLen;simp;omega) (ω hb hk0.size);have YQ: ∀k,v'.ownBlock=some k->A k:=by
  intro k hk;obtain⟨_,_,_,e,_,_,_,hcl⟩:=hrd;cases e
  rcases hcl with hcl|⟨b',off',e',hcl⟩
  ·cases hcl
  ·cases e'
   rcases tZ (P:=Tryz.prog) base 60 60 68 i z 3 24 Tryz.underlying60 hi hz hs hby _ _ _ hown0 ⟨w.heap.size+1,0,none⟩ 1 1 (recs [r]) rfl (fun j u hj=>by rw[Addr.add_lit];exact hcl j u hj) (qZ [r]) (by omega) (by unfold maxLen;omega) (by omega) g1 k hk with h|h
   ·exact hv k h
   ·exact hA k (by omega)
 have hn':n'=(out++[r]).length:=(by rw[aQ]at g3;simp at g3⊢;omega);subst hn';have hBo: ∀k,Value.ownBlock (.slice a out.length cap)=some k->k≠Bo:=by
  intro k hk e
  rcases hown.2 with⟨e',_⟩|⟨g,cap',cur,e',_,hg,_⟩
  ·rw[e']at hk;cases hk
  ·rw[e']at hk
   simp[Value.ownBlock]at hk;rw[<-e,<-hk,hg]at hh;cases hh
 have kw:ε (fun k=>k=Bo\/A k) w w':=hk0.pure.trans (ε.grown g4 (fun k hk _=> .inr (hv k hk)));have hh':w'.heap[Bo]?=some (.cells #[.slice a out.length cap] 60 (0,0)):=(by rw[g4.block Bo (by omega) (fun e=>hBo Bo e.symm rfl)];exact hh0);have c1:w'.cell? ⟨Bo,0,none⟩=some (.slice a out.length cap):=ζ hh' rfl;have f1:=free_at hh' 0;have F:acC w Bo base A (out++[r]) (.returned (.tuple #[])) (w'.setCell ⟨Bo,0,none⟩ v'):=by
  refine⟨rfl,⟨v',?_,?_,YQ⟩,kw.setCell (p:=⟨Bo,0,none⟩) (.inl (.inl rfl)) _⟩
  ·have:=bD hh' 0 v'
   simpa using this
  ·refine((ε.refl (one Bo) w').setCell (p:=⟨Bo,0,none⟩) (.inl rfl) v').owns (by rw[qL];exact g2) (fun k hk e=>?_)
   unfold one at e;subst e
   rcases g2.2 with⟨e',_⟩|⟨g,cap',cur,e',_,hg,_⟩
   ·rw[e']at hk;cases hk
   ·rw[e']at hk
    simp[Value.ownBlock]at hk;rw[hk,hh']at hg;cases hg
 have F':=γ F;rw[<-hW0]at g1;obtain⟨va,vc,rfl⟩:=au g2;have HG:=γ g1;clear F g1 hW0 hk0 hown hown0 hh hh0 hrd g2 g3 g4 g5 YQ hBo kw hh' hv hA;go_enter Tryz.func104,Tryz.ntmps104;go_wp2_with (at_builtin;refine wpList_append_run rfl (.tmp 3) (.tmp 5) 60 rfl _ _ _ rfl rfl HG.o ?_)
 go_end0
 have F:=F'.o;rw[ν]at F;exact F
def dO (w:World)(a:Array Value)(nd:dD):Prop:=
 ∃uid inv p cap,a= #[.string uid,.int .u8 nd.kind,inv,.int .u8 nd.x.op,.int .i64 nd.x.n,.slice p nd.x.args.length cap,.int .i64 nd.n]/\aC w #[.int .u8 nd.x.op,.int .i64 nd.x.n,.slice p nd.x.args.length cap] nd.x/\
  0<=nd.kind/\nd.kind<=255/\aH nd.n
theorem dO.kept {w w':World}{S:Nat->Prop}(hk:ε S w w')(hS: ∀k,S k-> ∀c E f,w.heap[k]?≠some (.cells c E f)){a:Array Value}{nd:dD}(h:dO w a nd):dO w' a nd:=by obtain⟨uid,inv,p,cap,h1,h2,h3⟩:=h;exact⟨uid,inv,p,cap,h1,h2.kept hk hS,h3⟩
theorem dO.pure {w w':World}(hk:ε η w w'){a:Array Value}{nd:dD}(h:dO w a nd):dO w' a nd:=h.kept hk (fun _ h=>h.elim)
abbrev sS (r:Rec):Value:= .agg #[.int .i64 r.pos,.int .i64 r.key,.int .i64 r.val]
def acE (St:Nat->World->Prop)(n:Nat)(e:Ending)(w':World):Prop:=e= .returned (.tuple #[])/\St n w'
theorem uO (c:Nat)(caps:Array Value)(L:List Rec)(v:Value)(Bi:Nat)(St:Nat->World->Prop)(w:World)(hent: ∀(args:Array Value)(w:World),(callFunc c args).run Tryz.prog w= .ok (.enter c args) w)
 (hin: ∀k w,St k w->w.cell? ⟨Bi,0,none⟩=some v/\Reads w 3 v (recs L)) (hall: ∀k w o,St k w->St k (w.alloc o)) (h0:St 0 w)
 (hstep: ∀k r w,L[k]?=some r->St k w->Calls Tryz.prog c (#[sS r,eU (aI r)]++caps) w (acE St (k+1))):
 Calls Tryz.prog 103 #[.func (.func c) #[] caps,.pointer (some ⟨Bi,0,none⟩)] w (acE St L.length):=by
 obtain⟨hc,hr⟩:=hin 0 w h0;obtain⟨a,cap,rfl,h1,h2,h3⟩:=hr.recAt;unfold maxLen at h2;have H0:=γ h0;have HI:=γ hin;have HA:=γ hall;have HS:=γ hstep;clear hr h3 h0 hin hall hstep;go_enter Tryz.func103,Tryz.ntmps103;go_wp2;clear hc;go_loopg [7] L.length (fun g vi wr=> ∃k:Nat,k<=L.length/\vi= .int .i64 (k:Int)/\L.length-k<=g/\St k wr)
 case atStart=>exact⟨0,by omega,rfl,by omega,H0.o⟩
 case round=>
  obtain⟨k,hkl,rfl,hg,hst⟩:=hrel;have G:=γ (θ hg hst);clear hg hst;by_cases hlt:k<L.length
  ·obtain⟨r,hr⟩: ∃r,L[k]?=some r:=⟨_,ι hlt⟩
   obtain⟨_,hrd⟩:=HI.o k wr G.o.2;obtain⟨a',cap',e,_,_,hrc⟩:=hrd.recAt;cases e;obtain⟨b,off,rfl,hc⟩:=hrc.resolve_left (fun h=>by rw[h]at hr;cases hr);obtain⟨q0,q1,q2⟩:=hc k r hr;have HR:=γ hr;clear hrc hc hr hrd;go_wp2_with fail;have cc:=HS.o k r _ HR.o (HA.o k wr (.cells #[.int .i64 r.pos,.int .i64 r.key,.int .i64 r.val] 68) G.o.2);refine cc.mono ?_;clear cc;rintro e w2 ⟨rfl,hs2⟩;go_wp2_with fail;go_roundg (L.length-(k+1))
   case rel=>exact⟨k+1,by omega,by go_num,ξ _,hs2⟩
   case measure=>have:=G.o.1;omega
  ·have hkl:k=L.length:=by omega
   subst hkl;go_wp2_with fail
   go_end0
   exact⟨rfl,G.o.2⟩
theorem jk.mono {w:World}{Bo base:Nat}{A A':Nat->Prop}{out:List Rec}(h:jk w Bo base A out)(hA: ∀k,A k->k<w.heap.size->A' k):jk w Bo base A' out:=by obtain⟨v,a,b,c⟩:=h;exact⟨v,a,b,fun k hk=>hA k (c k hk) (aU b hk).2⟩
structure iD (S:Nat->Prop)(w0 w:World)(Bn Bi Bo Bg base:Nat)(na:Array Value)(nd:dD)(v:Value)(L out:List Rec):Prop where
 free: ∀k,S k->k<w0.heap.size/\ ∀c E f,w0.heap[k]?≠some (.cells c E f)
 kept:ε S w0 w
 abI:dO w0 na nd
 in0:Reads w0 3 v (recs L)
 afB: ∀r∈L,bQ r
 node:w.heap[Bn]?=some (.cells na 42 (0,0))
 ins:w.heap[Bi]?=some (.cells #[v] 60 (0,0))
 goes:w.heap[Bg]?=some (.cells #[.func (.func 104) #[] #[.pointer (some ⟨Bo,0,none⟩)]] 184 (0,0))
 out:jk w Bo base (fun k=>base<=k) out
 lo:w0.heap.size<=Bn/\w0.heap.size<=Bi/\w0.heap.size<=Bg/\w0.heap.size<=Bo
 hi:Bn<base/\Bi<base/\Bg<base/\Bo<base/\base<=w.heap.size
 ne:Bn≠Bo/\Bi≠Bo/\Bg≠Bo
section
variable {S:Nat->Prop} {w0 w w':World} {Bn Bi Bo Bg base:Nat} {na:Array Value} {nd:dD} {v:Value} {L out out':List Rec}
theorem iD.zS (h:iD S w0 w Bn Bi Bo Bg base na nd v L out):dO w na nd:=h.abI.kept h.kept (fun k hk=>(h.free k hk).2)
theorem iD.reads (h:iD S w0 w Bn Bi Bo Bg base na nd v L out):Reads w 3 v (recs L):=
 h.in0.kept h.kept (fun b hb hs=>by obtain⟨c,E,f,hc⟩:=h.in0.isCells (by omega) hb;exact(h.free b hs).2 c E f hc)
theorem iD.next (h:iD S w0 w Bn Bi Bo Bg base na nd v L out){S':Nat->Prop}(hk:ε S' w w')(hS: ∀k,S' k->k=Bo\/base<=k\/S k)(ho:jk w' Bo base (fun k=>base<=k) out'):iD S w0 w' Bn Bi Bo Bg base na nd v L out':=by
 obtain⟨l1,l2,l3,l4⟩:=h.lo;obtain⟨i1,i2,i3,i4,i5⟩:=h.hi;obtain⟨n1,n2,n3⟩:=h.ne;have no: ∀b,w0.heap.size<=b->b<base->b≠Bo-> ¬S' b:=fun b h1 h2 h3 hs=>by
  rcases hS b hs with e|e|e
  ·exact h3 e
  ·omega
  ·have:=(h.free b e).1;omega
 exact⟨h.free,h.kept.new hk (fun i hi hs=>by rcases hS i hs with e|e|e;omega;omega;exact e),h.abI,h.in0,h.afB,hk.heap h.node (no _ l1 i1 n1),hk.heap h.ins (no _ l2 i2 n2),hk.heap h.goes (no _ l3 i3 n3),ho,h.lo,
  ⟨i1,i2,i3,i4,ω i5 hk.size⟩,h.ne⟩
theorem iD.alloc (h:iD S w0 w Bn Bi Bo Bg base na nd v L out)(o:Obj):iD S w0 (w.alloc o) Bn Bi Bo Bg base na nd v L out:=
 h.next ((ε.refl η w).alloc o) (fun _ h=>h.elim) (h.out.pure ((ε.refl η w).alloc o))
end
def yI (S:Nat->Prop)(w0:World)(Bn Bi Bo Bg base:Nat)(na:Array Value)(nd:dD)(v:Value)(L out:List Rec)(e:Ending)(w':World):Prop:=
 e= .returned (.tuple #[])/\iD S w0 w' Bn Bi Bo Bg base na nd v L out
theorem abl {S:Nat->Prop}{w0 w:World}{Bn Bi Bo Bg base:Nat}{na:Array Value}{nd:dD}{v:Value}{L out:List Rec}(h:iD S w0 w Bn Bi Bo Bg base na nd v L out)(r:Rec)(hr:bQ r)(hlen:out.length<=1073741824):
 Calls Tryz.prog 105 #[sS r,eU (aI r),.pointer (some ⟨Bn,0,none⟩),.pointer (some ⟨Bg,0,none⟩)] w (yI S w0 Bn Bi Bo Bg base na nd v L (out++[{r with val:=dA nd.x (aI r)}])):=by
 obtain⟨uid,inv,p,cap,hna,hx,hk0,hk1,hn⟩:=h.zS;have dF:=h.node;rw[hna]at dF;clear hna;have x0:w.cell? ⟨Bn,3,none⟩=some (.int .u8 nd.x.op):=ζ dF rfl;have x1:w.cell? ⟨Bn,4,none⟩=some (.int .i64 nd.x.n):=ζ dF rfl;have x2:w.cell? ⟨Bn,5,none⟩=some (.slice p nd.x.args.length cap):=ζ dF rfl;have g0:w.cell? ⟨Bg,0,none⟩=some (.func (.func 104) #[] #[.pointer (some ⟨Bo,0,none⟩)]):=ζ h.goes rfl;obtain⟨l1,l2,l3,l4⟩:=h.lo;obtain⟨i1,i2,i3,i4,i5⟩:=h.hi;have hlb:Bn<w.heap.size:=(by omega);have Y1:Bg<w.heap.size:=(by omega);have H:=γ h;have HX:=γ hx;have HR:=γ hr;clear h hx hr dF;go_enter Tryz.func105,Tryz.ntmps105;go_wp2_with fail;obtain⟨W0,hW0⟩:=acf ((w.alloc (.cells #[.int .i64 r.pos,.int .i64 r.key,.int .i64 r.val] 68)).alloc (.cells #[.int .i64 (aI r).key,.int .i64 (aI r).val,.int .i64 (aI r).acc] 182));have k0:ε η w W0:=(by rw[<-hW0];exact(δ.alloc _).alloc _);have hB:W0.heap[w.heap.size]?=some (.cells #[.int .i64 r.pos,.int .i64 r.key,.int .i64 r.val] 68 (0,0)):=by rw[<-hW0];exact((ε.refl η (w.alloc (.cells #[.int .i64 r.pos,.int .i64 r.key,.int .i64 r.val] 68))).alloc _).heap (heap_alloc_new w (.cells #[.int .i64 r.pos,.int .i64 r.key,.int .i64 r.val] 68)) id
 rw[hW0];have c:=Dj nd.x _ (aI r) W0 (aC.pure k0 HX.o) (uN HR.o);refine c.mono ?_;clear c;rintro e W1 ⟨rfl,k1⟩;have k2:ε η w W1:=k0.trans k1;have hB1:=k1.heap hB id;have b0:W1.cell? ⟨w.heap.size,0,none⟩=some (.int .i64 r.pos):=ζ hB1 rfl;have b1:W1.cell? ⟨w.heap.size,1,none⟩=some (.int .i64 r.key):=ζ hB1 rfl;have b2:W1.cell? ⟨w.heap.size,2,none⟩=some (.int .i64 r.val):=ζ hB1 rfl;have f2:=free_at hB1 2;have g1:=k2.cell (p:=⟨Bg,0,none⟩) id g0;have hbg:Bg≠w.heap.size:=(by omega);obtain⟨X,hX⟩: ∃X,dA nd.x (aI r)=X:=⟨_,rfl⟩;have ks:ε (one w.heap.size) W1 (W1.setCell ⟨w.heap.size,2,none⟩ (.int .i64 X)):=(ε.refl (one w.heap.size) W1).setCell (p:=⟨w.heap.size,2,none⟩) (.inl rfl) _;have hout:jk (W1.setCell ⟨w.heap.size,2,none⟩ (.int .i64 X)) Bo base (fun k=>base<=k) out:=
  ((((H.o.out.mono (A':=fun k=>base<=k/\k<w.heap.size) (fun k h1 h2=>⟨h1,h2⟩)).pure k2).kept ks (fun e=>by unfold one at e;omega) (fun k h e=>by unfold one at e;omega)).mono (fun k h _=>h.1))
 have G:=γ (θ k2 (θ ks hout));have hsz:base<=(W1.setCell ⟨w.heap.size,2,none⟩ (.int .i64 X)).heap.size:=ω i5 (ω k2.size ks.size);have kH:=γ hsz;clear k0 k1 k2 hB hB1 hW0 x0 x1 x2 g0 ks hout hsz;rw[hX];have HX':=γ hX;clear hX;go_wp2_with fail;have c:=xI {r with val:=X} out Bo base (fun k=>base<=k) _ G.o.2.2 kH.o (fun k hk=>ω kH.o hk) hlen;refine c.mono ?_;clear c;rintro e W2 ⟨rfl,o2,k3⟩;have F:yI S w0 Bn Bi Bo Bg base na nd v L (out++[{r with val:=dA nd.x (aI r)}]) (.returned (.tuple #[])) W2:=(by rw[HX'.o];refine⟨rfl,H.o.next (S':=fun k=>k=Bo\/base<=k) (G.o.1.pure.trans ((G.o.2.1.mono (fun k _ e=>by unfold one at e;right;omega)).trans k3)) (fun k h=>by rcases h with h|h;exact .inl h;exact .inr (.inl h)) o2⟩);have F':=γ F;clear F o2 k3;go_wp2_with fail
 go_end0
 exact F'.o
theorem abm {S:Nat->Prop}{w0 w:World}{Bn Bi Bo Bg base:Nat}{na:Array Value}{nd:dD}{v:Value}{L out:List Rec}(h:iD S w0 w Bn Bi Bo Bg base na nd v L out)(r:Rec)(hr:bQ r)(hlen:out.length<=1073741824):
 Calls Tryz.prog 107 #[sS r,eU (aI r),.pointer (some ⟨Bn,0,none⟩),.pointer (some ⟨Bg,0,none⟩)] w (yI S w0 Bn Bi Bo Bg base na nd v L (out++[{r with key:=dA nd.x (aI r)}])):=by
 obtain⟨uid,inv,p,cap,hna,hx,hk0,hk1,hn⟩:=h.zS;have dF:=h.node;rw[hna]at dF;clear hna;have x0:w.cell? ⟨Bn,3,none⟩=some (.int .u8 nd.x.op):=ζ dF rfl;have x1:w.cell? ⟨Bn,4,none⟩=some (.int .i64 nd.x.n):=ζ dF rfl;have x2:w.cell? ⟨Bn,5,none⟩=some (.slice p nd.x.args.length cap):=ζ dF rfl;have g0:w.cell? ⟨Bg,0,none⟩=some (.func (.func 104) #[] #[.pointer (some ⟨Bo,0,none⟩)]):=ζ h.goes rfl;obtain⟨l1,l2,l3,l4⟩:=h.lo;obtain⟨i1,i2,i3,i4,i5⟩:=h.hi;have hlb:Bn<w.heap.size:=(by omega);have Y1:Bg<w.heap.size:=(by omega);have H:=γ h;have HX:=γ hx;have HR:=γ hr;clear h hx hr dF;go_enter Tryz.func107,Tryz.ntmps107;go_wp2_with fail;obtain⟨W0,hW0⟩:=acf ((w.alloc (.cells #[.int .i64 r.pos,.int .i64 r.key,.int .i64 r.val] 68)).alloc (.cells #[.int .i64 (aI r).key,.int .i64 (aI r).val,.int .i64 (aI r).acc] 182));have k0:ε η w W0:=(by rw[<-hW0];exact(δ.alloc _).alloc _);have hB:W0.heap[w.heap.size]?=some (.cells #[.int .i64 r.pos,.int .i64 r.key,.int .i64 r.val] 68 (0,0)):=by rw[<-hW0];exact((ε.refl η (w.alloc (.cells #[.int .i64 r.pos,.int .i64 r.key,.int .i64 r.val] 68))).alloc _).heap (heap_alloc_new w (.cells #[.int .i64 r.pos,.int .i64 r.key,.int .i64 r.val] 68)) id
 rw[hW0];have c:=Dj nd.x _ (aI r) W0 (aC.pure k0 HX.o) (uN HR.o);refine c.mono ?_;clear c;rintro e W1 ⟨rfl,k1⟩;have k2:ε η w W1:=k0.trans k1;have hB1:=k1.heap hB id;have b0:W1.cell? ⟨w.heap.size,0,none⟩=some (.int .i64 r.pos):=ζ hB1 rfl;have b1:W1.cell? ⟨w.heap.size,1,none⟩=some (.int .i64 r.key):=ζ hB1 rfl;have b2:W1.cell? ⟨w.heap.size,2,none⟩=some (.int .i64 r.val):=ζ hB1 rfl;have f2:=free_at hB1 1;have g1:=k2.cell (p:=⟨Bg,0,none⟩) id g0;have hbg:Bg≠w.heap.size:=(by omega);obtain⟨X,hX⟩: ∃X,dA nd.x (aI r)=X:=⟨_,rfl⟩;have ks:ε (one w.heap.size) W1 (W1.setCell ⟨w.heap.size,1,none⟩ (.int .i64 X)):=(ε.refl (one w.heap.size) W1).setCell (p:=⟨w.heap.size,1,none⟩) (.inl rfl) _;have hout:jk (W1.setCell ⟨w.heap.size,1,none⟩ (.int .i64 X)) Bo base (fun k=>base<=k) out:=
  ((((H.o.out.mono (A':=fun k=>base<=k/\k<w.heap.size) (fun k h1 h2=>⟨h1,h2⟩)).pure k2).kept ks (fun e=>by unfold one at e;omega) (fun k h e=>by unfold one at e;omega)).mono (fun k h _=>h.1))
 have G:=γ (θ k2 (θ ks hout));have hsz:base<=(W1.setCell ⟨w.heap.size,1,none⟩ (.int .i64 X)).heap.size:=ω i5 (ω k2.size ks.size);have kH:=γ hsz;clear k0 k1 k2 hB hB1 hW0 x0 x1 x2 g0 ks hout hsz;rw[hX];have HX':=γ hX;clear hX;go_wp2_with fail;have c:=xI {r with key:=X} out Bo base (fun k=>base<=k) _ G.o.2.2 kH.o (fun k hk=>ω kH.o hk) hlen;refine c.mono ?_;clear c;rintro e W2 ⟨rfl,o2,k3⟩;have F:yI S w0 Bn Bi Bo Bg base na nd v L (out++[{r with key:=dA nd.x (aI r)}]) (.returned (.tuple #[])) W2:=(by rw[HX'.o];refine⟨rfl,H.o.next (S':=fun k=>k=Bo\/base<=k) (G.o.1.pure.trans ((G.o.2.1.mono (fun k _ e=>by unfold one at e;right;omega)).trans k3)) (fun k h=>by rcases h with h|h;exact .inl h;exact .inr (.inl h)) o2⟩);have F':=γ F;clear F o2 k3;go_wp2_with fail
 go_end0
 exact F'.o
end
section
open Go Go.RowKit
attribute [local irreducible] cZ
def VJ (b:Bool)(r:Rec):List Rec:=if b then[r]else[]
theorem VL (r:Rec)(k:Nat):iR r (k+1)=iR r k++[⟨wrap64 (wrap64 (8*r.pos)+(k:Int)),r.key,wrap64 (r.val+(k:Int))⟩]:=by unfold iR;rw[List.range_succ,abM];rfl
theorem pY (r:Rec)(k:Nat):(iR r k).length=k:=by simp[iR]
theorem SQ {S:Nat->Prop}{w0 w:World}{Bn Bi Bo Bg base:Nat}{na:Array Value}{nd:dD}{v:Value}{L out:List Rec}(h:iD S w0 w Bn Bi Bo Bg base na nd v L out)(r:Rec)(hr:bQ r)(hlen:out.length<=1000000000):
 Calls Tryz.prog 108 #[sS r,eU (aI r),.pointer (some ⟨Bn,0,none⟩),.pointer (some ⟨Bg,0,none⟩)] w (yI S w0 Bn Bi Bo Bg base na nd v L (out++VJ (nM nd.x (aI r)) r)):=by
 obtain⟨uid,inv,p,cap,hna,hx,hk0,hk1,hn⟩:=h.zS;have dF:=h.node;rw[hna]at dF;clear hna;have x0:w.cell? ⟨Bn,3,none⟩=some (.int .u8 nd.x.op):=ζ dF rfl;have x1:w.cell? ⟨Bn,4,none⟩=some (.int .i64 nd.x.n):=ζ dF rfl;have x2:w.cell? ⟨Bn,5,none⟩=some (.slice p nd.x.args.length cap):=ζ dF rfl;have g0:w.cell? ⟨Bg,0,none⟩=some (.func (.func 104) #[] #[.pointer (some ⟨Bo,0,none⟩)]):=ζ h.goes rfl;obtain⟨l1,l2,l3,l4⟩:=h.lo;obtain⟨i1,i2,i3,i4,i5⟩:=h.hi;have hlb:Bn<w.heap.size:=(by omega);have Y1:Bg<w.heap.size:=(by omega);have H:=γ h;have HX:=γ hx;have HR:=γ hr;clear h hx hr dF;go_enter Tryz.func108,Tryz.ntmps108;go_wp2_with fail;obtain⟨W0,hW0⟩:=acf ((w.alloc (.cells #[.int .i64 r.pos,.int .i64 r.key,.int .i64 r.val] 68)).alloc (.cells #[.int .i64 (aI r).key,.int .i64 (aI r).val,.int .i64 (aI r).acc] 182));have k0:ε η w W0:=(by rw[<-hW0];exact(δ.alloc _).alloc _);have hsz2:w.heap.size+1<W0.heap.size:=(by rw[<-hW0];simp);have hB:W0.heap[w.heap.size]?=some (.cells #[.int .i64 r.pos,.int .i64 r.key,.int .i64 r.val] 68 (0,0)):=(by rw[<-hW0];exact((ε.refl η (w.alloc (.cells #[.int .i64 r.pos,.int .i64 r.key,.int .i64 r.val] 68))).alloc _).heap (heap_alloc_new w (.cells #[.int .i64 r.pos,.int .i64 r.key,.int .i64 r.val] 68)) id);rw[hW0];have c:=abo nd.x _ (aI r) W0 (aC.pure k0 HX.o) (uN HR.o);refine c.mono ?_;clear c;rintro e W1 ⟨rfl,k1⟩;have k2:ε η w W1:=k0.trans k1;have hB1:=k1.heap hB id;have b0:W1.cell? ⟨w.heap.size,0,none⟩=some (.int .i64 r.pos):=ζ hB1 rfl;have b1:W1.cell? ⟨w.heap.size,1,none⟩=some (.int .i64 r.key):=ζ hB1 rfl;have b2:W1.cell? ⟨w.heap.size,2,none⟩=some (.int .i64 r.val):=ζ hB1 rfl;have g1:=k2.cell (p:=⟨Bg,0,none⟩) id g0;have hbg:Bg≠w.heap.size:=(by omega);have hout:=H.o.out.pure k2;have hsz:base<=W1.heap.size:=ω i5 k2.size;have G:=γ (θ k2 hout);clear k0 k1 k2 hB hB1 hW0 x0 x1 x2 g0 hout hsz2
 cases hb:nM nd.x (aI r)with
 |false=>
  have F:yI S w0 Bn Bi Bo Bg base na nd v L (out++VJ false r) (.returned (.tuple #[])) W1:=(by refine⟨rfl,H.o.next (S':=η) G.o.1 (fun k h=>h.elim) ?_⟩;show jk W1 Bo base (fun k=>base<=k) (out++[]);rw[List.append_nil];exact G.o.2);have F':=γ F;have Uo:=γ hb;clear F hb;go_wp2_with fail
  go_end0
  rw[Uo.o];exact F'.o
 |true=>
  have Uo:=γ hb;clear hb;go_wp2_with fail;have c:=xI r out Bo base (fun k=>base<=k) W1 G.o.2 hsz (fun k hk=>ω hsz hk) (by omega);refine c.mono ?_;clear c;rintro e W2 ⟨rfl,o2,k3⟩;have F:yI S w0 Bn Bi Bo Bg base na nd v L (out++VJ true r) (.returned (.tuple #[])) W2:=(by exact⟨rfl,H.o.next (S':=fun k=>k=Bo\/base<=k) (G.o.1.pure.trans k3) (fun k h=>by rcases h with h|h;exact .inl h;exact .inr (.inl h)) o2⟩);have F':=γ F;clear F o2 k3;go_wp2_with fail
  go_end0
  rw[Uo.o];exact F'.o
theorem Zu {S:Nat->Prop}{w0 w:World}{Bn Bi Bo Bg base:Nat}{na:Array Value}{nd:dD}{v:Value}{L out:List Rec}(h:iD S w0 w Bn Bi Bo Bg base na nd v L out)(r:Rec)(hr:bQ r)(hlen:out.length<=1000000000):
 Calls Tryz.prog 110 #[sS r,eU (aI r),.pointer (some ⟨Bn,0,none⟩),.pointer (some ⟨Bg,0,none⟩)] w (yI S w0 Bn Bi Bo Bg base na nd v L (out++iR r (jC (dA nd.x (aI r))))):=by
 obtain⟨uid,inv,p,cap,hna,hx,hk0,hk1,hn⟩:=h.zS;have dF:=h.node;rw[hna]at dF;clear hna;have x0:w.cell? ⟨Bn,3,none⟩=some (.int .u8 nd.x.op):=ζ dF rfl;have x1:w.cell? ⟨Bn,4,none⟩=some (.int .i64 nd.x.n):=ζ dF rfl;have x2:w.cell? ⟨Bn,5,none⟩=some (.slice p nd.x.args.length cap):=ζ dF rfl;have g0:w.cell? ⟨Bg,0,none⟩=some (.func (.func 104) #[] #[.pointer (some ⟨Bo,0,none⟩)]):=ζ h.goes rfl;obtain⟨l1,l2,l3,l4⟩:=h.lo;obtain⟨i1,i2,i3,i4,i5⟩:=h.hi;have hlb:Bn<w.heap.size:=(by omega);have Y1:Bg<w.heap.size:=(by omega);have H:=γ h;have HX:=γ hx;have HR:=γ hr;clear h hx hr dF;go_enter Tryz.func110,Tryz.ntmps110;go_wp2_with fail;obtain⟨W0,hW0⟩:=acf ((w.alloc (.cells #[.int .i64 r.pos,.int .i64 r.key,.int .i64 r.val] 68)).alloc (.cells #[.int .i64 (aI r).key,.int .i64 (aI r).val,.int .i64 (aI r).acc] 182));have k0:ε η w W0:=(by rw[<-hW0];exact(δ.alloc _).alloc _);have hsz2:w.heap.size+1<W0.heap.size:=(by rw[<-hW0];simp);have hB:W0.heap[w.heap.size]?=some (.cells #[.int .i64 r.pos,.int .i64 r.key,.int .i64 r.val] 68 (0,0)):=by rw[<-hW0];exact((ε.refl η (w.alloc (.cells #[.int .i64 r.pos,.int .i64 r.key,.int .i64 r.val] 68))).alloc _).heap (heap_alloc_new w (.cells #[.int .i64 r.pos,.int .i64 r.key,.int .i64 r.val] 68)) id
 rw[hW0];have c:=Dj nd.x _ (aI r) W0 (aC.pure k0 HX.o) (uN HR.o);refine c.mono ?_;clear c;rintro e W1 ⟨rfl,k1⟩;have k2:ε η w W1:=k0.trans k1;have hB1:=k1.heap hB id;have b0:W1.cell? ⟨w.heap.size,0,none⟩=some (.int .i64 r.pos):=ζ hB1 rfl;have b1:W1.cell? ⟨w.heap.size,1,none⟩=some (.int .i64 r.key):=ζ hB1 rfl;have b2:W1.cell? ⟨w.heap.size,2,none⟩=some (.int .i64 r.val):=ζ hB1 rfl;have g1:=k2.cell (p:=⟨Bg,0,none⟩) id g0;have hbg:Bg≠w.heap.size:=(by omega);have hout:jk W1 Bo base (fun k=>base<=k/\k≠w.heap.size) out:=
  ((H.o.out.mono (A':=fun k=>base<=k/\k<w.heap.size) (fun k h1 h2=>⟨h1,h2⟩)).pure k2).mono (fun k h _=>⟨h.1,by omega⟩)
 have hsz:base<=W1.heap.size/\w.heap.size<W1.heap.size:=⟨ω i5 k2.size,by have:=k1.size;omega⟩;have aeG:=vW HX.o (uN HR.o);obtain⟨X,hX⟩: ∃X,dA nd.x (aI r)=X:=⟨_,rfl⟩;rw[hX]at aeG⊢;have HXX:=γ hX;obtain⟨hX1,hX2⟩:=aeG;have G:=γ (θ k2 (θ hout (θ hsz hB1)));clear k0 k1 k2 hB hB1 hW0 x0 x1 x2 g0 hout hsz b0 b1 b2 g1 hX;have hfN:jC X<=4:=(by unfold jC;omega);have hFN:=γ (show jC X=(min X 4).toNat from rfl);go_wp2_with fail;go_loopg [12] (jC X) (fun g vi wr=> ∃k:Nat,k<=jC X/\vi= .int .i64 (k:Int)/\jC X-k<=g/\jk wr Bo base (fun k=>base<=k/\k≠w.heap.size) (out++iR r k)/\ε (fun k=>k=Bo\/(base<=k/\k≠w.heap.size)) W1 wr)
 case atStart=>exact⟨0,by omega,rfl,by omega,by simpa[iR]using G.o.2.1,ε.refl _ _⟩
 case round=>
  obtain⟨k,hkl,rfl,hg,ho,hkp⟩:=hrel;have hB2:=hkp.heap G.o.2.2.2 (fun h=>by rcases h with h|h;omega;exact h.2 rfl);have b0:wr.cell? ⟨w.heap.size,0,none⟩=some (.int .i64 r.pos):=ζ hB2 rfl;have b1:wr.cell? ⟨w.heap.size,1,none⟩=some (.int .i64 r.key):=ζ hB2 rfl;have b2:wr.cell? ⟨w.heap.size,2,none⟩=some (.int .i64 r.val):=ζ hB2 rfl;have g1:wr.cell? ⟨Bg,0,none⟩=some (.func (.func 104) #[] #[.pointer (some ⟨Bo,0,none⟩)]):=ζ (hkp.heap (G.o.1.heap H.o.goes id) (fun h=>by have:=H.o.ne;rcases h with h|h;exact this.2.2 h;omega)) rfl;have ad9:=hkp.size;have A:=γ (θ hg (θ ho (θ hkp ad9)));clear hg ho hkp hB2 ad9;by_cases hlt:k<jC X
  ·have hlt2:(k:Int)<min X 4:=by have:=hFN.o;omega
   have hlt3:decide ((k:Int)<min X 4)=true:=decide_eq_true hlt2;have hk4:k<=4:=(by omega);go_wp2_with fail;have c:=xI ⟨wrap64 (wrap64 (8*r.pos)+(k:Int)),r.key,wrap64 (r.val+(k:Int))⟩ (out++iR r k) Bo base (fun k=>base<=k/\k≠w.heap.size) wr A.o.2.1 (ω G.o.2.2.1.1 A.o.2.2.2) (fun k hk=>⟨ω G.o.2.2.1.1 (ω A.o.2.2.2 hk),by have:=G.o.2.2.1.2;have:=A.o.2.2.2;omega⟩) (by rw[ν,pY];omega);refine c.mono ?_;clear c;rintro e W2 ⟨rfl,o2,k3⟩;rw[List.append_assoc,<-VL]at o2;go_wp2_with fail;go_roundg (jC X-(k+1))
   case rel=>exact⟨k+1,by omega,by go_num,ξ _,o2,A.o.2.2.1.trans k3⟩
   case measure=>have:=A.o.1;omega
  ·have hlt2: ¬(k:Int)<min X 4:=by have:=hFN.o;omega
   have hlt3:decide ((k:Int)<min X 4)=false:=decide_eq_false hlt2;have hkl:k=jC X:=(by omega);go_wp2_with fail
   go_end0
   rw[HXX.o,<-hkl];exact⟨rfl,H.o.next (S':=fun k=>k=Bo\/(base<=k/\k≠w.heap.size)) (G.o.1.pure.trans A.o.2.2.1) (fun k h=>by rcases h with h|h;exact .inl h;exact .inr (.inl h.1)) (A.o.2.1.mono (fun k h _=>h.1))⟩
end
section
open Go Go.RowKit Go.ChangeShapes Go.WideShapes Go.ChangeAt Go.Deep
theorem Yk {H:Type}{enc:TypeId×Value->H}{w:World}{fuel n cap:Nat}{a:Option Addr}{x:DataW H×List MemPlace}
 (h:DataW.trod enc Tryz.prog w 0 (fun _=>true) true fuel 60 [.slice a n cap]=some x): ∃L:List Rec,L.length=n/\Reads w 3 (.slice a n cap) (recs L)/\ ∀r∈L,bQ r:=by
 obtain⟨cs,hl,hr,hel⟩:=sZ (k:=3) Tryz.underlying60 (by kernel_rfl) (by omega) h;have each: ∀i,i<n-> ∃r:Rec,bQ r/\(cs.drop (i*3)).take 3=[.int .i64 r.pos,.int .i64 r.key,.int .i64 r.val]:=by
  intro i hi;obtain⟨m,y,hy⟩:=hel i hi
  obtain⟨v0,v1,v2,hd⟩: ∃v0 v1 v2,(cs.drop (i*3)).take 3=[v0,v1,v2]:=by
   have hlen:((cs.drop (i*3)).take 3).length=3:=by rw[υ,List.length_drop];omega
   match(cs.drop (i*3)).take 3,hlen with
   |[v0,v1,v2],_=>exact⟨v0,v1,v2,rfl⟩
  rw[hd]at hy⊢;obtain⟨xs,f1,_,_,_,hxl,hf⟩:=DataW.trod_struct Tryz.underlying68 hy;have g0:DataW.trod enc Tryz.prog w 0 (fun _=>true) true f1 2 ([v0,v1,v2].drop 0|>.take (Tryz.prog.cellsOf 2))=xs[0]?:=hf 0 _ rfl;have g1:DataW.trod enc Tryz.prog w 0 (fun _=>true) true f1 2 ([v0,v1,v2].drop 1|>.take (Tryz.prog.cellsOf 2))=xs[1]?:=hf 1 _ rfl;have g2:DataW.trod enc Tryz.prog w 0 (fun _=>true) true f1 2 ([v0,v1,v2].drop 2|>.take (Tryz.prog.cellsOf 2))=xs[2]?:=hf 2 _ rfl;rw[show Tryz.prog.cellsOf 2=1 by kernel_rfl]at g0 g1 g2;simp only[List.drop_succ_cons,List.drop_zero,List.take_succ_cons,List.take_zero]at g0 g1 g2
  match xs,hxl with
  |[x0,x1,x2],_=>
   obtain⟨z0,hz0,_,hw0⟩:=DataW.trod_int Tryz.underlying2 g0;obtain⟨z1,hz1,_,hw1⟩:=DataW.trod_int Tryz.underlying2 g1;obtain⟨z2,hz2,_,hw2⟩:=DataW.trod_int Tryz.underlying2 g2
   injection hz0 with hz0 _
   injection hz1 with hz1 _
   injection hz2 with hz2 _
   subst hz0 hz1 hz2;exact⟨⟨z0,z1,z2⟩,⟨.zQ hw0,.zQ hw1,.zQ hw2⟩,rfl⟩
 obtain⟨O,hO⟩:=choose_lt each;refine⟨(List.range n).map O,by simp,?_,fun r hr=>?_⟩
 ·have:cs=recs ((List.range n).map O):=by
   apply List.ext_getElem?;intro j;by_cases hj:j<n*3
   ·have hi:j/3<n:=by omega
    have h1:=(hO (j/3) hi).2;have h2:cs[j]?=((cs.drop (j/3*3)).take 3)[j%3]?:=by
     rw[abO,if_pos (Nat.mod_lt _ (by omega)),List.getElem?_drop]
     congr 1;omega
    rw[h2,h1];have h3:((List.range n).map O)[j/3]?=some (O (j/3)):=(by rw[abJ,List.getElem?_range hi];rfl);obtain⟨e0,e1,e2⟩:=EI h3;have hm:j%3=0\/j%3=1\/j%3=2:=by omega
    rcases hm with hm|hm|hm
    ·rw[hm,show(recs ((List.range n).map O))[j]?=(recs ((List.range n).map O))[j/3*3]? by congr 1;omega,e0];rfl
    ·rw[hm,show(recs ((List.range n).map O))[j]?=(recs ((List.range n).map O))[j/3*3+1]? by congr 1;omega,e1];rfl
    ·rw[hm,show(recs ((List.range n).map O))[j]?=(recs ((List.range n).map O))[j/3*3+2]? by congr 1;omega,e2];rfl
   ·rw[abA (by omega),abA (by rw[aQ];simp;omega)]
  rw[<-this];exact hr
 ·obtain⟨i,hi,rfl⟩:=abK.1 hr
  exact(hO i (List.mem_range.1 hi)).1
end
