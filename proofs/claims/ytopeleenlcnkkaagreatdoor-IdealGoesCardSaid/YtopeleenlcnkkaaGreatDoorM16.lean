/- What a node makes of records: the plain law; the row that grows (goes); each. -/
import Derived.Test.YtopeleenlcnkkaaGreatDoorM15
import Derived.Test.YtopeleenlcnkkaaGreatDoorM12
set_option linter.unusedVariables false
set_option linter.unusedSimpArgs false
set_option maxHeartbeats 1000000
set_option maxRecDepth 100000
namespace Go.Proofs.YtopeleenlcnkkaaGreatDoor
section
open Go Go.RowKit
attribute [local irreducible] bU
def gW (w:World)(Bo base:Nat)(A:Nat->Prop)(out:List Rec):Prop:=
 ∃v,w.heap[Bo]?=some (.cells #[v] 42 (0,0))/\w.ownsRow base 44 3 v out.length (recs out)/\ ∀k,v.ownBlock=some k->A k
theorem gW.kept {w w':World}{Bo base:Nat}{A S:Nat->Prop}{out:List Rec}(h:gW w Bo base A out)(hk:Kept S w w')(h1: ¬S Bo)(h2: ∀k,A k-> ¬S k):gW w' Bo base A out:=by
 obtain⟨v,a,b,c⟩:=h
 exact⟨v,hk.heap a h1,hk.owns b (fun k hv=>h2 k (c k hv)),c⟩
theorem gW.pure {w w':World}{Bo base:Nat}{A:Nat->Prop}{out:List Rec}(h:gW w Bo base A out)(hk:Kept none' w w'):gW w' Bo base A out:=h.kept hk (fun h=>h) (fun _ _ h=>h)
def Ze (w:World)(Bo base:Nat)(A:Nat->Prop)(out:List Rec)(e:Ending)(w':World):Prop:=
 e= .returned (.tuple #[])/\gW w' Bo base A out/\Kept (fun k=>k=Bo\/A k) w w'
theorem MK {P:Program}{w w':World}(base:Nat)(t ty e:TypeId)(i:TypeInfo)(z:Value)(size bytes:Nat)(ht:P.underlying t=some (.slice e))(hi:P.info? e=some i)(hz:i.zero=some z)(hsize:i.size=size)(hby:i.bytes=bytes)
 (v:Value) (n:Nat) (xs:List Value) (hown:w.ownsRow base e size v n xs) (a:Addr) (m c:Nat) (news:List Value) (hl:news.length=m*size) (hnews: ∀j u,news[j]?=some u->w.cell? (a.add j)=some u)
 (h1: ∀u∈news,u.oneCell'=true) (hm:0<m) (h63:n+m<=maxLen) (hbytes:(n+m)*bytes<=140737488355328) {v':Value}
 (hr:(Builtin.append_ #[t,t] ty #[v, .slice (some a) m c]).run P w= .ok v' w'): ∀k,v'.ownBlock=some k->v.ownBlock=some k\/k=w.heap.size:=by
 subst hsize hby
 have hsmall:n+m<=9223372036854775807:=by simp only[maxLen]at h63;omega
 intro k hk
 rcases hown.2 with⟨rfl,rfl⟩|⟨g,cap,cur,rfl,hbg,hg,hnc,hcm,hcs,htake⟩
 ·have h2:=run_append_nil (P:=P) w t ty e i z ht hi hz a m c news hl hnews hm (by omega) (by simp only[Nat.zero_add]at hbytes;omega)
  rw[h2]at hr
  injection hr with hr _
  subst hr
  right;simpa[Value.ownBlock]using hk.symm
 ·by_cases hroom:n+m<=cap
  ·have h2:=run_append_room (P:=P) w t ty e i ht hi g n cap cur hg a m c news hl hnews h1 hroom (by rw[hl,hcs,<-Nat.add_mul];exact Nat.mul_le_mul_right _ hroom)
   rw[h2]at hr
   injection hr with hr _
   subst hr
   left;simpa[Value.ownBlock]using hk
  ·have h2:=run_append_grow (P:=P) w t ty e i z ht hi hz ⟨g,0,none⟩ n cap xs hown.1 (hown.cells (g:=g) rfl) a m c news hl hnews (by omega) (by omega) (growslice_fits (by omega) hbytes)
   rw[h2]at hr
   injection hr with hr _
   subst hr
   right;simpa[Value.ownBlock]using hk.symm
theorem wpList_append_run {P:Program}{w w':World}{ops:Array Oper}{rest:List Oper}{o:Oper}{a:Act}{Q:Exit->Act->World->Prop}(hgd:o.guard=none)(s x:Operand)(t:TypeId)
 (ho:o.op= .call {callee:= .builtin .append,args:= #[s,x],argTypes:= #[t,t]}) (v u v':Value) (hs:a.eval s=v) (hx:a.eval x=u) (hr:(Builtin.append_ #[t,t] o.type #[v,u]).run P w= .ok v' w')
 (h:wpList P ops Q rest (a.put o.dst v') w'):wpList P ops Q (o::rest) a w:=
 wpList_plain hgd fun K hK=>by
  unfold Oper.wp execOp
  simp only[ho,resolve,invoke,builtin,Sem.run_bind,Sem.run_pure,Result.andThen_ok,List.map_toArray,List.map_cons,List.map_nil,hs,hx,hr]
  exact hK _ _ h
theorem uY (r:Rec)(out:List Rec)(Bo base:Nat)(A:Nat->Prop)(w:World)(h:gW w Bo base A out)(hb:base<=w.heap.size)(hA: ∀k,w.heap.size<=k->A k)(hlen:out.length<=1073741824):
 Calls Tryz.prog 78 #[.agg #[.int .i64 r.pos, .int .i64 r.key, .int .i64 r.val], .pointer (some ⟨Bo,0,none⟩)] w (Ze w Bo base A (out++[r])):=by
 obtain⟨v,hh,hown,hv⟩:=h
 have hlt:=(Array.getElem?_eq_some_iff.1 hh).1
 obtain⟨W0,hW0⟩: ∃W0,(w.alloc (.cells #[.int .i64 r.pos, .int .i64 r.key, .int .i64 r.val] 44)).alloc (.cells #[.int .i64 r.pos, .int .i64 r.key, .int .i64 r.val] 44)=W0:=⟨_,rfl⟩
 have hk0:Kept none' w W0:=by rw[<-hW0];exact((Kept.refl _ _).alloc _).alloc _
 have hsz0:w.heap.size<=W0.heap.size:=hk0.size
 have hown0:=hk0.owns hown (fun _ _ h=>h)
 have hh0:=hk0.heap hh (fun h=>h)
 have c0:w.cell? ⟨Bo,0,none⟩=some v:=cells_at hh rfl
 obtain⟨a,cap,rfl⟩:=ay hown
 obtain⟨i,z,hi,hz,hs,hby,hzs⟩:=Tryz.info44
 have hrd:Reads W0 3 (.slice (some ⟨w.heap.size+1,0,none⟩) 1 1) (recs [r]):=by
  have:=Reads.lit (w.alloc (.cells #[.int .i64 r.pos, .int .i64 r.key, .int .i64 r.val] 44)) (recs [r]) 44 3 1 rfl (by unfold maxLen;omega)
  rw[World.size_alloc]at this
  rw[<-hW0];exact this
 obtain⟨v',n',w',g1,g2,g3,g4,g5⟩:=bM (P:=Tryz.prog) base 42 42 44 i z 3 24 Tryz.underlying42 hi hz hs hby hzs (by omega) hown0 hrd (uO [r]) (by rw[aX];simp;omega) (by rw[aX];unfold maxLen;simp;omega) (Nat.le_trans hb hk0.size)
 have Uz: ∀k,v'.ownBlock=some k->A k:=by
  intro k hk
  obtain⟨_,_,_,e,_,_,_,hcl⟩:=hrd
  cases e
  rcases hcl with hcl|⟨b',off',e',hcl⟩
  ·cases hcl
  ·cases e'
   rcases MK (P:=Tryz.prog) base 42 42 44 i z 3 24 Tryz.underlying42 hi hz hs hby _ _ _ hown0 ⟨w.heap.size+1,0,none⟩ 1 1 (recs [r]) rfl (fun j u hj=>by rw[Addr.add_lit];exact hcl j u hj) (uO [r]) (by omega) (by unfold maxLen;omega) (by omega) g1 k hk with h|h
   ·exact hv k h
   ·exact hA k (by omega)
 have hn':n'=(out++[r]).length:=by rw[aX]at g3;simp at g3⊢;omega
 subst hn'
 have hBo: ∀k,Value.ownBlock (.slice a out.length cap)=some k->k≠Bo:=by
  intro k hk e
  rcases hown.2 with⟨e',_⟩|⟨g,cap',cur,e',_,hg,_⟩
  ·rw[e']at hk;cases hk
  ·rw[e']at hk
   simp[Value.ownBlock]at hk
   rw[<-e,<-hk,hg]at hh
   cases hh
 have kw:Kept (fun k=>k=Bo\/A k) w w':=hk0.pure.trans (Kept.grown g4 (fun k hk _=> .inr (hv k hk)))
 have hh':w'.heap[Bo]?=some (.cells #[.slice a out.length cap] 42 (0,0)):=by
  rw[g4.block Bo (by omega) (fun e=>hBo Bo e.symm rfl)];exact hh0
 have c1:w'.cell? ⟨Bo,0,none⟩=some (.slice a out.length cap):=cells_at hh' rfl
 have f1:=free_at hh' 0
 have F:Ze w Bo base A (out++[r]) (.returned (.tuple #[])) (w'.setCell ⟨Bo,0,none⟩ v'):=by
  refine⟨rfl,⟨v',?_,?_,Uz⟩,kw.setCell (p:=⟨Bo,0,none⟩) (.inl (.inl rfl)) _⟩
  ·have:=aS hh' 0 v'
   simpa using this
  ·refine((Kept.refl (one Bo) w').setCell (p:=⟨Bo,0,none⟩) (.inl rfl) v').owns (by rw[rY];exact g2) (fun k hk e=>?_)
   unfold one at e
   subst e
   rcases g2.2 with⟨e',_⟩|⟨g,cap',cur,e',_,hg,_⟩
   ·rw[e']at hk;cases hk
   ·rw[e']at hk
    simp[Value.ownBlock]at hk
    rw[hk,hh']at hg
    cases hg
 have F':=Lib.hid F
 rw[<-hW0]at g1
 obtain⟨va,vc,rfl⟩:=ay g2
 have HG:=Lib.hid g1
 clear F g1 hW0 hk0 hown hown0 hh hh0 hrd g2 g3 g4 g5 Uz hBo kw hh' hv hA
 go_enter Tryz.func78,Tryz.ntmps78
 go_wp2_with (at_builtin;refine wpList_append_run rfl (.tmp 3) (.tmp 5) 42 rfl _ _ _ rfl rfl HG.out ?_)
 go_end0
 have F:=F'.out
 rw[List.length_append]at F
 exact F
def dS (w:World)(a:Array Value)(nd:cu):Prop:=
 ∃uid inv p cap,a= #[.string uid, .int .u8 nd.kind,inv, .int .u8 nd.x.op, .int .i64 nd.x.n, .slice p nd.x.args.length cap, .int .i64 nd.n]/\aF w #[.int .u8 nd.x.op, .int .i64 nd.x.n, .slice p nd.x.args.length cap] nd.x/\
  0<=nd.kind/\nd.kind<=255/\aK nd.n
theorem dS.kept {w w':World}{S:Nat->Prop}(hk:Kept S w w')(hS: ∀k,S k-> ∀c E f,w.heap[k]?≠some (.cells c E f)){a:Array Value}{nd:cu}(h:dS w a nd):dS w' a nd:=by
 obtain⟨uid,inv,p,cap,h1,h2,h3⟩:=h
 exact⟨uid,inv,p,cap,h1,h2.kept hk hS,h3⟩
theorem dS.pure {w w':World}(hk:Kept none' w w'){a:Array Value}{nd:cu}(h:dS w a nd):dS w' a nd:=h.kept hk (fun _ h=>h.elim)
abbrev qF (r:Rec):Value:= .agg #[.int .i64 r.pos, .int .i64 r.key, .int .i64 r.val]
def Zh (St:Nat->World->Prop)(n:Nat)(e:Ending)(w':World):Prop:=e= .returned (.tuple #[])/\St n w'
theorem rO (c:Nat)(caps:Array Value)(L:List Rec)(v:Value)(Bi:Nat)(St:Nat->World->Prop)(w:World)(hent: ∀(args:Array Value)(w:World),(callFunc c args).run Tryz.prog w= .ok (.enter c args) w)
 (hin: ∀k w,St k w->w.cell? ⟨Bi,0,none⟩=some v/\Reads w 3 v (recs L)) (hall: ∀k w o,St k w->St k (w.alloc o)) (h0:St 0 w)
 (hstep: ∀k r w,L[k]?=some r->St k w->Calls Tryz.prog c (#[qF r,gG (aC r)]++caps) w (Zh St (k+1))):
 Calls Tryz.prog 77 #[.func (.func c) #[] caps, .pointer (some ⟨Bi,0,none⟩)] w (Zh St L.length):=by
 obtain⟨hc,hr⟩:=hin 0 w h0
 obtain⟨a,cap,rfl,h1,h2,h3⟩:=hr.recAt
 unfold maxLen at h2
 have H0:=Lib.hid h0
 have HI:=Lib.hid hin
 have HA:=Lib.hid hall
 have HS:=Lib.hid hstep
 clear hr h3 h0 hin hall hstep
 go_enter Tryz.func77,Tryz.ntmps77
 go_wp2
 clear hc
 go_loopg [7] L.length (fun g vi wr=> ∃k:Nat,k<=L.length/\vi= .int .i64 (k:Int)/\L.length-k<=g/\St k wr)
 case atStart=>exact⟨0,by omega,rfl,by omega,H0.out⟩
 case round=>
  obtain⟨k,hkl,rfl,hg,hst⟩:=hrel
  have G:=Lib.hid (And.intro hg hst)
  clear hg hst
  by_cases hlt:k<L.length
  ·obtain⟨r,hr⟩: ∃r,L[k]?=some r:=⟨_,List.getElem?_eq_getElem hlt⟩
   obtain⟨_,hrd⟩:=HI.out k wr G.out.2
   obtain⟨a',cap',e,_,_,hrc⟩:=hrd.recAt
   cases e
   obtain⟨b,off,rfl,hc⟩:=hrc.resolve_left (fun h=>by rw[h]at hr;cases hr)
   obtain⟨q0,q1,q2⟩:=hc k r hr
   have HR:=Lib.hid hr
   clear hrc hc hr hrd
   go_wp2_with fail
   have cc:=HS.out k r _ HR.out (HA.out k wr (.cells #[.int .i64 r.pos, .int .i64 r.key, .int .i64 r.val] 44) G.out.2)
   refine cc.mono ?_
   clear cc
   rintro e w2 ⟨rfl,hs2⟩
   go_wp2_with fail
   go_roundg (L.length-(k+1))
   case rel=>exact⟨k+1,by omega,by go_num,Nat.le_refl _,hs2⟩
   case measure=>have:=G.out.1;omega
  ·have hkl:k=L.length:=by omega
   subst hkl
   go_wp2_with fail
   go_end0
   exact⟨rfl,G.out.2⟩
theorem gW.mono {w:World}{Bo base:Nat}{A A':Nat->Prop}{out:List Rec}(h:gW w Bo base A out)(hA: ∀k,A k->k<w.heap.size->A' k):gW w Bo base A' out:=by
 obtain⟨v,a,b,c⟩:=h
 exact⟨v,a,b,fun k hk=>hA k (c k hk) (eU b hk).2⟩
structure fE (S:Nat->Prop)(w0 w:World)(Bn Bi Bo Bg base:Nat)(na:Array Value)(nd:cu)(v:Value)(L out:List Rec):Prop where
 free: ∀k,S k->k<w0.heap.size/\ ∀c E f,w0.heap[k]?≠some (.cells c E f)
 kept:Kept S w0 w
 Yu:dS w0 na nd
 in0:Reads w0 3 v (recs L)
 acB: ∀r∈L,bg r
 node:w.heap[Bn]?=some (.cells na 97 (0,0))
 ins:w.heap[Bi]?=some (.cells #[v] 42 (0,0))
 goes:w.heap[Bg]?=some (.cells #[.func (.func 78) #[] #[.pointer (some ⟨Bo,0,none⟩)]] 156 (0,0))
 out:gW w Bo base (fun k=>base<=k) out
 lo:w0.heap.size<=Bn/\w0.heap.size<=Bi/\w0.heap.size<=Bg/\w0.heap.size<=Bo
 hi:Bn<base/\Bi<base/\Bg<base/\Bo<base/\base<=w.heap.size
 ne:Bn≠Bo/\Bi≠Bo/\Bg≠Bo
section
variable {S:Nat->Prop} {w0 w w':World} {Bn Bi Bo Bg base:Nat} {na:Array Value} {nd:cu} {v:Value} {L out out':List Rec}
theorem fE.yC (h:fE S w0 w Bn Bi Bo Bg base na nd v L out):dS w na nd:=h.Yu.kept h.kept (fun k hk=>(h.free k hk).2)
theorem fE.reads (h:fE S w0 w Bn Bi Bo Bg base na nd v L out):Reads w 3 v (recs L):=
 h.in0.kept h.kept (fun b hb hs=>by obtain⟨c,E,f,hc⟩:=h.in0.isCells (by omega) hb;exact(h.free b hs).2 c E f hc)
theorem fE.next (h:fE S w0 w Bn Bi Bo Bg base na nd v L out){S':Nat->Prop}(hk:Kept S' w w')(hS: ∀k,S' k->k=Bo\/base<=k\/S k)(ho:gW w' Bo base (fun k=>base<=k) out'):fE S w0 w' Bn Bi Bo Bg base na nd v L out':=by
 obtain⟨l1,l2,l3,l4⟩:=h.lo
 obtain⟨i1,i2,i3,i4,i5⟩:=h.hi
 obtain⟨n1,n2,n3⟩:=h.ne
 have no: ∀b,w0.heap.size<=b->b<base->b≠Bo-> ¬S' b:=fun b h1 h2 h3 hs=>by
  rcases hS b hs with e|e|e
  ·exact h3 e
  ·omega
  ·have:=(h.free b e).1;omega
 exact⟨h.free,h.kept.new hk (fun i hi hs=>by rcases hS i hs with e|e|e;omega;omega;exact e),h.Yu,h.in0,h.acB,hk.heap h.node (no _ l1 i1 n1),hk.heap h.ins (no _ l2 i2 n2),hk.heap h.goes (no _ l3 i3 n3),ho,h.lo,
  ⟨i1,i2,i3,i4,Nat.le_trans i5 hk.size⟩,h.ne⟩
theorem fE.alloc (h:fE S w0 w Bn Bi Bo Bg base na nd v L out)(o:Obj):fE S w0 (w.alloc o) Bn Bi Bo Bg base na nd v L out:=
 h.next ((Kept.refl none' w).alloc o) (fun _ h=>h.elim) (h.out.pure ((Kept.refl none' w).alloc o))
end
def wH (S:Nat->Prop)(w0:World)(Bn Bi Bo Bg base:Nat)(na:Array Value)(nd:cu)(v:Value)(L out:List Rec)(e:Ending)(w':World):Prop:=
 e= .returned (.tuple #[])/\fE S w0 w' Bn Bi Bo Bg base na nd v L out
theorem Ya {S:Nat->Prop}{w0 w:World}{Bn Bi Bo Bg base:Nat}{na:Array Value}{nd:cu}{v:Value}{L out:List Rec}(h:fE S w0 w Bn Bi Bo Bg base na nd v L out)(r:Rec)(hr:bg r)(hlen:out.length<=1073741824):
 Calls Tryz.prog 79 #[qF r,gG (aC r), .pointer (some ⟨Bn,0,none⟩), .pointer (some ⟨Bg,0,none⟩)] w (wH S w0 Bn Bi Bo Bg base na nd v L (out++[{r with val:=dJ nd.x (aC r)}])):=by
 obtain⟨uid,inv,p,cap,hna,hx,hk0,hk1,hn⟩:=h.yC
 have aZ:=h.node
 rw[hna]at aZ
 clear hna
 have x0:w.cell? ⟨Bn,3,none⟩=some (.int .u8 nd.x.op):=cells_at aZ rfl
 have x1:w.cell? ⟨Bn,4,none⟩=some (.int .i64 nd.x.n):=cells_at aZ rfl
 have x2:w.cell? ⟨Bn,5,none⟩=some (.slice p nd.x.args.length cap):=cells_at aZ rfl
 have g0:w.cell? ⟨Bg,0,none⟩=some (.func (.func 78) #[] #[.pointer (some ⟨Bo,0,none⟩)]):=cells_at h.goes rfl
 obtain⟨l1,l2,l3,l4⟩:=h.lo
 obtain⟨i1,i2,i3,i4,i5⟩:=h.hi
 have hlb:Bn<w.heap.size:=by omega
 have UG:Bg<w.heap.size:=by omega
 have H:=Lib.hid h
 have HX:=Lib.hid hx
 have HR:=Lib.hid hr
 clear h hx hr aZ
 go_enter Tryz.func79,Tryz.ntmps79
 go_wp2_with fail
 obtain⟨W0,hW0⟩: ∃W0,(w.alloc (.cells #[.int .i64 r.pos, .int .i64 r.key, .int .i64 r.val] 44)).alloc (.cells #[.int .i64 (aC r).key, .int .i64 (aC r).val, .int .i64 (aC r).acc] 154)=W0:=⟨_,rfl⟩
 have k0:Kept none' w W0:=by rw[<-hW0];exact((Kept.refl _ _).alloc _).alloc _
 have hB:W0.heap[w.heap.size]?=some (.cells #[.int .i64 r.pos, .int .i64 r.key, .int .i64 r.val] 44 (0,0)):=by
  rw[<-hW0]
  exact((Kept.refl none' (w.alloc (.cells #[.int .i64 r.pos, .int .i64 r.key, .int .i64 r.val] 44))).alloc _).heap (heap_alloc_new w (.cells #[.int .i64 r.pos, .int .i64 r.key, .int .i64 r.val] 44)) (fun h=>h)
 rw[hW0]
 have c:=Ah nd.x _ (aC r) W0 (aF.pure k0 HX.out) (rM HR.out)
 refine c.mono ?_
 clear c
 rintro e W1 ⟨rfl,k1⟩
 have k2:Kept none' w W1:=k0.trans k1
 have hB1:=k1.heap hB (fun h=>h)
 have b0:W1.cell? ⟨w.heap.size,0,none⟩=some (.int .i64 r.pos):=cells_at hB1 rfl
 have b1:W1.cell? ⟨w.heap.size,1,none⟩=some (.int .i64 r.key):=cells_at hB1 rfl
 have b2:W1.cell? ⟨w.heap.size,2,none⟩=some (.int .i64 r.val):=cells_at hB1 rfl
 have f2:=free_at hB1 2
 have g1:=k2.cell (p:=⟨Bg,0,none⟩) (fun h=>h) g0
 have hbg:Bg≠w.heap.size:=by omega
 obtain⟨X,hX⟩: ∃X,dJ nd.x (aC r)=X:=⟨_,rfl⟩
 have ks:Kept (one w.heap.size) W1 (W1.setCell ⟨w.heap.size,2,none⟩ (.int .i64 X)):=(Kept.refl (one w.heap.size) W1).setCell (p:=⟨w.heap.size,2,none⟩) (.inl rfl) _
 have hout:gW (W1.setCell ⟨w.heap.size,2,none⟩ (.int .i64 X)) Bo base (fun k=>base<=k) out:=
  ((((H.out.out.mono (A':=fun k=>base<=k/\k<w.heap.size) (fun k h1 h2=>⟨h1,h2⟩)).pure k2).kept ks (fun e=>by unfold one at e;omega) (fun k h e=>by unfold one at e;omega)).mono (fun k h _=>h.1))
 have G:=Lib.hid (And.intro k2 (And.intro ks hout))
 have hsz:base<=(W1.setCell ⟨w.heap.size,2,none⟩ (.int .i64 X)).heap.size:=Nat.le_trans i5 (Nat.le_trans k2.size ks.size)
 have VH:=Lib.hid hsz
 clear k0 k1 k2 hB hB1 hW0 x0 x1 x2 g0 ks hout hsz
 rw[hX]
 have HX':=Lib.hid hX
 clear hX
 go_wp2_with fail
 have c:=uY {r with val:=X} out Bo base (fun k=>base<=k) _ G.out.2.2 VH.out (fun k hk=>Nat.le_trans VH.out hk) hlen
 refine c.mono ?_
 clear c
 rintro e W2 ⟨rfl,o2,k3⟩
 have F:wH S w0 Bn Bi Bo Bg base na nd v L (out++[{r with val:=dJ nd.x (aC r)}]) (.returned (.tuple #[])) W2:=by
  rw[HX'.out]
  refine⟨rfl,H.out.next (S':=fun k=>k=Bo\/base<=k) (G.out.1.pure.trans ((G.out.2.1.mono (fun k _ e=>by unfold one at e;right;omega)).trans k3)) (fun k h=>by rcases h with h|h;exact .inl h;exact .inr (.inl h)) o2⟩
 have F':=Lib.hid F
 clear F o2 k3
 go_wp2_with fail
 go_end0
 exact F'.out
theorem Yb {S:Nat->Prop}{w0 w:World}{Bn Bi Bo Bg base:Nat}{na:Array Value}{nd:cu}{v:Value}{L out:List Rec}(h:fE S w0 w Bn Bi Bo Bg base na nd v L out)(r:Rec)(hr:bg r)(hlen:out.length<=1073741824):
 Calls Tryz.prog 81 #[qF r,gG (aC r), .pointer (some ⟨Bn,0,none⟩), .pointer (some ⟨Bg,0,none⟩)] w (wH S w0 Bn Bi Bo Bg base na nd v L (out++[{r with key:=dJ nd.x (aC r)}])):=by
 obtain⟨uid,inv,p,cap,hna,hx,hk0,hk1,hn⟩:=h.yC
 have aZ:=h.node
 rw[hna]at aZ
 clear hna
 have x0:w.cell? ⟨Bn,3,none⟩=some (.int .u8 nd.x.op):=cells_at aZ rfl
 have x1:w.cell? ⟨Bn,4,none⟩=some (.int .i64 nd.x.n):=cells_at aZ rfl
 have x2:w.cell? ⟨Bn,5,none⟩=some (.slice p nd.x.args.length cap):=cells_at aZ rfl
 have g0:w.cell? ⟨Bg,0,none⟩=some (.func (.func 78) #[] #[.pointer (some ⟨Bo,0,none⟩)]):=cells_at h.goes rfl
 obtain⟨l1,l2,l3,l4⟩:=h.lo
 obtain⟨i1,i2,i3,i4,i5⟩:=h.hi
 have hlb:Bn<w.heap.size:=by omega
 have UG:Bg<w.heap.size:=by omega
 have H:=Lib.hid h
 have HX:=Lib.hid hx
 have HR:=Lib.hid hr
 clear h hx hr aZ
 go_enter Tryz.func81,Tryz.ntmps81
 go_wp2_with fail
 obtain⟨W0,hW0⟩: ∃W0,(w.alloc (.cells #[.int .i64 r.pos, .int .i64 r.key, .int .i64 r.val] 44)).alloc (.cells #[.int .i64 (aC r).key, .int .i64 (aC r).val, .int .i64 (aC r).acc] 154)=W0:=⟨_,rfl⟩
 have k0:Kept none' w W0:=by rw[<-hW0];exact((Kept.refl _ _).alloc _).alloc _
 have hB:W0.heap[w.heap.size]?=some (.cells #[.int .i64 r.pos, .int .i64 r.key, .int .i64 r.val] 44 (0,0)):=by
  rw[<-hW0]
  exact((Kept.refl none' (w.alloc (.cells #[.int .i64 r.pos, .int .i64 r.key, .int .i64 r.val] 44))).alloc _).heap (heap_alloc_new w (.cells #[.int .i64 r.pos, .int .i64 r.key, .int .i64 r.val] 44)) (fun h=>h)
 rw[hW0]
 have c:=Ah nd.x _ (aC r) W0 (aF.pure k0 HX.out) (rM HR.out)
 refine c.mono ?_
 clear c
 rintro e W1 ⟨rfl,k1⟩
 have k2:Kept none' w W1:=k0.trans k1
 have hB1:=k1.heap hB (fun h=>h)
 have b0:W1.cell? ⟨w.heap.size,0,none⟩=some (.int .i64 r.pos):=cells_at hB1 rfl
 have b1:W1.cell? ⟨w.heap.size,1,none⟩=some (.int .i64 r.key):=cells_at hB1 rfl
 have b2:W1.cell? ⟨w.heap.size,2,none⟩=some (.int .i64 r.val):=cells_at hB1 rfl
 have f2:=free_at hB1 1
 have g1:=k2.cell (p:=⟨Bg,0,none⟩) (fun h=>h) g0
 have hbg:Bg≠w.heap.size:=by omega
 obtain⟨X,hX⟩: ∃X,dJ nd.x (aC r)=X:=⟨_,rfl⟩
 have ks:Kept (one w.heap.size) W1 (W1.setCell ⟨w.heap.size,1,none⟩ (.int .i64 X)):=(Kept.refl (one w.heap.size) W1).setCell (p:=⟨w.heap.size,1,none⟩) (.inl rfl) _
 have hout:gW (W1.setCell ⟨w.heap.size,1,none⟩ (.int .i64 X)) Bo base (fun k=>base<=k) out:=
  ((((H.out.out.mono (A':=fun k=>base<=k/\k<w.heap.size) (fun k h1 h2=>⟨h1,h2⟩)).pure k2).kept ks (fun e=>by unfold one at e;omega) (fun k h e=>by unfold one at e;omega)).mono (fun k h _=>h.1))
 have G:=Lib.hid (And.intro k2 (And.intro ks hout))
 have hsz:base<=(W1.setCell ⟨w.heap.size,1,none⟩ (.int .i64 X)).heap.size:=Nat.le_trans i5 (Nat.le_trans k2.size ks.size)
 have VH:=Lib.hid hsz
 clear k0 k1 k2 hB hB1 hW0 x0 x1 x2 g0 ks hout hsz
 rw[hX]
 have HX':=Lib.hid hX
 clear hX
 go_wp2_with fail
 have c:=uY {r with key:=X} out Bo base (fun k=>base<=k) _ G.out.2.2 VH.out (fun k hk=>Nat.le_trans VH.out hk) hlen
 refine c.mono ?_
 clear c
 rintro e W2 ⟨rfl,o2,k3⟩
 have F:wH S w0 Bn Bi Bo Bg base na nd v L (out++[{r with key:=dJ nd.x (aC r)}]) (.returned (.tuple #[])) W2:=by
  rw[HX'.out]
  refine⟨rfl,H.out.next (S':=fun k=>k=Bo\/base<=k) (G.out.1.pure.trans ((G.out.2.1.mono (fun k _ e=>by unfold one at e;right;omega)).trans k3)) (fun k h=>by rcases h with h|h;exact .inl h;exact .inr (.inl h)) o2⟩
 have F':=Lib.hid F
 clear F o2 k3
 go_wp2_with fail
 go_end0
 exact F'.out
end
section
open Go Go.RowKit
attribute [local irreducible] bU
def QD (b:Bool)(r:Rec):List Rec:=if b then[r]else[]
theorem QF (r:Rec)(k:Nat):kC r (k+1)=kC r k++[⟨wrap64 (wrap64 (8*r.pos)+(k:Int)),r.key,wrap64 (r.val+(k:Int))⟩]:=by
 unfold kC;rw[List.range_succ,List.map_append];rfl
theorem zW (r:Rec)(k:Nat):(kC r k).length=k:=by simp[kC]
theorem Ob {S:Nat->Prop}{w0 w:World}{Bn Bi Bo Bg base:Nat}{na:Array Value}{nd:cu}{v:Value}{L out:List Rec}(h:fE S w0 w Bn Bi Bo Bg base na nd v L out)(r:Rec)(hr:bg r)(hlen:out.length<=1000000000):
 Calls Tryz.prog 82 #[qF r,gG (aC r), .pointer (some ⟨Bn,0,none⟩), .pointer (some ⟨Bg,0,none⟩)] w (wH S w0 Bn Bi Bo Bg base na nd v L (out++QD (tu nd.x (aC r)) r)):=by
 obtain⟨uid,inv,p,cap,hna,hx,hk0,hk1,hn⟩:=h.yC
 have aZ:=h.node
 rw[hna]at aZ
 clear hna
 have x0:w.cell? ⟨Bn,3,none⟩=some (.int .u8 nd.x.op):=cells_at aZ rfl
 have x1:w.cell? ⟨Bn,4,none⟩=some (.int .i64 nd.x.n):=cells_at aZ rfl
 have x2:w.cell? ⟨Bn,5,none⟩=some (.slice p nd.x.args.length cap):=cells_at aZ rfl
 have g0:w.cell? ⟨Bg,0,none⟩=some (.func (.func 78) #[] #[.pointer (some ⟨Bo,0,none⟩)]):=cells_at h.goes rfl
 obtain⟨l1,l2,l3,l4⟩:=h.lo
 obtain⟨i1,i2,i3,i4,i5⟩:=h.hi
 have hlb:Bn<w.heap.size:=by omega
 have UG:Bg<w.heap.size:=by omega
 have H:=Lib.hid h
 have HX:=Lib.hid hx
 have HR:=Lib.hid hr
 clear h hx hr aZ
 go_enter Tryz.func82,Tryz.ntmps82
 go_wp2_with fail
 obtain⟨W0,hW0⟩: ∃W0,(w.alloc (.cells #[.int .i64 r.pos, .int .i64 r.key, .int .i64 r.val] 44)).alloc (.cells #[.int .i64 (aC r).key, .int .i64 (aC r).val, .int .i64 (aC r).acc] 154)=W0:=⟨_,rfl⟩
 have k0:Kept none' w W0:=by rw[<-hW0];exact((Kept.refl _ _).alloc _).alloc _
 have hsz2:w.heap.size+1<W0.heap.size:=by rw[<-hW0];simp
 have hB:W0.heap[w.heap.size]?=some (.cells #[.int .i64 r.pos, .int .i64 r.key, .int .i64 r.val] 44 (0,0)):=by
  rw[<-hW0]
  exact((Kept.refl none' (w.alloc (.cells #[.int .i64 r.pos, .int .i64 r.key, .int .i64 r.val] 44))).alloc _).heap (heap_alloc_new w (.cells #[.int .i64 r.pos, .int .i64 r.key, .int .i64 r.val] 44)) (fun h=>h)
 rw[hW0]
 have c:=Yd nd.x _ (aC r) W0 (aF.pure k0 HX.out) (rM HR.out)
 refine c.mono ?_
 clear c
 rintro e W1 ⟨rfl,k1⟩
 have k2:Kept none' w W1:=k0.trans k1
 have hB1:=k1.heap hB (fun h=>h)
 have b0:W1.cell? ⟨w.heap.size,0,none⟩=some (.int .i64 r.pos):=cells_at hB1 rfl
 have b1:W1.cell? ⟨w.heap.size,1,none⟩=some (.int .i64 r.key):=cells_at hB1 rfl
 have b2:W1.cell? ⟨w.heap.size,2,none⟩=some (.int .i64 r.val):=cells_at hB1 rfl
 have g1:=k2.cell (p:=⟨Bg,0,none⟩) (fun h=>h) g0
 have hbg:Bg≠w.heap.size:=by omega
 have hout:=H.out.out.pure k2
 have hsz:base<=W1.heap.size:=Nat.le_trans i5 k2.size
 have G:=Lib.hid (And.intro k2 hout)
 clear k0 k1 k2 hB hB1 hW0 x0 x1 x2 g0 hout hsz2
 cases hb:tu nd.x (aC r)with
 |false=>
  have F:wH S w0 Bn Bi Bo Bg base na nd v L (out++QD false r) (.returned (.tuple #[])) W1:=by
   refine⟨rfl,H.out.next (S':=none') G.out.1 (fun k h=>h.elim) ?_⟩
   show gW W1 Bo base (fun k=>base<=k) (out++[])
   rw[List.append_nil];exact G.out.2
  have F':=Lib.hid F
  have Pm:=Lib.hid hb
  clear F hb
  go_wp2_with fail
  go_end0
  rw[Pm.out]
  exact F'.out
 |true=>
  have Pm:=Lib.hid hb
  clear hb
  go_wp2_with fail
  have c:=uY r out Bo base (fun k=>base<=k) W1 G.out.2 hsz (fun k hk=>Nat.le_trans hsz hk) (by omega)
  refine c.mono ?_
  clear c
  rintro e W2 ⟨rfl,o2,k3⟩
  have F:wH S w0 Bn Bi Bo Bg base na nd v L (out++QD true r) (.returned (.tuple #[])) W2:=by
   exact⟨rfl,H.out.next (S':=fun k=>k=Bo\/base<=k) (G.out.1.pure.trans k3) (fun k h=>by rcases h with h|h;exact .inl h;exact .inr (.inl h)) o2⟩
  have F':=Lib.hid F
  clear F o2 k3
  go_wp2_with fail
  go_end0
  rw[Pm.out]
  exact F'.out
theorem Vo {S:Nat->Prop}{w0 w:World}{Bn Bi Bo Bg base:Nat}{na:Array Value}{nd:cu}{v:Value}{L out:List Rec}(h:fE S w0 w Bn Bi Bo Bg base na nd v L out)(r:Rec)(hr:bg r)(hlen:out.length<=1000000000):
 Calls Tryz.prog 84 #[qF r,gG (aC r), .pointer (some ⟨Bn,0,none⟩), .pointer (some ⟨Bg,0,none⟩)] w (wH S w0 Bn Bi Bo Bg base na nd v L (out++kC r (jI (dJ nd.x (aC r))))):=by
 obtain⟨uid,inv,p,cap,hna,hx,hk0,hk1,hn⟩:=h.yC
 have aZ:=h.node
 rw[hna]at aZ
 clear hna
 have x0:w.cell? ⟨Bn,3,none⟩=some (.int .u8 nd.x.op):=cells_at aZ rfl
 have x1:w.cell? ⟨Bn,4,none⟩=some (.int .i64 nd.x.n):=cells_at aZ rfl
 have x2:w.cell? ⟨Bn,5,none⟩=some (.slice p nd.x.args.length cap):=cells_at aZ rfl
 have g0:w.cell? ⟨Bg,0,none⟩=some (.func (.func 78) #[] #[.pointer (some ⟨Bo,0,none⟩)]):=cells_at h.goes rfl
 obtain⟨l1,l2,l3,l4⟩:=h.lo
 obtain⟨i1,i2,i3,i4,i5⟩:=h.hi
 have hlb:Bn<w.heap.size:=by omega
 have UG:Bg<w.heap.size:=by omega
 have H:=Lib.hid h
 have HX:=Lib.hid hx
 have HR:=Lib.hid hr
 clear h hx hr aZ
 go_enter Tryz.func84,Tryz.ntmps84
 go_wp2_with fail
 obtain⟨W0,hW0⟩: ∃W0,(w.alloc (.cells #[.int .i64 r.pos, .int .i64 r.key, .int .i64 r.val] 44)).alloc (.cells #[.int .i64 (aC r).key, .int .i64 (aC r).val, .int .i64 (aC r).acc] 154)=W0:=⟨_,rfl⟩
 have k0:Kept none' w W0:=by rw[<-hW0];exact((Kept.refl _ _).alloc _).alloc _
 have hsz2:w.heap.size+1<W0.heap.size:=by rw[<-hW0];simp
 have hB:W0.heap[w.heap.size]?=some (.cells #[.int .i64 r.pos, .int .i64 r.key, .int .i64 r.val] 44 (0,0)):=by
  rw[<-hW0]
  exact((Kept.refl none' (w.alloc (.cells #[.int .i64 r.pos, .int .i64 r.key, .int .i64 r.val] 44))).alloc _).heap (heap_alloc_new w (.cells #[.int .i64 r.pos, .int .i64 r.key, .int .i64 r.val] 44)) (fun h=>h)
 rw[hW0]
 have c:=Ah nd.x _ (aC r) W0 (aF.pure k0 HX.out) (rM HR.out)
 refine c.mono ?_
 clear c
 rintro e W1 ⟨rfl,k1⟩
 have k2:Kept none' w W1:=k0.trans k1
 have hB1:=k1.heap hB (fun h=>h)
 have b0:W1.cell? ⟨w.heap.size,0,none⟩=some (.int .i64 r.pos):=cells_at hB1 rfl
 have b1:W1.cell? ⟨w.heap.size,1,none⟩=some (.int .i64 r.key):=cells_at hB1 rfl
 have b2:W1.cell? ⟨w.heap.size,2,none⟩=some (.int .i64 r.val):=cells_at hB1 rfl
 have g1:=k2.cell (p:=⟨Bg,0,none⟩) (fun h=>h) g0
 have hbg:Bg≠w.heap.size:=by omega
 have hout:gW W1 Bo base (fun k=>base<=k/\k≠w.heap.size) out:=
  ((H.out.out.mono (A':=fun k=>base<=k/\k<w.heap.size) (fun k h1 h2=>⟨h1,h2⟩)).pure k2).mono (fun k h _=>⟨h.1,by omega⟩)
 have hsz:base<=W1.heap.size/\w.heap.size<W1.heap.size:=⟨Nat.le_trans i5 k2.size,by have:=k1.size;omega⟩
 have abB:=zY HX.out (rM HR.out)
 obtain⟨X,hX⟩: ∃X,dJ nd.x (aC r)=X:=⟨_,rfl⟩
 rw[hX]at abB⊢
 have Za:=Lib.hid hX
 obtain⟨hX1,hX2⟩:=abB
 have G:=Lib.hid (And.intro k2 (And.intro hout (And.intro hsz hB1)))
 clear k0 k1 k2 hB hB1 hW0 x0 x1 x2 g0 hout hsz b0 b1 b2 g1 hX
 have hfN:jI X<=4:=by unfold jI;omega
 have hFN:=Lib.hid (show jI X=(min X 4).toNat from rfl)
 go_wp2_with fail
 go_loopg [12] (jI X) (fun g vi wr=> ∃k:Nat,k<=jI X/\vi= .int .i64 (k:Int)/\jI X-k<=g/\gW wr Bo base (fun k=>base<=k/\k≠w.heap.size) (out++kC r k)/\Kept (fun k=>k=Bo\/(base<=k/\k≠w.heap.size)) W1 wr)
 case atStart=>exact⟨0,by omega,rfl,by omega,by simpa[kC]using G.out.2.1,Kept.refl _ _⟩
 case round=>
  obtain⟨k,hkl,rfl,hg,ho,hkp⟩:=hrel
  have hB2:=hkp.heap G.out.2.2.2 (fun h=>by rcases h with h|h;omega;exact h.2 rfl)
  have b0:wr.cell? ⟨w.heap.size,0,none⟩=some (.int .i64 r.pos):=cells_at hB2 rfl
  have b1:wr.cell? ⟨w.heap.size,1,none⟩=some (.int .i64 r.key):=cells_at hB2 rfl
  have b2:wr.cell? ⟨w.heap.size,2,none⟩=some (.int .i64 r.val):=cells_at hB2 rfl
  have g1:wr.cell? ⟨Bg,0,none⟩=some (.func (.func 78) #[] #[.pointer (some ⟨Bo,0,none⟩)]):=cells_at (hkp.heap (G.out.1.heap H.out.goes (fun h=>h)) (fun h=>by have:=H.out.ne;rcases h with h|h;exact this.2.2 h;omega)) rfl
  have aaS:=hkp.size
  have A:=Lib.hid (And.intro hg (And.intro ho (And.intro hkp aaS)))
  clear hg ho hkp hB2 aaS
  by_cases hlt:k<jI X
  ·have hlt2:(k:Int)<min X 4:=by have:=hFN.out;omega
   have hlt3:decide ((k:Int)<min X 4)=true:=decide_eq_true hlt2
   have hk4:k<=4:=by omega
   go_wp2_with fail
   have c:=uY ⟨wrap64 (wrap64 (8*r.pos)+(k:Int)),r.key,wrap64 (r.val+(k:Int))⟩ (out++kC r k) Bo base (fun k=>base<=k/\k≠w.heap.size) wr A.out.2.1 (Nat.le_trans G.out.2.2.1.1 A.out.2.2.2) (fun k hk=>⟨Nat.le_trans G.out.2.2.1.1 (Nat.le_trans A.out.2.2.2 hk),by have:=G.out.2.2.1.2;have:=A.out.2.2.2;omega⟩) (by rw[List.length_append,zW];omega)
   refine c.mono ?_
   clear c
   rintro e W2 ⟨rfl,o2,k3⟩
   rw[List.append_assoc,<-QF]at o2
   go_wp2_with fail
   go_roundg (jI X-(k+1))
   case rel=>exact⟨k+1,by omega,by go_num,Nat.le_refl _,o2,A.out.2.2.1.trans k3⟩
   case measure=>have:=A.out.1;omega
  ·have hlt2: ¬(k:Int)<min X 4:=by have:=hFN.out;omega
   have hlt3:decide ((k:Int)<min X 4)=false:=decide_eq_false hlt2
   have hkl:k=jI X:=by omega
   go_wp2_with fail
   go_end0
   rw[Za.out,<-hkl]
   exact⟨rfl,H.out.next (S':=fun k=>k=Bo\/(base<=k/\k≠w.heap.size)) (G.out.1.pure.trans A.out.2.2.1) (fun k h=>by rcases h with h|h;exact .inl h;exact .inr (.inl h.1)) (A.out.2.1.mono (fun k h _=>h.1))⟩
end
section
open Go Go.RowKit Go.ChangeShapes Go.WideShapes Go.ChangeAt Go.Deep
theorem FH {H:Type}{enc:TypeId×Value->H}{w:World}{fuel n cap:Nat}{a:Option Addr}{x:DataW H×List MemPlace}
 (h:DataW.trod enc Tryz.prog w 0 (fun _=>true) true fuel 42 [.slice a n cap]=some x): ∃L:List Rec,L.length=n/\Reads w 3 (.slice a n cap) (recs L)/\ ∀r∈L,bg r:=by
 obtain⟨cs,hl,hr,hel⟩:=uw (k:=3) Tryz.underlying42 (by kernel_rfl) (by omega) h
 have each: ∀i,i<n-> ∃r:Rec,bg r/\(cs.drop (i*3)).take 3=[.int .i64 r.pos, .int .i64 r.key, .int .i64 r.val]:=by
  intro i hi
  obtain⟨m,y,hy⟩:=hel i hi
  obtain⟨v0,v1,v2,hd⟩: ∃v0 v1 v2,(cs.drop (i*3)).take 3=[v0,v1,v2]:=by
   have hlen:((cs.drop (i*3)).take 3).length=3:=by rw[List.length_take,List.length_drop];omega
   match(cs.drop (i*3)).take 3,hlen with
   |[v0,v1,v2],_=>exact⟨v0,v1,v2,rfl⟩
  rw[hd]at hy⊢
  obtain⟨xs,f1,_,_,_,hxl,hf⟩:=DataW.trod_struct Tryz.underlying44 hy
  have g0:DataW.trod enc Tryz.prog w 0 (fun _=>true) true f1 2 ([v0,v1,v2].drop 0|>.take (Tryz.prog.cellsOf 2))=xs[0]?:=hf 0 _ rfl
  have g1:DataW.trod enc Tryz.prog w 0 (fun _=>true) true f1 2 ([v0,v1,v2].drop 1|>.take (Tryz.prog.cellsOf 2))=xs[1]?:=hf 1 _ rfl
  have g2:DataW.trod enc Tryz.prog w 0 (fun _=>true) true f1 2 ([v0,v1,v2].drop 2|>.take (Tryz.prog.cellsOf 2))=xs[2]?:=hf 2 _ rfl
  rw[show Tryz.prog.cellsOf 2=1 by kernel_rfl]at g0 g1 g2
  simp only[List.drop_succ_cons,List.drop_zero,List.take_succ_cons,List.take_zero]at g0 g1 g2
  match xs,hxl with
  |[x0,x1,x2],_=>
   obtain⟨z0,hz0,_,hw0⟩:=DataW.trod_int Tryz.underlying2 g0
   obtain⟨z1,hz1,_,hw1⟩:=DataW.trod_int Tryz.underlying2 g1
   obtain⟨z2,hz2,_,hw2⟩:=DataW.trod_int Tryz.underlying2 g2
   injection hz0 with hz0 _
   injection hz1 with hz1 _
   injection hz2 with hz2 _
   subst hz0 hz1 hz2
   exact⟨⟨z0,z1,z2⟩,⟨.wu hw0, .wu hw1, .wu hw2⟩,rfl⟩
 obtain⟨O,hO⟩:=choose_lt each
 refine⟨(List.range n).map O,by simp,?_,fun r hr=>?_⟩
 ·have:cs=recs ((List.range n).map O):=by
   apply List.ext_getElem?
   intro j
   by_cases hj:j<n*3
   ·have hi:j/3<n:=by omega
    have h1:=(hO (j/3) hi).2
    have h2:cs[j]?=((cs.drop (j/3*3)).take 3)[j%3]?:=by
     rw[List.getElem?_take,if_pos (Nat.mod_lt _ (by omega)),List.getElem?_drop]
     congr 1;omega
    rw[h2,h1]
    have h3:((List.range n).map O)[j/3]?=some (O (j/3)):=by rw[List.getElem?_map,List.getElem?_range hi];rfl
    obtain⟨e0,e1,e2⟩:=BH h3
    have hm:j%3=0\/j%3=1\/j%3=2:=by omega
    rcases hm with hm|hm|hm
    ·rw[hm,show(recs ((List.range n).map O))[j]?=(recs ((List.range n).map O))[j/3*3]? by congr 1;omega,e0];rfl
    ·rw[hm,show(recs ((List.range n).map O))[j]?=(recs ((List.range n).map O))[j/3*3+1]? by congr 1;omega,e1];rfl
    ·rw[hm,show(recs ((List.range n).map O))[j]?=(recs ((List.range n).map O))[j/3*3+2]? by congr 1;omega,e2];rfl
   ·rw[List.getElem?_eq_none (by omega),List.getElem?_eq_none (by rw[aX];simp;omega)]
  rw[<-this];exact hr
 ·obtain⟨i,hi,rfl⟩:=List.mem_map.1 hr
  exact(hO i (List.mem_range.1 hi)).1
end
end Go.Proofs.YtopeleenlcnkkaaGreatDoor
