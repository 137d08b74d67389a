/- What a node makes of records: a table beside the row that grows. -/
import Derived.Test.YtglbkodmmogomaaGreatDoorI11
set_option linter.unusedVariables false
set_option linter.unusedSimpArgs false
set_option maxHeartbeats 2000000
set_option maxRecDepth 100000
namespace Go.Proofs.YtglbkodmmogomaaGreatDoor
section
open Go Go.RowKit
def Sep (Gs:Nat->Prop)(w:World)(Bo base tb tm:Nat)(X:Nat->Prop)(out:List Rec)(T:Tab):Prop:=
 ∃A M:Nat->Prop,jk w Bo base (fun k=>base<=k/\A k) out/\TabAt w M tb tm T/\(∀k,A k->M k->False)/\ ¬M Bo/\(∀k,X k-> ¬A k/\ ¬M k/\k≠Bo)/\ ∀k,M k->Gs k\/Bo<k
section
variable {Gs:Nat->Prop} {w w':World} {Bo base tb tm:Nat} {X:Nat->Prop} {out:List Rec} {T:Tab}
theorem Sep.pure (h:Sep Gs w Bo base tb tm X out T)(hk:ε η w w'):Sep Gs w' Bo base tb tm X out T:=by obtain⟨A,M,h1,h2,h3,h4,h5,h6⟩:=h;exact⟨A,M,h1.pure hk,h2.pure hk,h3,h4,h5,h6⟩
theorem Sep.ok (h:Sep Gs w Bo base tb tm X out T):eP T:=by obtain⟨A,M,h1,h2,h3,h4,h5,h6⟩:=h;exact h2.ok
theorem Sep.row (h:Sep Gs w Bo base tb tm X out T):jk w Bo base (fun k=>base<=k) out:=by obtain⟨A,M,h1,h2,h3,h4,h5,h6⟩:=h;exact h1.mono (fun k h _=>h.1)
theorem jk.lt {A:Nat->Prop}(h:jk w Bo base A out):Bo<w.heap.size:=by obtain⟨v,a,_⟩:=h;exact(κ.1 a).1
theorem Sep.enter (h:Sep Gs w Bo base tb tm X out T)(hk:ε η w w'){Y:Nat->Prop}(hY: ∀k,Y k->w.heap.size<=k):Sep Gs w' Bo base tb tm Y out T:=by
 obtain⟨A,M,h1,h2,h3,h4,h5,h6⟩:=h;have hlt:=h1.lt
 exact⟨fun k=>A k/\k<w.heap.size,fun k=>M k/\k<w.heap.size,(h1.mono (fun k h hl=>⟨h.1,h.2,hl⟩)).pure hk,(h2.mono (fun k h hl=>⟨h,hl⟩)).pure hk,fun k a b=>h3 k a.1 b.1,fun h=>h4 h.1,
  fun k hk=>⟨fun h=>by have:=hY k hk;omega,fun h=>by have:=hY k hk;omega,by have:=hY k hk;omega⟩,fun k h=>h6 k h.1⟩
theorem Sep.leave (h:Sep Gs w Bo base tb tm X out T):Sep Gs w Bo base tb tm η out T:=by obtain⟨A,M,h1,h2,h3,h4,h5,h6⟩:=h;exact⟨A,M,h1,h2,h3,h4,fun _ h=>h.elim,h6⟩
theorem Sep.foreign (h:Sep Gs w Bo base tb tm X out T){S:Nat->Prop}(hk:ε S w w')(hS: ∀k,S k->X k):Sep Gs w' Bo base tb tm X out T:=by obtain⟨A,M,h1,h2,h3,h4,h5,h6⟩:=h;exact⟨A,M,h1.kept hk (fun h=>(h5 _ (hS _ h)).2.2 rfl) (fun k h hs=>(h5 _ (hS _ hs)).1 h.2),h2.kept hk (fun k hs hM=>((h5 _ (hS _ hs)).2.1 hM).elim) (fun hs=>(h5 _ (hS _ hs)).2.1 h2.hm),h3,h4,h5,h6⟩
def afk (Gs:Nat->Prop)(w:World)(Bo base tb tm:Nat)(X:Nat->Prop)(out:List Rec)(T:Tab)(v:Value)(e:Ending)(w':World):Prop:=e= .returned v/\Sep Gs w' Bo base tb tm X out T/\ε (one tm) w w'
theorem Sep.get (h:Sep Gs w Bo base tb tm X out T)(k:Int):Calls Tryz.prog 60 #[.pointer (some ⟨tb,0,none⟩),.int .i64 k] w (Q7 w T k):=by obtain⟨A,M,h1,h2,h3,h4⟩:=h;exact get_any M tb tm T k w h2
theorem Sep.put (h:Sep Gs w Bo base tb tm X out T)(hX: ∀k,X k->k<w.heap.size)(k:Int)(c:Cell)(v:Value)(hk:aH k)(hc1:aH c.1)(hc2: ∀x∈c.2,aH x)(hlen:c.2.length<=17592186044416)(hr:Reads w 1 v (ints c.2)):
 Calls Tryz.prog 112 #[.pointer (some ⟨tb,0,none⟩),.int .i64 k,.agg #[.int .i64 c.1,v]] w (afk Gs w Bo base tb tm X out (dH T k c) (.int .i64 (dW T k c.2.length))):=by
 obtain⟨A,M,h1,h2,h3,h4,h5,h6⟩:=h;have hm:=h2.hm;have hlt:=h1.lt;refine(put_any (fun j=>M j\/w.heap.size<=j) tb tm T k c v w (h2.mono (fun j h _=> .inl h)) (fun j h=> .inr h) hk hc1 hc2 hlen hr).mono ?_;rintro e w' ⟨rfl,t,k1⟩;refine⟨rfl,⟨fun j=>A j/\j<w.heap.size,_,?_,t,?_,?_,?_,?_⟩,k1⟩
 ·refine(h1.mono (A':=fun k=>base<=k/\A k/\k<w.heap.size) (fun k h hl=>⟨h.1,h.2,hl⟩)).kept k1 (fun e=>h4 (by unfold one at e;rw[e];exact hm)) (fun k h e=>h3 k h.2.1 (by unfold one at e;rw[e];exact hm))
 ·rintro j ⟨a,b⟩ (c|c)
  ·exact h3 j a c
  ·omega
 ·rintro(c|c)
  ·exact h4 c
  ·omega
 ·intro j hj
  refine⟨fun a=>(h5 j hj).1 a.1,?_,(h5 j hj).2.2⟩;rintro(a|a)
  ·exact(h5 j hj).2.1 a
  ·have:=hX j hj;omega
 ·rintro j (c|c)
  ·exact h6 j c
  ·right;omega
theorem Sep.drop (h:Sep Gs w Bo base tb tm X out T)(k:Int):Calls Tryz.prog 114 #[.pointer (some ⟨tb,0,none⟩),.int .i64 k] w (afk Gs w Bo base tb tm X out (dS k T) (.bool (bY T k).isSome)):=by obtain⟨A,M,h1,h2,h3,h4,h5,h6⟩:=h;have hm:=h2.hm;refine(abf M tb tm T k w h2).mono ?_;rintro e w' ⟨rfl,t,k1⟩;exact⟨rfl,⟨A,M,h1.kept k1 (fun e=>h4 (by unfold one at e;rw[e];exact hm)) (fun k h e=>h3 k h.2 (by unfold one at e;rw[e];exact hm)),t,h3,h4,h5,h6⟩,k1⟩
def abr (Gs:Nat->Prop)(w:World)(Bo base tb tm:Nat)(out:List Rec)(T:Tab)(e:Ending)(w':World):Prop:=
 e= .returned (.tuple #[])/\Sep Gs w' Bo base tb tm η out T/\ε (fun k=>k=Bo\/base<=k) w w'
theorem Sep.goes (h:Sep Gs w Bo base tb tm X out T)(r:Rec)(hb:base<=w.heap.size)(hlen:out.length<=1073741824):
 Calls Tryz.prog 104 #[sS r,.pointer (some ⟨Bo,0,none⟩)] w (abr Gs w Bo base tb tm (out++[r]) T):=by
 obtain⟨A,M,h1,h2,h3,h4,_,h6⟩:=h;have hlt:=h1.lt;refine(xI r out Bo base (fun k=>base<=k/\(A k\/w.heap.size<=k)) w (h1.mono (fun k h _=>⟨h.1,.inl h.2⟩)) hb (fun k hk=>⟨ω hb hk,.inr hk⟩) hlen).mono ?_;rintro e w' ⟨rfl,o,k1⟩;have t:TabAt w (fun j=>M j/\j<w.heap.size) tb tm T:=h2.mono (fun j h hl=>⟨h,hl⟩);have dis: ∀k,(k=Bo\/base<=k/\(A k\/w.heap.size<=k))->M k/\k<w.heap.size->False:=by
  rintro k (rfl|⟨_,a|a⟩) ⟨b,c⟩
  ·exact h4 b
  ·exact h3 k a b
  ·omega
 refine⟨rfl,⟨_,_,o,t.kept k1 (fun k hS hM _ _ _ _=>(dis k hS hM).elim) (fun hS=>dis _ hS t.hm),?_,fun h=>h4 h.1,fun _ h=>h.elim,fun k h=>h6 k h.1⟩,k1.mono (fun k _ h=>by rcases h with h|h;exact .inl h;exact .inr h.1)⟩;rintro k (a|a) ⟨b,c⟩
 ·exact h3 k a b
 ·omega
theorem Sep.jT (h:Sep Gs w Bo base tb tm X out T): ∀c E f,w.heap[tm]?≠some (.cells c E f):=by obtain⟨A,M,h1,h2,h3,h4⟩:=h;obtain⟨l,hl,_⟩:=h2.map;obtain⟨L,cl,hL,_⟩:=hl;intro c E f e;rw[hL.heap]at e;cases e
end
structure uS (Gs:Nat->Prop)(w0 w:World)(Bn Bi Bo Bg Bp base tb tm:Nat)(na:Array Value)(nd:dD)(v:Value)(L out:List Rec)(T:Tab):Prop where
 st:iD (one tm) w0 w Bn Bi Bo Bg base na nd v L out
 ptr:w.heap[Bp]?=some (.cells #[.pointer (some ⟨tb,0,none⟩)] 43 (0,0))
 lop:w0.heap.size<=Bp/\Bp<base/\Bp≠Bo/\tm<w0.heap.size
 sep:Sep Gs w Bo base tb tm η out T
def Dq (Gs:Nat->Prop)(w0:World)(Bn Bi Bo Bg Bp base tb tm:Nat)(na:Array Value)(nd:dD)(v:Value)(L out:List Rec)(T:Tab)(e:Ending)(w':World):Prop:=
 e= .returned (.tuple #[])/\uS Gs w0 w' Bn Bi Bo Bg Bp base tb tm na nd v L out T
theorem uS.next {Gs:Nat->Prop}{w0 w w':World}{Bn Bi Bo Bg Bp base tb tm:Nat}{na:Array Value}{nd:dD}{v:Value}{L out out':List Rec}{T T':Tab}(h:uS Gs w0 w Bn Bi Bo Bg Bp base tb tm na nd v L out T)
 {S':Nat->Prop} (hk:ε S' w w') (hS: ∀k,S' k->k=Bo\/base<=k\/k=tm) (hs:Sep Gs w' Bo base tb tm η out' T'):uS Gs w0 w' Bn Bi Bo Bg Bp base tb tm na nd v L out' T':=by
 obtain⟨l1,l2,l3,l4⟩:=h.lop;refine⟨h.st.next hk (fun k hk=>by rcases hS k hk with e|e|e;exact .inl e;exact .inr (.inl e);exact .inr (.inr e)) hs.row,hk.heap h.ptr (fun hk=>?_),h.lop,hs⟩
 rcases hS _ hk with e|e|e<;>omega
theorem uS.alloc {Gs:Nat->Prop}{w0 w:World}{Bn Bi Bo Bg Bp base tb tm:Nat}{na:Array Value}{nd:dD}{v:Value}{L out:List Rec}{T:Tab}(h:uS Gs w0 w Bn Bi Bo Bg Bp base tb tm na nd v L out T)(o:Obj):
 uS Gs w0 (w.alloc o) Bn Bi Bo Bg Bp base tb tm na nd v L out T:=
 h.next ((ε.refl η w).alloc o) (fun _ h=>h.elim) (h.sep.pure ((ε.refl η w).alloc o))
theorem yD {T:Tab}(h:eP T)(k:Int):G8 (cellOf T k):=by
 unfold cellOf
 cases hg:bY T k with
 |none=>exact⟨eX,by simp,by simp⟩
 |some c=>exact h.cell _ ((nS h.rises).1 hg)
end
section
open Go Go.RowKit
attribute [local irreducible] cZ
def EH (T:Tab)(r:Rec)(x:Int):List Rec:=if dW T r.key 0=0 then[{r with val:=x}]else[]
theorem SN {Gs:Nat->Prop}{w0 w:World}{Bn Bi Bo Bg Bp base tb tm:Nat}{na:Array Value}{nd:dD}{v:Value}{L out:List Rec}{T:Tab}(h:uS Gs w0 w Bn Bi Bo Bg Bp base tb tm na nd v L out T)(r:Rec)(hr:bQ r)(hlen:out.length<=1000000000):
 Calls Tryz.prog 111 #[sS r,eU (aI r),.pointer (some ⟨Bp,0,none⟩),.pointer (some ⟨Bn,0,none⟩),.pointer (some ⟨Bg,0,none⟩)] w
  (Dq Gs w0 Bn Bi Bo Bg Bp base tb tm na nd v L (out++EH T r (dA nd.x {aI r with acc:=(cellOf T r.key).1})) (dH T r.key (dA nd.x {aI r with acc:=(cellOf T r.key).1},[]))):=by
 obtain⟨uid,inv,p,cap,hna,hx,hk0,hk1,hn⟩:=h.st.zS;have dF:=h.st.node;rw[hna]at dF;clear hna;have x0:w.cell? ⟨Bn,3,none⟩=some (.int .u8 nd.x.op):=ζ dF rfl;have x1:w.cell? ⟨Bn,4,none⟩=some (.int .i64 nd.x.n):=ζ dF rfl;have x2:w.cell? ⟨Bn,5,none⟩=some (.slice p nd.x.args.length cap):=ζ dF rfl;have x3:w.cell? ⟨Bn,6,none⟩=some (.int .i64 nd.n):=ζ dF rfl;have g0:w.cell? ⟨Bg,0,none⟩=some (.func (.func 104) #[] #[.pointer (some ⟨Bo,0,none⟩)]):=ζ h.st.goes rfl;have p0:w.cell? ⟨Bp,0,none⟩=some (.pointer (some ⟨tb,0,none⟩)):=ζ h.ptr rfl;obtain⟨l1,l2,l3,l4⟩:=h.st.lo;obtain⟨i1,i2,i3,i4,i5⟩:=h.st.hi;obtain⟨lp1,lp2,lp3,lp4⟩:=h.lop;have hlb:Bn<w.heap.size:=(by omega);have Y1:Bg<w.heap.size:=(by omega);have hlp:Bp<w.heap.size:=(by omega);have H:=γ h;have HX:=γ hx;have HR:=γ hr;clear h hx hr dF;go_enter Tryz.func111,Tryz.ntmps111;go_wp2_with fail;obtain⟨W0,hW0⟩:=acf ((w.alloc (.cells #[.int .i64 r.pos,.int .i64 r.key,.int .i64 r.val] 68)).alloc (.cells #[.int .i64 (aI r).key,.int .i64 (aI r).val,.int .i64 (aI r).acc] 182));have k0:ε η w W0:=(by rw[<-hW0];exact(δ.alloc _).alloc _);have hsz2:w.heap.size+2<=W0.heap.size:=(by rw[<-hW0];simp);have hB:W0.heap[w.heap.size]?=some (.cells #[.int .i64 r.pos,.int .i64 r.key,.int .i64 r.val] 68 (0,0)):=(by rw[<-hW0];exact((ε.refl η (w.alloc (.cells #[.int .i64 r.pos,.int .i64 r.key,.int .i64 r.val] 68))).alloc _).heap (heap_alloc_new w (.cells #[.int .i64 r.pos,.int .i64 r.key,.int .i64 r.val] 68)) id);have hE:W0.heap[w.heap.size+1]?=some (.cells #[.int .i64 (aI r).key,.int .i64 (aI r).val,.int .i64 (aI r).acc] 182 (0,0)):=(by rw[<-hW0];have:=heap_alloc_new (w.alloc (.cells #[.int .i64 r.pos,.int .i64 r.key,.int .i64 r.val] 68)) (.cells #[.int .i64 (aI r).key,.int .i64 (aI r).val,.int .i64 (aI r).acc] 182);simpa[World.size_alloc]using this);rw[hW0];have c:=(H.o.sep.pure k0).get r.key;(with_reducible refine c.mono ?_);clear c;rintro e W1 ⟨lv,n',rfl,g1,g2,k1⟩;obtain⟨la,lc,rfl⟩:=au g1;have k2:ε η w W1:=k0.trans k1;have hB1:=k1.heap hB id;have hE1:=k1.heap hE id;have hsz3:w.heap.size+2<=W1.heap.size:=ω hsz2 k1.size;have y0:=k2.cell (p:=⟨Bn,3,none⟩) id x0;have y1:=k2.cell (p:=⟨Bn,4,none⟩) id x1;have y2:=k2.cell (p:=⟨Bn,5,none⟩) id x2;have y3:=k2.cell (p:=⟨Bn,6,none⟩) id x3;have gg:=k2.cell (p:=⟨Bg,0,none⟩) id g0;have pp:=k2.cell (p:=⟨Bp,0,none⟩) id p0;have b0:W1.cell? ⟨w.heap.size,0,none⟩=some (.int .i64 r.pos):=ζ hB1 rfl;have b1:W1.cell? ⟨w.heap.size,1,none⟩=some (.int .i64 r.key):=ζ hB1 rfl;have b2:W1.cell? ⟨w.heap.size,2,none⟩=some (.int .i64 r.val):=ζ hB1 rfl;have e0:W1.cell? ⟨w.heap.size+1,0,none⟩=some (.int .i64 (aI r).key):=ζ hE1 rfl;have e1:W1.cell? ⟨w.heap.size+1,1,none⟩=some (.int .i64 (aI r).val):=ζ hE1 rfl;have e2:W1.cell? ⟨w.heap.size+1,2,none⟩=some (.int .i64 (aI r).acc):=ζ hE1 rfl;have hco:=yD H.o.sep.ok r.key;have hcd:(bY T r.key).getD (0,[])=cellOf T r.key:=rfl;rw[hcd]at g1 g2⊢;clear x0 x1 x2 x3 g0 p0 k0 hW0 hB hE;obtain⟨acc,hacc⟩: ∃acc,(cellOf T r.key).1=acc:=⟨_,rfl⟩;have Gt:aH acc:=hacc▸hco.1;rw[hacc];obtain⟨env',VA⟩: ∃env':Env,({aI r with acc:=acc}:Env)=env':=⟨_,rfl⟩;have eo:iq env':=VA▸⟨HR.o.key,HR.o.val,Gt⟩;have f2:=free_at hE1 2;have f3:=free_at hB1 2;have hn1:Bn≠w.heap.size+1:=(by omega);have hn2:Bn≠W1.heap.size:=(by omega);have hn3:w.heap.size+1≠W1.heap.size:=(by omega);have hl1:w.heap.size+1<W1.heap.size:=(by omega);have hl2:w.heap.size<W1.heap.size:=(by omega);have hl3:Bn<W1.heap.size:=(by omega);have K2:=γ (θ k2 (θ hB1 hE1));have Un:=γ (θ VA eo);have afw:=γ hacc;clear g1 g2 k1 k2 hB1 hE1 hacc hco VA eo hcd;go_wp2_with fail;obtain⟨Wi,hWi⟩: ∃Wi,(W1.setCell ⟨w.heap.size+1,2,none⟩ (.int .i64 acc)).alloc (.cells #[.int .i64 acc,.slice la n' lc] 109)=Wi:=⟨_,rfl⟩;rw[hWi];have ki:ε (one (w.heap.size+1)) W1 Wi:=(by rw[<-hWi];exact((ε.refl (one (w.heap.size+1)) W1).setCell (p:=⟨w.heap.size+1,2,none⟩) (.inl rfl) _).alloc _);have kwi:ε η w Wi:=K2.o.1.new ki (fun i hi e=>by unfold one at e;omega);have c:=Dj nd.x _ env' Wi (aC.pure kwi HX.o) Un.o.2;rw[<-Un.o.1]at c;refine c.mono ?_;clear c;rintro e W2 ⟨rfl,k3⟩;rw[Un.o.1];have X64:=vW HX.o Un.o.2;obtain⟨X,hX⟩: ∃X,dA nd.x env'=X:=⟨_,rfl⟩;rw[hX]at X64⊢;have hB2:=k3.heap (ki.heap K2.o.2.1 (fun e=>by unfold one at e;omega)) id;have tJ:ε η w W2:=kwi.trans k3;have q0:W2.cell? ⟨w.heap.size,0,none⟩=some (.int .i64 r.pos):=ζ hB2 rfl;have q1:W2.cell? ⟨w.heap.size,1,none⟩=some (.int .i64 r.key):=ζ hB2 rfl;have q2:W2.cell? ⟨w.heap.size,2,none⟩=some (.int .i64 r.val):=ζ hB2 rfl;have q3:=free_at hB2 2;have q4:W2.cell? ⟨Bp,0,none⟩=some (.pointer (some ⟨tb,0,none⟩)):=ζ (tJ.heap H.o.ptr id) rfl;have hp1:Bp≠w.heap.size:=(by omega);have K4:=γ (θ tJ (θ hB2 X64));have HXX:=γ hX;clear k3 ki kwi hB2 tJ hWi X64 hX y0 y1 y2 y3 b0 b1 b2 e0 e1 e2 f2 f3 gg pp;go_wp2_with fail;have kp:ε η w (W2.setCell ⟨w.heap.size,2,none⟩ (.int .i64 X)):=K4.o.1.setCell (p:=⟨w.heap.size,2,none⟩) (.inr (ξ _)) _;have c:=(H.o.sep.pure kp).put (fun _ h=>h.elim) r.key (X,[]) (.slice none 0 0) HR.o.key K4.o.2.2 (by simp) (by simp) (Reads.nil _ _);refine c.mono ?_;clear c;rintro e W3 ⟨rfl,s3,k4⟩;have hB3:=k4.heap (bD K4.o.2.1 2 (.int .i64 X)) (fun e=>by unfold one at e;omega);have t0:W3.cell? ⟨w.heap.size,0,none⟩=some (.int .i64 r.pos):=ζ hB3 rfl;have t1:W3.cell? ⟨w.heap.size,1,none⟩=some (.int .i64 r.key):=ζ hB3 rfl;have t2:W3.cell? ⟨w.heap.size,2,none⟩=some (.int .i64 X):=ζ hB3 rfl;have t3:W3.cell? ⟨Bg,0,none⟩=some (.func (.func 104) #[] #[.pointer (some ⟨Bo,0,none⟩)]):=ζ (k4.heap (kp.heap H.o.st.goes id) (fun e=>by unfold one at e;omega)) rfl;have kk:ε (one tm) w W3:=kp.pure.trans k4;have S3:=γ (θ s3 kk);clear s3 kk k4 kp hB3;by_cases hp:dW T r.key 0=0
 ·have HP:=γ hp
  rw[show dW T r.key ((X,([]:List Int)):Int×List Int).2.length=0 from hp];clear hp;go_wp2_with fail;have c:=S3.o.1.goes {r with val:=X} (ω i5 S3.o.2.size) (by omega);refine c.mono ?_;clear c;rintro e W4 ⟨rfl,s4,k5⟩;have F:Dq Gs w0 Bn Bi Bo Bg Bp base tb tm na nd v L (out++EH T r X) (dH T r.key (X,[])) (.returned (.tuple #[])) W4:=(by refine⟨rfl,H.o.next (S':=fun k=>(k=Bo\/base<=k)\/k=tm) ((S3.o.2.mono (fun k _ e=> .inr e)).trans (k5.mono (fun k _ h=> .inl h))) (fun k h=>by rcases h with(h|h)|h;exact .inl h;exact .inr (.inl h);exact .inr (.inr h)) ?_⟩;unfold EH;rw[if_pos HP.o];exact s4);have F':=γ F;clear F s4 k5;go_wp2_with fail
  go_end0
  rw[afw.o,Un.o.1,HXX.o];exact F'.o
 ·have F:Dq Gs w0 Bn Bi Bo Bg Bp base tb tm na nd v L (out++EH T r X) (dH T r.key (X,[])) (.returned (.tuple #[])) W3:=by
   refine⟨rfl,H.o.next (S':=one tm) S3.o.2 (fun k h=> .inr (.inr h)) ?_⟩;unfold EH;rw[if_neg hp,List.append_nil];exact S3.o.1
  have F':=γ F;obtain⟨E,hE⟩: ∃E,dW T r.key ((X,([]:List Int)):Int×List Int).2.length=E:=⟨_,rfl⟩;have hE0:(E==0)=false:=(by rw[<-hE];have:dW T r.key ((X,([]:List Int)):Int×List Int).2.length=dW T r.key 0:=rfl;rw[this];simp[hp]);rw[hE];clear F hp hE;go_wp2_with fail
  go_end0
  rw[afw.o,Un.o.1,HXX.o];exact F'.o
def Ep (T:Tab)(key n:Int)(len:Nat):Prop:=dW T key len≠0\/((len:Nat):Int)<n
instance (T:Tab) (key n:Int) (len:Nat):Decidable (Ep T key n len):=by unfold Ep;exact inferInstance
def Eo (T:Tab)(r:Rec)(n:Int)(l:List Int):List Rec:=if Ep T r.key n l.length then[]else[{r with val:=sumW l}]
def En (T:Tab)(r:Rec)(n acc:Int)(l:List Int):Tab:=if Ep T r.key n l.length then dH T r.key (acc,l)else dS r.key (dH T r.key (acc,l))
theorem sumW_snoc {l:List Int}{k:Nat}{x:Int}(h:l[k]?=some x):sumW (l.take (k+1))=wrap64 (sumW (l.take k)+x):=by unfold sumW;rw[ψ,h,List.foldl_append];rfl
theorem Z8 (l:List Int):aH (sumW l):=by
 unfold sumW
 rcases List.eq_nil_or_concat l with rfl|⟨m,x,rfl⟩
 ·exact eX
 ·rw[List.concat_eq_append,List.foldl_append];exact mJ _
theorem own_ne {w:World}{base e size n t E:Nat}{v:Value}{xs:List Value}{f:Nat×Nat}{cs:Array Value}(h:w.ownsRow base e size v n xs)(ht:w.heap[t]?=some (.cells cs E f))(hne:E≠e): ∀k,Value.blk v=some k->k≠t:=by
 intro k hk ek
 rcases h.2 with⟨e',_⟩|⟨g,cap',cur,e',_,hg,_⟩
 ·rw[e']at hk;simp[Value.blk]at hk
 ·rw[e']at hk
  by_cases hn:n=0
  ·simp[Value.blk,hn]at hk
  ·simp[Value.blk,hn]at hk
   subst ek;rw[<-hk,hg]at ht
   injection ht with ht
   injection ht with _ ht _
   exact hne ht.symm
theorem RZ (l m:List Int):ints (l++m)=ints l++ints m:=by unfold ints;rw[abM]
theorem SL {Gs:Nat->Prop}{w0 w:World}{Bn Bi Bo Bg Bp base tb tm:Nat}{na:Array Value}{nd:dD}{v:Value}{L out:List Rec}{T:Tab}(h:uS Gs w0 w Bn Bi Bo Bg Bp base tb tm na nd v L out T)(r:Rec)(hr:bQ r)(hlen:out.length<=1000000000):
 Calls Tryz.prog 113 #[sS r,eU (aI r),.pointer (some ⟨Bp,0,none⟩),.pointer (some ⟨Bn,0,none⟩),.pointer (some ⟨Bg,0,none⟩)] w
  (Dq Gs w0 Bn Bi Bo Bg Bp base tb tm na nd v L (out++Eo T r nd.n ((cellOf T r.key).2++[r.val])) (En T r nd.n (cellOf T r.key).1 ((cellOf T r.key).2++[r.val]))):=by
 obtain⟨uid,inv,p,cap,hna,hx,hk0,hk1,hn⟩:=h.st.zS;have dF:=h.st.node;rw[hna]at dF;clear hna;have x0:w.cell? ⟨Bn,3,none⟩=some (.int .u8 nd.x.op):=ζ dF rfl;have x1:w.cell? ⟨Bn,4,none⟩=some (.int .i64 nd.x.n):=ζ dF rfl;have x2:w.cell? ⟨Bn,5,none⟩=some (.slice p nd.x.args.length cap):=ζ dF rfl;have x3:w.cell? ⟨Bn,6,none⟩=some (.int .i64 nd.n):=ζ dF rfl;have g0:w.cell? ⟨Bg,0,none⟩=some (.func (.func 104) #[] #[.pointer (some ⟨Bo,0,none⟩)]):=ζ h.st.goes rfl;have p0:w.cell? ⟨Bp,0,none⟩=some (.pointer (some ⟨tb,0,none⟩)):=ζ h.ptr rfl;obtain⟨l1,l2,l3,l4⟩:=h.st.lo;obtain⟨i1,i2,i3,i4,i5⟩:=h.st.hi;obtain⟨lp1,lp2,lp3,lp4⟩:=h.lop;have hlb:Bn<w.heap.size:=(by omega);have Y1:Bg<w.heap.size:=(by omega);have hlp:Bp<w.heap.size:=(by omega);have H:=γ h;have HX:=γ hx;have HR:=γ hr;clear h hx hr dF;go_enter Tryz.func113,Tryz.ntmps113;go_wp2_with fail;obtain⟨W0,hW0⟩:=acf ((w.alloc (.cells #[.int .i64 r.pos,.int .i64 r.key,.int .i64 r.val] 68)).alloc (.cells #[.int .i64 (aI r).key,.int .i64 (aI r).val,.int .i64 (aI r).acc] 182));have k0:ε η w W0:=(by rw[<-hW0];exact(δ.alloc _).alloc _);have hsz2:w.heap.size+2<=W0.heap.size:=(by rw[<-hW0];simp);have hB:W0.heap[w.heap.size]?=some (.cells #[.int .i64 r.pos,.int .i64 r.key,.int .i64 r.val] 68 (0,0)):=(by rw[<-hW0];exact((ε.refl η (w.alloc (.cells #[.int .i64 r.pos,.int .i64 r.key,.int .i64 r.val] 68))).alloc _).heap (heap_alloc_new w (.cells #[.int .i64 r.pos,.int .i64 r.key,.int .i64 r.val] 68)) id);have hE:W0.heap[w.heap.size+1]?=some (.cells #[.int .i64 (aI r).key,.int .i64 (aI r).val,.int .i64 (aI r).acc] 182 (0,0)):=by rw[<-hW0];have:=heap_alloc_new (w.alloc (.cells #[.int .i64 r.pos,.int .i64 r.key,.int .i64 r.val] 68)) (.cells #[.int .i64 (aI r).key,.int .i64 (aI r).val,.int .i64 (aI r).acc] 182);simpa[World.size_alloc]using this
 rw[hW0];have c:=(H.o.sep.pure k0).get r.key;(with_reducible refine c.mono ?_);clear c;rintro e W1 ⟨lv,n',rfl,g1,g2,k1⟩;obtain⟨la,lc,rfl⟩:=au g1;have k2:ε η w W1:=k0.trans k1;have hB1:=k1.heap hB id;have hE1:=k1.heap hE id;have hsz3:w.heap.size+2<=W1.heap.size:=ω hsz2 k1.size;have y0:=k2.cell (p:=⟨Bn,3,none⟩) id x0;have y1:=k2.cell (p:=⟨Bn,4,none⟩) id x1;have y2:=k2.cell (p:=⟨Bn,5,none⟩) id x2;have y3:=k2.cell (p:=⟨Bn,6,none⟩) id x3;have gg:=k2.cell (p:=⟨Bg,0,none⟩) id g0;have pp:=k2.cell (p:=⟨Bp,0,none⟩) id p0;have b0:W1.cell? ⟨w.heap.size,0,none⟩=some (.int .i64 r.pos):=ζ hB1 rfl;have b1:W1.cell? ⟨w.heap.size,1,none⟩=some (.int .i64 r.key):=ζ hB1 rfl;have b2:W1.cell? ⟨w.heap.size,2,none⟩=some (.int .i64 r.val):=ζ hB1 rfl;have e0:W1.cell? ⟨w.heap.size+1,0,none⟩=some (.int .i64 (aI r).key):=ζ hE1 rfl;have e1:W1.cell? ⟨w.heap.size+1,1,none⟩=some (.int .i64 (aI r).val):=ζ hE1 rfl;have e2:W1.cell? ⟨w.heap.size+1,2,none⟩=some (.int .i64 (aI r).acc):=ζ hE1 rfl;have hco:=yD H.o.sep.ok r.key;have Gp:=g1.lt;have hcd:(bY T r.key).getD (0,[])=cellOf T r.key:=rfl;rw[hcd]at g1 g2⊢;clear x0 x1 x2 x3 g0 p0 k0 hW0 hB hE;obtain⟨acc,hacc⟩: ∃acc,(cellOf T r.key).1=acc:=⟨_,rfl⟩;obtain⟨old,hold⟩: ∃old,(cellOf T r.key).2=old:=⟨_,rfl⟩;have Gt:aH acc:=hacc▸hco.1;have YX: ∀x∈old,aH x:=hold▸hco.2.1;have aek:old.length<=16:=hold▸hco.2.2;rw[hold]at g1;rw[hacc];obtain⟨l,hl⟩: ∃l,old++[r.val]=l:=⟨_,rfl⟩;have aev:l.length<=17:=(by rw[<-hl];simp;omega);have aeu: ∀x∈l,aH x:=by
  intro x hx;rw[<-hl]at hx
  rcases abL.1 hx with hx|hx
  ·exact YX x hx
  ·simp at hx;subst hx;exact HR.o.val
 obtain⟨i,z,hi,hz,hs,hby,hzs⟩: ∃i z,Tryz.prog.info? 2=some i/\i.zero=some z/\i.size=1/\i.bytes=8/\z.cells.size=1:=(by obtain⟨i,h1,h2,h3,h4⟩:=info_parts Tryz.info2;exact⟨i,_,h1,h2,h3,h4,rfl⟩);obtain⟨Wa,hWa⟩: ∃Wa,(W1.alloc (.cells #[.int .i64 acc,.slice la n' lc] 109)).alloc (.cells #[.int .i64 r.val] 2)=Wa:=⟨_,rfl⟩;have ka:ε η W1 Wa:=(by rw[<-hWa];exact(δ.alloc _).alloc _);have hC:Wa.heap[W1.heap.size]?=some (.cells #[.int .i64 acc,.slice la n' lc] 109 (0,0)):=(by rw[<-hWa];exact((ε.refl η (W1.alloc (.cells #[.int .i64 acc,.slice la n' lc] 109))).alloc _).heap (heap_alloc_new W1 (.cells #[.int .i64 acc,.slice la n' lc] 109)) id);have hrd:Reads Wa 1 (.slice (some ⟨W1.heap.size+1,0,none⟩) 1 1) (ints [r.val]):=(by have:=Reads.lit (W1.alloc (.cells #[.int .i64 acc,.slice la n' lc] 109)) (ints [r.val]) 2 1 1 rfl (by unfold maxLen;omega);rw[World.size_alloc]at this;rw[<-hWa];exact this);have g1a:=ka.owns g1 (fun _ _ h=>h);have ahQ:n'<=16:=(by have:=g1.1;simp at this;omega);obtain⟨v',n2,w',a1,a2,a3,a4,a5⟩:=aW (P:=Tryz.prog) _ 97 97 2 i z 1 8 Tryz.underlying97 hi hz hs hby hzs (by omega) g1a hrd (mQ [r.val]) (by simp;omega) (by unfold maxLen;simp;omega) (ω k1.size ka.size);rw[<-RZ,hl]at a2;obtain⟨va,vc,rfl⟩:=au a2;have hn2:n2=l.length:=(by have:=a2.1;simp at this;omega);subst hn2;have hown: ∀k,(Value.slice la n' lc).ownBlock=some k->W0.heap.size<=k/\k<W1.heap.size:=fun k hk=>Gp k hk;have kw':ε η w w':=k2.new (ka.pure.trans (ε.grown (S:=fun k=>W0.heap.size<=k/\k<W1.heap.size) a4 (fun k hk _=>hown k hk))) (fun i hi h=>by omega);have hB2:w'.heap[w.heap.size]?=_:=(a4.block w.heap.size (by have:=ka.size;omega) (fun e=>by have:=hown _ e.symm;omega)).trans (ka.heap hB1 id);have hC2:w'.heap[W1.heap.size]?=_:=(a4.block W1.heap.size (by have:=(κ.1 hC).1;omega) (fun e=>by have:=hown _ e.symm;omega)).trans hC;have hrow:=Reads.aN a2;have aaS:=own_ne a2 hC2 (by omega);have abV:=own_ne a2 hB2 (by omega);have A1:=γ a1;rw[<-hWa]at A1;have hc1:w'.cell? ⟨W1.heap.size,1,none⟩=some (.slice la n' lc):=ζ hC2 rfl;have hc0:w'.cell? ⟨W1.heap.size,0,none⟩=some (.int .i64 acc):=ζ hC2 rfl;have fc1:=free_at hC2 1;have hq0:w'.cell? ⟨w.heap.size,0,none⟩=some (.int .i64 r.pos):=ζ hB2 rfl;have hq1:w'.cell? ⟨w.heap.size,1,none⟩=some (.int .i64 r.key):=ζ hB2 rfl;have hq2:w'.cell? ⟨w.heap.size,2,none⟩=some (.int .i64 r.val):=ζ hB2 rfl;have hp0:w'.cell? ⟨Bp,0,none⟩=some (.pointer (some ⟨tb,0,none⟩)):=ζ (kw'.heap H.o.ptr id) rfl;have hpne:Bp≠W1.heap.size:=(by omega);have hsne:w.heap.size≠W1.heap.size:=(by omega);have BQ:ε (one W1.heap.size) w' (w'.setCell ⟨W1.heap.size,1,none⟩ (.slice va l.length vc)):=(ε.refl (one W1.heap.size) w').setCell (p:=⟨W1.heap.size,1,none⟩) (.inl rfl) _;have hC3:=bD hC2 1 (.slice va l.length vc);have hB3:=BQ.heap hB2 (fun e=>by unfold one at e;omega);have hrow3:=hrow.kept BQ (fun b hb e=>aaS b hb e);have um:ε η w (w'.setCell ⟨W1.heap.size,1,none⟩ (.slice va l.length vc)):=kw'.new BQ (fun i hi e=>by unfold one at e;omega);have K3:=γ (θ um (θ hB3 (θ hC3 (θ hrow3 (θ aaS abV)))));have HL:=γ (θ aeu (θ Gt aev));have G7:=γ (θ hacc (θ hold hl));clear a1 a2 a3 a4 a5 hC hrd g1a ahQ hown kw' hB2 hC2 hrow aaS abV BQ hC3 hB3 hrow3 um aeu Gt aev hacc hold hl YX aek hco hcd g1 g2 Gp hWa ka hi hz hs hby hzs k1 k2 hB1 hE1 e0 e1 e2 gg y0 y1 y2 b0 b1 y3;have hlt1:w.heap.size<W1.heap.size:=(by omega);go_wp2_with (at_builtin;refine wpList_append_run rfl (.tmp 19) (.tmp 22) 97 rfl _ _ _ rfl rfl A1.o ?_);obtain⟨Wp,hWp⟩: ∃Wp,w'.setCell ⟨W1.heap.size,1,none⟩ (.slice va l.length vc)=Wp:=⟨_,rfl⟩;rw[hWp]at K3⊢;have c:=(H.o.sep.enter K3.o.1 (Y:=one w.heap.size) (fun k e=>by unfold one at e;omega)).put (fun k e=>by unfold one at e;have:=(κ.1 K3.o.2.1).1;omega) r.key (acc,l) (.slice va l.length vc) HR.o.key HL.o.2.1 HL.o.1 (by have:=HL.o.2.2;simp;omega) K3.o.2.2.2.1;(with_reducible refine c.mono ?_);clear c;rintro e W3 ⟨rfl,s3,k4⟩;have kW3:ε (one tm) w W3:=K3.o.1.pure.trans k4;have hB4:=k4.heap K3.o.2.1 (fun e=>by unfold one at e;omega);have hC4:=k4.heap K3.o.2.2.1 (fun e=>by unfold one at e;omega);have t0:W3.cell? ⟨w.heap.size,0,none⟩=some (.int .i64 r.pos):=ζ hB4 rfl;have t1:W3.cell? ⟨w.heap.size,1,none⟩=some (.int .i64 r.key):=ζ hB4 rfl;have t2:W3.cell? ⟨w.heap.size,2,none⟩=some (.int .i64 r.val):=ζ hB4 rfl;have t3:W3.cell? ⟨W1.heap.size,1,none⟩=some (.slice va l.length vc):=ζ hC4 rfl;obtain⟨uid,inv,p',cap',hna,_,_,_,_⟩:=H.o.st.zS;have dF:=H.o.st.node;rw[hna]at dF;have t4:W3.cell? ⟨Bn,6,none⟩=some (.int .i64 nd.n):=ζ (kW3.heap dF (fun e=>by unfold one at e;omega)) rfl;have t5:W3.cell? ⟨Bp,0,none⟩=some (.pointer (some ⟨tb,0,none⟩)):=ζ (kW3.heap H.o.ptr (fun e=>by unfold one at e;omega)) rfl;have S3:=γ (θ s3 (θ kW3 (θ hB4 (θ hC4 k4))));have HWp:=γ hWp;clear s3 kW3 hB4 hC4 k4 hna dF hc0 hc1 fc1 hq0 hq1 hq2 hp0 hWp b2;have fin0:Ep T r.key nd.n l.length->Dq Gs w0 Bn Bi Bo Bg Bp base tb tm na nd v L (out++Eo T r nd.n l) (En T r nd.n acc l) (.returned (.tuple #[])) W3:=(by intro hw;refine⟨rfl,H.o.next (S':=one tm) S3.o.2.1 (fun k h=> .inr (.inr h)) ?_⟩;unfold Eo En;rw[if_pos hw,if_pos hw,List.append_nil];exact S3.o.1.leave);have F0:=γ fin0;clear fin0;by_cases hp:dW T r.key l.length=0
 ·rw[show dW T r.key ((acc,l):Int×List Int).2.length=0 from hp]
  by_cases hn0:((l.length:Nat):Int)<nd.n
  ·have hn1:decide (((l.length:Nat):Int)<nd.n)=true:=decide_eq_true hn0
   have F:=γ (F0.o (.inr hn0));clear F0 hp;go_wp2_with fail
   go_end0
   rw[G7.o.1,G7.o.2.1,G7.o.2.2];exact F.o
  ·have hn1:decide (((l.length:Nat):Int)<nd.n)=false:=decide_eq_false hn0
   have hnb: ¬Ep T r.key nd.n l.length:=(by rintro(h|h);exact h hp;exact hn0 h);have HNB:=γ hnb;clear hnb F0 hp;go_wp2_with fail;have c:=S3.o.1.drop r.key;(with_reducible refine c.mono ?_);clear c;rintro e W4 ⟨rfl,s4,k5⟩;have kW4:ε (one tm) w W4:=S3.o.2.1.trans k5;have Gv:=k5.heap S3.o.2.2.1 (fun e=>by unfold one at e;omega);have hC5:=k5.heap S3.o.2.2.2.1 (fun e=>by unfold one at e;omega)
   have Vs:Reads W4 1 (.slice va l.length vc) (ints l):=K3.o.2.2.2.1.kept (S3.o.2.2.2.2.trans k5) (fun b hb e=>by
    unfold one at e;obtain⟨c,E,f,hc⟩:=K3.o.2.2.2.1.isCells (by omega) hb;rw[e]at hc
    exact(H.o.sep.pure K3.o.1).jT _ _ _ hc)
   obtain⟨ra,rc,re,rc1,rc2,sW⟩:=Vs.at;have hfz:=free_at Gv 2;have hs2:W4.cell? ⟨w.heap.size,2,none⟩=some (.int .i64 r.val):=ζ Gv rfl;have hs5:W4.cell? ⟨W1.heap.size,1,none⟩=some (.slice va l.length vc):=ζ hC5 rfl;have kz:ε (one w.heap.size) W4 (W4.setCell ⟨w.heap.size,2,none⟩ (.int .i64 0)):=(ε.refl (one w.heap.size) W4).setCell (p:=⟨w.heap.size,2,none⟩) (.inl rfl) _;have hz5:=bD Gv 2 (.int .i64 0);have G:=γ (θ s4 (θ kW4 (θ Vs (θ kz hz5))));have HRC:=γ (θ re sW);clear s4 kW4 Gv hC5 Vs k5 kz hz5 re sW t0 t1 t2 t3 t4 t5;go_wp2_with fail;obtain⟨W5,tV⟩: ∃W5,W4.setCell ⟨w.heap.size,2,none⟩ (.int .i64 0)=W5:=⟨_,rfl⟩;rw[tV]at G⊢;clear tV hfz hs2 hs5;go_loopg [47] l.length (fun g vi wr=> ∃k:Nat,k<=l.length/\vi= .int .i64 (k:Int)/\l.length-k<=g/\wr.heap[w.heap.size]?=some (.cells #[.int .i64 r.pos,.int .i64 r.key,.int .i64 (sumW (l.take k))] 68 (0,0))/\ε (one w.heap.size) W4 wr)
   case atStart=>exact⟨0,by omega,rfl,by omega,by simpa[sumW]using G.o.2.2.2.2,G.o.2.2.2.1⟩
   case round=>
    obtain⟨k,hkl,rfl,hg,hrow,hkp⟩:=hrel;have u0:wr.cell? ⟨w.heap.size,0,none⟩=some (.int .i64 r.pos):=ζ hrow rfl;have u1:wr.cell? ⟨w.heap.size,1,none⟩=some (.int .i64 r.key):=ζ hrow rfl;have u2:wr.cell? ⟨w.heap.size,2,none⟩=some (.int .i64 (sumW (l.take k))):=ζ hrow rfl;have u3:=free_at hrow 2;have hrd:Reads wr 1 (.slice va l.length vc) (ints l):=G.o.2.2.1.kept hkp (fun b hb e=>K3.o.2.2.2.2.2 b hb e);by_cases hlt:k<l.length
    ·obtain⟨x,hx⟩: ∃x,l[k]?=some x:=⟨_,ι hlt⟩
     obtain⟨ra',rc',re',_,_,Yb⟩:=hrd.at;cases re';obtain⟨b,off,rfl,hcl⟩:=Yb.resolve_left (fun h=>by rw[h]at hx;cases hx);have hxc:=hcl k x hx;have hst:=bD hrow 2 (.int .i64 (sumW (l.take (k+1))));rw[sumW_snoc hx]at hst;have ks2:ε (one w.heap.size) W4 (wr.setCell ⟨w.heap.size,2,none⟩ (.int .i64 (wrap64 (sumW (l.take k)+x)))):=hkp.setCell (p:=⟨w.heap.size,2,none⟩) (.inl rfl) _;have Z:=γ (θ hg (θ hst (θ ks2 (sumW_snoc hx))));have s64:=Z8 (l.take k);obtain⟨sm1,sm2⟩:=s64;obtain⟨sk,hsk⟩: ∃sk,sumW (l.take k)=sk:=⟨_,rfl⟩;rw[hsk]at u2 sm1 sm2 Z;have hk17:k<17:=(by have:=HL.o.2.2;omega);have x64:=HL.o.1 x (ς hx);clear hsk hst ks2 hcl Yb hrd hrow hkp hg hx u0 u1;go_wp2_with fail;go_roundg (l.length-(k+1))
     case rel=>exact⟨k+1,by omega,by go_num,ξ _,by rw[Z.o.2.2.2];exact Z.o.2.1,Z.o.2.2.1⟩
     case measure=>have:=Z.o.1;omega
    ·have hkk:k=l.length:=by omega
     subst hkk;rw[χ (ξ _)]at u2;have u4:wr.cell? ⟨Bg,0,none⟩=some (.func (.func 104) #[] #[.pointer (some ⟨Bo,0,none⟩)]):=ζ (hkp.heap (G.o.2.1.heap H.o.st.goes (fun e=>by unfold one at e;omega)) (fun e=>by unfold one at e;omega)) rfl;have Pz:ε (one tm) w wr:=G.o.2.1.new hkp (fun i hi e=>by unfold one at e;omega);have adB:Sep Gs wr Bo base tb tm η out (dS r.key (dH T r.key (acc,l))):=(G.o.1.foreign hkp (fun k e=>e)).leave;have Z:=γ (θ Pz adB);clear Pz adB hrd hrow hkp hg;go_wp2_with fail;have c:=Z.o.2.goes {r with val:=sumW l} (ω i5 Z.o.1.size) (by omega);refine c.mono ?_;clear c;rintro e W6 ⟨rfl,s6,k6⟩;have F:Dq Gs w0 Bn Bi Bo Bg Bp base tb tm na nd v L (out++Eo T r nd.n l) (En T r nd.n acc l) (.returned (.tuple #[])) W6:=(by refine⟨rfl,H.o.next (S':=fun k=>(k=Bo\/base<=k)\/k=tm) ((Z.o.1.mono (fun k _ e=> .inr e)).trans (k6.mono (fun k _ h=> .inl h))) (fun k h=>by rcases h with(h|h)|h;exact .inl h;exact .inr (.inl h);exact .inr (.inr h)) ?_⟩;unfold Eo En;rw[if_neg HNB.o,if_neg HNB.o];exact s6);have F':=γ F;clear F s6 k6;go_wp2_with fail
     go_end0
     rw[G7.o.1,G7.o.2.1,G7.o.2.2];exact F'.o
 ·have F:=γ (F0.o (.inl hp))
  obtain⟨E,hE⟩: ∃E,dW T r.key ((acc,l):Int×List Int).2.length=E:=⟨_,rfl⟩;have hE0:(E !=0)=true:=(by rw[<-hE];have:dW T r.key ((acc,l):Int×List Int).2.length=dW T r.key l.length:=rfl;rw[this];simp[hp]);rw[hE];clear F0 hp hE;go_wp2_with fail
  go_end0
  rw[G7.o.1,G7.o.2.1,G7.o.2.2];exact F.o
end
