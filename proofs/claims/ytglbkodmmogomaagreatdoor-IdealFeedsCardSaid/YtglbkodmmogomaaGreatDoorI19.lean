/- expr's reader: unary; rows of signs. -/
import Derived.Test.YtglbkodmmogomaaGreatDoorI18
import Derived.Test.YtglbkodmmogomaaGreatDoorI17
set_option linter.unusedVariables false
set_option linter.unusedSimpArgs false
set_option maxHeartbeats 4000000
set_option maxRecDepth 100000
namespace Go.Proofs.YtglbkodmmogomaaGreatDoor
open Go Go.RowKit
attribute [local irreducible] cZ
theorem qI.wrap {w w4 w5:World}{R:Nat}{e:Int}{x:Ex}{l':List Tok}{p:Option Addr}{c:Nat}{D:Nat->Prop}(hR:R<w.heap.size)(hk4:ε (one R) w w4)(hs4:w.heap.size<w4.heap.size)(hx:lG w5 D (iZ x p c).toArray x)
 (hD: ∀k,D k->w4.heap.size<=k/\k<w5.heap.size) (hr:iH w5 R l' e) (hk:ε (one R) w4 w5) {x0 x1 x2:Value} (hT:w5.heap[w.heap.size]?=some (.cells #[x0,x1,x2] 40 (0,0))):
 qI w R e x l' (.returned (.agg (iZ x p c).toArray)) (((w5.setCell ⟨w.heap.size,0,none⟩ (.int .u8 x.op)).setCell ⟨w.heap.size,1,none⟩ (.int .i64 x.n)).setCell ⟨w.heap.size,2,none⟩ (.slice p x.args.length c)):=by
 obtain⟨_,k3⟩:=jE hT (.int .u8 x.op) (.int .i64 x.n) (.slice p x.args.length c);refine⟨p,c,D,rfl,hx.kept k3 (fun k hk hs=>by have:=hD k hk;unfold one at hs;omega),fun k hk=>?_,hr.mD k3 (fun k hk=>by unfold one at hk;omega),(hk4.trans hk).new k3 (fun i hi hs=>by unfold one at hs;omega)⟩;have:=hD k hk;have:=k3.size;omega
theorem F5 {l:List Tok}{r:Ex×List Tok}(h:zW l=some r){s:ByteArray}(h1:s≠keyS)(h2:s≠G9)(h3:s≠QI):lH s l=none:=by
 cases l with
 |nil=>cases h
 |cons t q=>
  refine zl (.inr (.inr fun e=>?_));unfold zW at h;simp only at h;split at h
  ·cases h
  ·rw[e,if_neg h1,if_neg h2,if_neg h3]at h;cases h
theorem UY (R:Nat)(e:Int):JQ 278 R e zW:=by intro w l l' x h hl;have hlt:=h.lt;have kA:ε η w (w.alloc (.cells #[.int .u8 0,.int .i64 0,.slice none 0 0] 40)):=δ.alloc _;have tA:(w.alloc (.cells #[.int .u8 0,.int .i64 0,.slice none 0 0] 40)).heap[w.heap.size]?=some (.cells #[.int .u8 0,.int .i64 0,.slice none 0 0] 40 (0,0)):=heap_alloc_new _ _;have n1:lH ⟨#[45]⟩ l=none:=F5 hl (by decide) (by decide) (by decide);have n2:lH ⟨#[33]⟩ l=none:=F5 hl (by decide) (by decide) (by decide);have c1:=uG R l e ⟨#[45]⟩ _ (h.pure kA);have H:=γ (θ kA (θ tA hl));clear kA tA h hl;go_enter Tryz.func278,Tryz.ntmps278;go_wp2_with fail;(with_reducible refine c1.mono ?_);clear c1;rintro e' w2 hq;obtain⟨rfl,r2,k2⟩:=hq.no n1;have c2:=uG R l e ⟨#[33]⟩ w2 r2;have kq:=H.o.1.pure.trans k2;have t2:=k2.heap H.o.2.1 (fun h=>by unfold one at h;omega);have K2:=γ (θ kq t2);clear hq r2 k2 n1 kq t2;go_wp2_with fail;(with_reducible refine c2.mono ?_);clear c2;rintro e' w3 hq;obtain⟨rfl,r3,k3⟩:=hq.no n2;have c3:=aaj R e w3 l l' x r3 H.o.2.2;have kq:=K2.o.1.trans k3;have t3:=k3.heap K2.o.2 (fun h=>by unfold one at h;omega);have K3:=γ (θ kq t3);clear hq r3 k3 n2 kq t3 K2;go_wp2_with fail;(with_reducible refine c3.mono ?_);clear c3;rintro e' w5 ⟨p,c,D,rfl,hx,hD,r5,k5⟩;have t5:=k5.heap K3.o.2 (fun h=>by unfold one at h;omega);have f0:=free_at t5 0;have f1:=free_at t5 1;have f2:=free_at t5 2;have z0:=ζ t5 (j:=0) rfl;have z1:=ζ t5 (j:=1) rfl;have z2:=ζ t5 (j:=2) rfl;have F:=qI.wrap hlt K3.o.1 (κ.1 K3.o.2).1 hx hD r5 k5 t5;have s5:=(jE t5 (.int .u8 x.op) (.int .i64 x.n) (.slice p x.args.length c)).1;have hs5:w.heap.size<w5.heap.size:=(κ.1 t5).1;clear hx hD r5 k5 t5;go_wp2_with fail;obtain⟨WF,lI⟩: ∃WF,(((w5.setCell ⟨w.heap.size,0,none⟩ (.int .u8 x.op)).setCell ⟨w.heap.size,1,none⟩ (.int .i64 x.n)).setCell ⟨w.heap.size,2,none⟩ (.slice p x.args.length c))=WF:=⟨_,rfl⟩;rw[lI]at s5 F⊢;have q0:=ζ s5 (j:=0) rfl;have q1:=ζ s5 (j:=1) rfl;have q2:=ζ s5 (j:=2) rfl;refine bodyPost_ret (v:= .agg (iZ x p c).toArray) (by simp[results,Tryz.results278,go_sem,q0,q1,q2]) rfl F
def rowP (pl:List Tok->Option (Ex×List Tok))(sg:List sF):Nat->Ex->List Tok->Option (Ex×List Tok)
 |0,x,l=>some (x,l)
 |f+1,x,l=>match firstT sg l 0 with
  |none=>some (x,l)
  |some r=>match pl r.2.2 with
   |none=>none
   |some q=>rowP pl sg f (.mk r.2.1 0 [x,q.1]) q.2
def xk (pl:List Tok->Option (Ex×List Tok))(sg:List sF)(most:Nat)(l:List Tok):Option (Ex×List Tok):=match pl l with|none=>none|some q=>rowP pl sg most q.1 q.2
theorem GK: ∀{sg:List sF}{l:List Tok}{k:Nat}{r:Nat×Int×List Tok},firstT sg l k=some r-> ∃s,k<=r.1/\sg[r.1-k]?=some s/\s.2=r.2.1
 |[],_,_,_,h=>by cases h
 |s::sg,l,k,r,h=>by
  unfold firstT at h;split at h
  ·injection h with h;subst h
   exact⟨s,ξ _,by simp,rfl⟩
  ·obtain⟨u,h1,h2,h3⟩:=GK h
   refine⟨u,by omega,?_,h3⟩;rw[show r.1-k=(r.1-(k+1))+1 by omega];simpa using h2
structure VU (w wr:World)(R _B X:Nat)(e:Int)(x:Ex)(l:List Tok)(p:Option Addr)(c:Nat):Prop where
 rd:iH wr R l e
 ex: ∃D,lG wr D (iZ x p c).toArray x/\ ∀k,D k->w.heap.size+2<=k/\k≠X/\k<wr.heap.size
 xs:wr.heap[X]?=some (.cells (iZ x p c).toArray 40 (0,0))
 tt: ∃x0 x1 x2,wr.heap[w.heap.size+1]?=some (.cells #[x0,x1,x2] 40 (0,0))
 box:wr.cell? ⟨w.heap.size,0,none⟩=some (.pointer (some ⟨R,0,none⟩))
 xb:w.heap.size+2<=X
 kept:ε (fun q=>q=R\/w.heap.size<=q) w wr
theorem y9 (R:Nat)(e:Int)(F:FuncId)(pl:List Tok->Option (Ex×List Tok))(hent: ∀(args:Array Value)(w:World),(callFunc F args).run Tryz.prog w= .ok (.enter F args) w)(hF:JQ F R e pl)
 (sg:List sF) (sb:Nat) (most:Nat) (w:World) (l l':List Tok) (x:Ex) (h:iH w R l e) (hl:xk pl sg most l=some (x,l')) (hm:most<=400) (hsl:sg.length<=10) (hsr:sb≠R) (hsc: ∀s∈sg,0<=s.2/\s.2<=255)
 (hsg: ∀(i:Nat)(s:sF),sg[i]?=some s->w.cell? ⟨sb,i*2,none⟩=some (.string s.1)/\w.cell? ⟨sb,i*2+1,none⟩=some (.int .u8 s.2)) (hsb:sb<w.heap.size):
 Calls Tryz.prog 229 #[.pointer (some ⟨R,0,none⟩),.func (.func F) #[.pointer (some ⟨R,0,none⟩)] #[],.int .i64 (most:Int),.slice (some ⟨sb,0,none⟩) sg.length sg.length] w (qI w R e x l'):=by
 have hlt:=h.lt;unfold xk at hl
 obtain⟨q,hq⟩: ∃q,pl l=some q:=by
  cases e':pl l with
  |none=>rw[e']at hl;cases hl
  |some q=>exact⟨q,rfl⟩
 rw[hq]at hl;simp only at hl;obtain⟨x1,l1⟩:=q;simp only at hl;obtain⟨W0,hW0⟩: ∃W0,((w.alloc (.cells #[.pointer (some ⟨R,0,none⟩)] 272)).alloc (.cells #[.int .u8 0,.int .i64 0,.slice none 0 0] 40))=W0:=⟨_,rfl⟩;have k0:ε η w W0:=(by rw[<-hW0];exact(δ.alloc _).alloc _);have b0:W0.cell? ⟨w.heap.size,0,none⟩=some (.pointer (some ⟨R,0,none⟩)):=(by rw[<-hW0];simp);have t0:W0.heap[w.heap.size+1]?=some (.cells #[.int .u8 0,.int .i64 0,.slice none 0 0] 40 (0,0)):=(by rw[<-hW0];have:=heap_alloc_new (w.alloc (.cells #[.pointer (some ⟨R,0,none⟩)] 272)) (.cells #[.int .u8 0,.int .i64 0,.slice none 0 0] 40);rwa[World.size_alloc]at this);have hsz0:W0.heap.size=w.heap.size+2:=(by rw[<-hW0];simp);have c1:=hF W0 l l1 x1 (h.pure k0) hq;have H:=γ (θ k0 (θ b0 (θ t0 hsz0)));have HW:=γ hW0;have HF:=γ hF;have HL:=γ hl;have HSG:=γ hsg;have HSC:=γ hsc;clear k0 b0 t0 hsz0 h hW0 hF hl hsg hsc;go_enter Tryz.func229,Tryz.ntmps229;go_wp2_with fail;rw[HW.o];(with_reducible refine c1.mono ?_);clear c1 hq;rintro e' w1 ⟨p1,c1,D1,rfl,hx1,hD1,r1,k1⟩;have st0:VU w (w1.alloc (.cells (iZ x1 p1 c1).toArray 40)) R 0 w1.heap.size e x1 l1 p1 c1:=by
  have ka:ε η w1 (w1.alloc (.cells (iZ x1 p1 c1).toArray 40)):=δ.alloc _;have hs1:=k1.size;have hs2:=ka.size;have hsz:=H.o.2.2.2
  refine⟨r1.pure ka,⟨D1,hx1.kept ka (fun _ _ h=>h),fun k hk=>?_⟩,heap_alloc_new _ _,⟨_,_,_,ka.heap (k1.heap H.o.2.2.1 (fun h=>by unfold one at h;omega)) id⟩,ka.cell id (k1.cell (p:=⟨w.heap.size,0,none⟩) (show ¬(w.heap.size=R) by omega) H.o.2.1),by omega,
   (H.o.1.pure.new k1 (fun i hi hs=> .inl hs)).new ka (fun _ _ h=>h.elim)⟩
  have:=hD1 k hk;rw[World.size_alloc];omega
 have ST0:=γ st0;have hs10:w.heap.size+2<=w1.heap.size:=(by have:=k1.size;have:=H.o.2.2.2;omega);clear st0 hx1 hD1 r1 k1;go_wp2;go_loopg [10] (most+1) (fun g vn wr=> ∃(n:Nat)(x2:Ex)(l2:List Tok)(p2:Option Addr)(c2:Nat),n<=most/\vn= .int .i64 (n:Int)/\most+1-n<=g/\rowP pl sg (most-n) x2 l2=some (x,l')/\VU w wr R 0 w1.heap.size e x2 l2 p2 c2)
 case atStart=>exact⟨0,x1,l1,p1,c1,by omega,rfl,by omega,HL.o,ST0.o⟩
 case round=>
  obtain⟨n,x2,l2,p2,c2,hn,rfl,hg,hrow,hst⟩:=hrel;obtain⟨wo,rfl⟩: ∃wo:World,wo=wr:=⟨_,rfl⟩;obtain⟨t0,t1,t2,htt⟩:=hst.tt;have y0:=hst.box;have y1:=hst.rd.bad;have xs:=hst.xs;have a0:=ζ xs (j:=0) rfl;have a1:=ζ xs (j:=1) rfl;have a2:=ζ xs (j:=2) rfl;have f0:=free_at htt 0;have f1:=free_at htt 1;have f2:=free_at htt 2;have z0:=ζ htt (j:=0) rfl;have z1:=ζ htt (j:=1) rfl;have z2:=ζ htt (j:=2) rfl;have hR3:R<wo.heap.size:=hst.rd.lt;have hT3:w.heap.size+1<wo.heap.size:=(κ.1 htt).1;have hX3:w1.heap.size<wo.heap.size:=(κ.1 xs).1;have hB3:w.heap.size<wo.heap.size:=(by omega);have fin:rowP pl sg (most-n) x2 l2=some (x2,l2)->qI w R e x l' (.returned (.agg (iZ x2 p2 c2).toArray)) (((wo.setCell ⟨w.heap.size+1,0,none⟩ (.int .u8 x2.op)).setCell ⟨w.heap.size+1,1,none⟩ (.int .i64 x2.n)).setCell ⟨w.heap.size+1,2,none⟩ (.slice p2 x2.args.length c2)):=by
   intro hr;rw[hrow]at hr
   injection hr with hr
   injection hr with hr1 hr2
   subst hr1;subst hr2;obtain⟨D,hx,hD⟩:=hst.ex;obtain⟨_,k3⟩:=jE htt (.int .u8 x.op) (.int .i64 x.n) (.slice p2 x.args.length c2);refine⟨p2,c2,D,rfl,hx.kept k3 (fun k hk hs=>by have:=hD k hk;unfold one at hs;omega),fun k hk=>?_,hst.rd.mD k3 (fun k hk=>by unfold one at hk;omega),(hst.kept.new k3 (fun i hi hs=>by unfold one at hs;omega)).mono (fun k hk hs=>by rcases hs with hs|hs;exact hs;omega)⟩;have:=hD k hk;have:=k3.size;omega
  have s5:=(jE htt (.int .u8 x2.op) (.int .i64 x2.n) (.slice p2 x2.args.length c2)).1;have FIN:=γ (θ fin s5);have HST:=γ hst;have HG:=γ hg;clear fin s5 hst hg htt xs;by_cases hlt2:n<most
  ·have hr2:rowP pl sg (most-n) x2 l2=match firstT sg l2 0 with|none=>some (x2,l2)|some r=>match pl r.2.2 with|none=>none|some q=>rowP pl sg (most-(n+1)) (.mk r.2.1 0 [x2,q.1]) q.2:=by
    rw[show most-n=(most-(n+1))+1 by omega];rfl
   have aaR: ∀(i:Nat)(s:sF),sg[i]?=some s->wo.cell? ⟨sb,i*2,none⟩=some (.string s.1)/\wo.cell? ⟨sb,i*2+1,none⟩=some (.int .u8 s.2):=fun i s hs=>(by obtain⟨q0,q1⟩:=HSG.o i s hs;have hn: ¬(sb=R\/w.heap.size<=sb):=(by omega);exact⟨HST.o.kept.cell (p:=⟨sb,i*2,none⟩) hn q0,HST.o.kept.cell (p:=⟨sb,i*2+1,none⟩) hn q1⟩);have ci:=Si R w.heap.size l2 e sg (.slice (some ⟨sb,0,none⟩) sg.length sg.length) hsl wo HST.o.rd y0 (by omega) ⟨sb,rfl,aaR⟩ (fun b e=>by cases e;exact hsr);have HR2:=γ hr2;have HRW:=γ hrow;have HS':=γ aaR;clear hr2 aaR hrow;go_wp2_with fail;(with_reducible refine ci.mono ?_);clear ci;rintro e' w2 hq;obtain⟨k2,hq⟩:=hq
   cases hf:firstT sg l2 0 with
   |none=>
    rw[hf]at hq;obtain⟨rfl,r2⟩:=hq;have hrr:rowP pl sg (most-n) x2 l2=some (x2,l2):=(by rw[HR2.o,hf]);obtain⟨t0',t1',t2',ht2⟩: ∃u0 u1 u2,w2.heap[w.heap.size+1]?=some (.cells #[u0,u1,u2] 40 (0,0)):=(by obtain⟨u0,u1,u2,hu⟩:=HST.o.tt;exact⟨u0,u1,u2,k2.heap hu (fun h=>by unfold one at h;omega)⟩);have xs2:=k2.heap HST.o.xs (fun h=>by unfold one at h;omega);have a0:=ζ xs2 (j:=0) rfl;have a1:=ζ xs2 (j:=1) rfl;have a2:=ζ xs2 (j:=2) rfl;have f0:=free_at ht2 0;have f1:=free_at ht2 1;have f2:=free_at ht2 2;have z0:=ζ ht2 (j:=0) rfl;have z1:=ζ ht2 (j:=1) rfl;have z2:=ζ ht2 (j:=2) rfl;have hT4:w.heap.size+1<w2.heap.size:=(κ.1 ht2).1;rw[HRW.o]at hrr
    injection hrr with hrr
    injection hrr with aeh aeg
    obtain⟨D,hx,hD⟩:=HST.o.ex;have s5:=(jE ht2 (.int .u8 x2.op) (.int .i64 x2.n) (.slice p2 x2.args.length c2)).1;have F:qI w R e x l' (.returned (.agg (iZ x2 p2 c2).toArray)) (((w2.setCell ⟨w.heap.size+1,0,none⟩ (.int .u8 x2.op)).setCell ⟨w.heap.size+1,1,none⟩ (.int .i64 x2.n)).setCell ⟨w.heap.size+1,2,none⟩ (.slice p2 x2.args.length c2)):=(by subst aeh;subst aeg;obtain⟨_,k3⟩:=jE ht2 (.int .u8 x.op) (.int .i64 x.n) (.slice p2 x.args.length c2);refine⟨p2,c2,D,rfl,(hx.kept k2 (fun k hk hs=>by have:=hD k hk;unfold one at hs;omega)).kept k3 (fun k hk hs=>by have:=hD k hk;unfold one at hs;omega),fun k hk=>?_,r2.mD k3 (fun k hk=>by unfold one at hk;omega),((HST.o.kept.new k2 (fun i hi hs=> .inl hs)).new k3 (fun i hi hs=>by unfold one at hs;omega)).mono (fun k hk hs=>by rcases hs with hs|hs;exact hs;omega)⟩;have:=hD k hk;have:=k3.size;have:=k2.size;omega);have FF:=γ (θ F s5);clear F s5 hx hD xs2 ht2 aeh aeg r2 k2 hf y0 y1;go_wp2_with fail;obtain⟨WF,lI⟩: ∃WF,(((w2.setCell ⟨w.heap.size+1,0,none⟩ (.int .u8 x2.op)).setCell ⟨w.heap.size+1,1,none⟩ (.int .i64 x2.n)).setCell ⟨w.heap.size+1,2,none⟩ (.slice p2 x2.args.length c2))=WF:=⟨_,rfl⟩;obtain⟨F,s5⟩:=FF.o;rw[lI]at s5 F⊢;have q0:=ζ s5 (j:=0) rfl;have q1:=ζ s5 (j:=1) rfl;have q2:=ζ s5 (j:=2) rfl;refine bodyPost_ret (v:= .agg (iZ x2 p2 c2).toArray) (by simp[results,Tryz.results229,go_sem,q0,q1,q2]) rfl F
   |some r=>
    rw[hf]at hq;obtain⟨rfl,r2⟩:=hq;obtain⟨s,-,hs,aeb⟩:=GK hf;rw[Nat.sub_zero]at hs;have PS:r.1<sg.length:=(μ.1 hs).1;have ahL:(r.1:Int)<(sg.length:Int):=(by omega);have hrr:=HR2.o;rw[hf]at hrr;simp only at hrr
    obtain⟨q,hq⟩: ∃q,pl r.2.2=some q:=by
     cases e':pl r.2.2 with
     |none=>rw[e',HRW.o]at hrr;cases hrr
     |some q=>exact⟨q,rfl⟩
    rw[hq,HRW.o]at hrr;simp only at hrr;have hop:=HSC.o s (ς hs);obtain⟨_,qs⟩:=HS'.o _ s hs;rw[aeb]at qs hop;have qs2:=k2.cell (p:=⟨sb,r.1*2+1,none⟩) (show ¬(sb=R)from hsr) qs;obtain⟨t0',t1',t2',ht2⟩: ∃u0 u1 u2,w2.heap[w.heap.size+1]?=some (.cells #[u0,u1,u2] 40 (0,0)):=(by obtain⟨u0,u1,u2,hu⟩:=HST.o.tt;exact⟨u0,u1,u2,k2.heap hu (fun h=>by unfold one at h;omega)⟩);have xs2:=k2.heap HST.o.xs (fun h=>by unfold one at h;omega);have bx2:=k2.cell (p:=⟨w.heap.size,0,none⟩) (show ¬(w.heap.size=R) by omega) HST.o.box;obtain⟨D,hx,hD⟩:=HST.o.ex;have hx2:=hx.kept k2 (fun k hk hs=>by have:=hD k hk;unfold one at hs;omega);have hR4:R<w2.heap.size:=r2.lt;have Ud:w1.heap.size<w2.heap.size:=(κ.1 xs2).1;have hsb4:sb<w2.heap.size:=Pe hsb (ω HST.o.kept.size k2.size);have kk2:=HST.o.kept.new k2 (fun i hi hs=> .inl hs);have hsz2:=k2.size;obtain⟨ri,op,rl⟩:=r;simp only at PS ahL hrr hq hop qs2 r2;have Z:=γ (θ r2 (θ hrr (θ xs2 (θ ht2 (θ bx2 (θ hx2 (θ kk2 (θ hq hop))))))));have QS:=γ qs2;clear r2 hrr hq hop qs hf xs2 ht2 bx2 hx2 hx kk2 k2 hs aeb y0 y1;go_wp2_with fail;obtain⟨y,l3⟩:=q;have kD:ε η w2 w2.drew:=δ.drew;have KD:=γ kD;clear kD;refine ak [0,1,2,3,4,5,6,7,8,9,10] (fun W=>ε (one R) w2 W) (by kernel_rfl) (by kernel_rfl) rfl KD.o.pure ?_;simp only[abU];iterate 7 (apply aj rfl rfl;(intro W hW;have q1:=hW.cell (p:=⟨sb,ri*2+1,none⟩) (show ¬(sb=R)from hsr) QS.o;have xW:=hW.heap Z.o.2.2.1 (show ¬(w1.heap.size=R) by omega);have m0:=ζ xW (j:=0) rfl;have m1:=ζ xW (j:=1) rfl;have m2:=ζ xW (j:=2) rfl;clear xW;go_simp;rfl);go_frame)
    apply aA rfl rfl;intro K hK;have c2:=HF.o w2.drew rl l3 y (Z.o.1.pure KD.o) Z.o.2.2.2.2.2.2.2.1;go_wp2_with fail;(with_reducible refine c2.mono ?_);clear c2;rintro e' w5 ⟨p5,c5,D5,rfl,hy,hD5,r5,k5⟩;have k25:ε (one R) w2 w5:=KD.o.pure.trans k5;go_wp2_with fail;refine hK _ _ (fun _=>k25) ?_;clear hK;have hx5:=Z.o.2.2.2.2.2.1.kept k25 (fun k hk hs=>by have:=hD k hk;unfold one at hs;omega);have hz:=lG.two hx5 hy Z.o.2.2.2.2.2.2.2.2.1 Z.o.2.2.2.2.2.2.2.2.2;have ka:ε η w5 (w5.alloc (.cells (iZ x2 p2 c2++iZ y p5 c5).toArray 40)):=δ.alloc _;obtain⟨W6,Jv⟩:=acf (w5.alloc (.cells (iZ x2 p2 c2++iZ y p5 c5).toArray 40));rw[Jv]at hz ka;have Qg:w5.alloc (.cells #[.int .u8 x2.op,.int .i64 x2.n,.slice p2 x2.args.length c2,.int .u8 y.op,.int .i64 y.n,.slice p5 y.args.length c5] 40)=W6:=Jv;have hsz5:=k25.size;have hsz6:W6.heap.size=w5.heap.size+1:=(by rw[<-Jv];simp);have Iw:=ka.heap (k25.heap Z.o.2.2.1 (show ¬(w1.heap.size=R) by omega)) id;have tt6:=ka.heap (k25.heap Z.o.2.2.2.1 (show ¬(w.heap.size+1=R) by omega)) id;have bx6:=ka.cell (p:=⟨w.heap.size,0,none⟩) id (k25.cell (p:=⟨w.heap.size,0,none⟩) (show ¬(w.heap.size=R) by omega) Z.o.2.2.2.2.1);have kk6:=(Z.o.2.2.2.2.2.2.1.new k25 (fun i hi hs=> .inl hs)).new ka (fun _ _ h=>h.elim);obtain⟨xs7,k7⟩:=jE Iw (.int .u8 op) (.int .i64 0) (.slice (some ⟨w5.heap.size,0,none⟩) 2 2);have st7:VU w (((W6.setCell ⟨w1.heap.size,0,none⟩ (.int .u8 op)).setCell ⟨w1.heap.size,1,none⟩ (.int .i64 0)).setCell ⟨w1.heap.size,2,none⟩ (.slice (some ⟨w5.heap.size,0,none⟩) 2 2)) R 0 w1.heap.size e (.mk op 0 [x2,y]) l3 (some ⟨w5.heap.size,0,none⟩) 2:=by
     have hs7:=k7.size;refine⟨(r5.pure ka).mD k7 (fun k hk=>by unfold one at hk;omega),⟨_,hz.kept k7 (fun k hk hs=>?_),fun k hk=>?_⟩,xs7,⟨_,_,_,k7.heap tt6 (show ¬(w.heap.size+1=w1.heap.size) by omega)⟩,k7.cell (p:=⟨w.heap.size,0,none⟩) (show ¬(w.heap.size=w1.heap.size) by omega) bx6,by omega,kk6.new k7 (fun i hi hs=>by unfold one at hs;omega)⟩
     ·unfold one at hs
      rcases hk with hk|hk|hk
      ·have:=hD k hk;omega
      ·have:=hD5 k hk;have:=KD.o.size;omega
      ·omega
     ·rcases hk with hk|hk|hk
      ·have:=hD k hk;omega
      ·have:=hD5 k hk;have:=KD.o.size;omega
      ·omega
    have f0:=free_at Iw 0;have f1:=free_at Iw 1;have f2:=free_at Iw 2;have z0:=ζ Iw (j:=0) rfl;have z1:=ζ Iw (j:=1) rfl;have z2:=ζ Iw (j:=2) rfl;have hX6:w1.heap.size<W6.heap.size:=(by omega);have ST:=γ (θ st7 (θ (k25.trans ka.pure) Z.o.2.1));clear st7 xs7 k7 kk6 bx6 tt6 Iw hz hx5 hy hD5 r5 k5 ka;apply aA rfl rfl;intro K2 hK2;go_wp2_with fail;try rw[Qg]
    refine hK2 _ _ (fun _=>ST.o.2.1) ?_;clear hK2;apply aj rfl rfl
    ·intro W hW;go_simp;rfl
    go_frame;apply aA rfl rfl;intro K3 hK3;go_wp2_with fail;refine hK3 _ _ (fun h=>absurd rfl h) (jo (by kernel_rfl) ?_);clear hK3;go_wp2_with fail;go_roundg (most+1-(n+1))
    case rel=>exact⟨n+1,_,_,_,_,by omega,by go_num,ξ _,ST.o.2.2.symm,ST.o.1⟩
    case measure=>have:=HG.o;omega
  ·have hne:n=most:=by omega
   have hrr:rowP pl sg (most-n) x2 l2=some (x2,l2):=(by rw[hne,Nat.sub_self];rfl);have FF:=γ (θ (FIN.o.1 hrr) FIN.o.2);clear hrr FIN hrow;go_wp2_with fail;obtain⟨WF,lI⟩: ∃WF,(((wo.setCell ⟨w.heap.size+1,0,none⟩ (.int .u8 x2.op)).setCell ⟨w.heap.size+1,1,none⟩ (.int .i64 x2.n)).setCell ⟨w.heap.size+1,2,none⟩ (.slice p2 x2.args.length c2))=WF:=⟨_,rfl⟩;obtain⟨F,s5⟩:=FF.o;rw[lI]at s5 F⊢;have q0:=ζ s5 (j:=0) rfl;have q1:=ζ s5 (j:=1) rfl;have q2:=ζ s5 (j:=2) rfl;refine bodyPost_ret (v:= .agg (iZ x2 p2 c2).toArray) (by simp[results,Tryz.results229,go_sem,q0,q1,q2]) rfl F
theorem uz: ∀{l:List sF}{i:Nat}{s:sF},l[i]?=some s->(BA l)[i*2]?=some (.string s.1)/\(BA l)[i*2+1]?=some (.int .u8 s.2)
 |x::l,0,s,h=>by cases h;exact⟨rfl,rfl⟩
 |x::l,i+1,s,h=>by have ih:=uz (l:=l) (i:=i) (s:=s) (by simpa using h);rw[show(i+1)*2=i*2+1+1 by omega];unfold BA at ih⊢;rw[List.flatMap_cons];exact ih
abbrev UG:List sF:=[(⟨#[42]⟩,9),(⟨#[47]⟩,10),(⟨#[37]⟩,11)]
def UH (l:List Tok):Option (Ex×List Tok):=xk zW UG 400 l
theorem ZX (R:Nat)(e:Int):JQ 276 R e UH:=by
 intro w l l' x h hl;have hlt:=h.lt;obtain⟨W0,hW0⟩: ∃W0,((w.alloc (.cells #[.int .u8 0,.int .i64 0,.slice none 0 0] 40)).alloc (.cells #[.string ⟨#[42]⟩,.int .u8 9,.string ⟨#[47]⟩,.int .u8 10,.string ⟨#[37]⟩,.int .u8 11] 305))=W0:=⟨_,rfl⟩;have k0:ε η w W0:=(by rw[<-hW0];exact(δ.alloc _).alloc _);have t0:W0.heap[w.heap.size]?=some (.cells #[.int .u8 0,.int .i64 0,.slice none 0 0] 40 (0,0)):=(by rw[<-hW0];exact((ε.refl η _).alloc _).heap (heap_alloc_new w (.cells #[.int .u8 0,.int .i64 0,.slice none 0 0] 40)) id);have s0:W0.heap[w.heap.size+1]?=some (.cells (BA UG).toArray 305 (0,0)):=(by rw[<-hW0];have:=heap_alloc_new (w.alloc (.cells #[.int .u8 0,.int .i64 0,.slice none 0 0] 40)) (.cells #[.string ⟨#[42]⟩,.int .u8 9,.string ⟨#[47]⟩,.int .u8 10,.string ⟨#[37]⟩,.int .u8 11] 305);rwa[World.size_alloc]at this);have hsz0:W0.heap.size=w.heap.size+2:=(by rw[<-hW0];simp);have cr:Calls Tryz.prog 229 #[.pointer (some ⟨R,0,none⟩),.func (.func 278) #[.pointer (some ⟨R,0,none⟩)] #[],.int .i64 400,.slice (some ⟨w.heap.size+1,0,none⟩) 3 3] W0 (qI W0 R e x l'):=
  y9 R e 278 zW (enters_of Tryz.func278 (by kernel_rfl) rfl) (UY R e) UG (w.heap.size+1) 400 W0 l l' x (h.pure k0) hl (by omega) (by decide) (by omega) (by decide)
   (fun i s hs=>by
     obtain⟨q0,q1⟩:=uz hs
     exact⟨ζ s0 (by rw[abH];exact q0),ζ s0 (by rw[abH];exact q1)⟩) (by omega)
 have H:=γ (θ k0 (θ t0 hsz0));have HW:=γ hW0;clear k0 t0 s0 hsz0 h hW0 hl;go_enter Tryz.func276,Tryz.ntmps276;go_wp2_with fail;rw[HW.o];(with_reducible refine cr.mono ?_);clear cr;rintro e' w5 ⟨p,c,D,rfl,hx,hD,r5,k5⟩;have t5:=k5.heap H.o.2.1 (fun h=>by unfold one at h;omega);have f0:=free_at t5 0;have f1:=free_at t5 1;have f2:=free_at t5 2;have z0:=ζ t5 (j:=0) rfl;have z1:=ζ t5 (j:=1) rfl;have z2:=ζ t5 (j:=2) rfl;have F:=qI.wrap hlt H.o.1.pure (κ.1 H.o.2.1).1 hx hD r5 k5 t5;have s5:=(jE t5 (.int .u8 x.op) (.int .i64 x.n) (.slice p x.args.length c)).1;have hs5:w.heap.size<w5.heap.size:=(κ.1 t5).1;clear hx hD r5 k5 t5;go_wp2_with fail;obtain⟨WF,lI⟩: ∃WF,(((w5.setCell ⟨w.heap.size,0,none⟩ (.int .u8 x.op)).setCell ⟨w.heap.size,1,none⟩ (.int .i64 x.n)).setCell ⟨w.heap.size,2,none⟩ (.slice p x.args.length c))=WF:=⟨_,rfl⟩;rw[lI]at s5 F⊢;have q0:=ζ s5 (j:=0) rfl;have q1:=ζ s5 (j:=1) rfl;have q2:=ζ s5 (j:=2) rfl;refine bodyPost_ret (v:= .agg (iZ x p c).toArray) (by simp[results,Tryz.results276,go_sem,q0,q1,q2]) rfl F
abbrev Z9:List sF:=[(⟨#[43]⟩,7),(⟨#[45]⟩,8)]
def sumP (l:List Tok):Option (Ex×List Tok):=xk UH Z9 400 l
theorem sum_any (R:Nat)(e:Int):JQ 272 R e sumP:=by
 intro w l l' x h hl;have hlt:=h.lt;obtain⟨W0,hW0⟩: ∃W0,((w.alloc (.cells #[.int .u8 0,.int .i64 0,.slice none 0 0] 40)).alloc (.cells #[.string ⟨#[43]⟩,.int .u8 7,.string ⟨#[45]⟩,.int .u8 8] 305))=W0:=⟨_,rfl⟩;have k0:ε η w W0:=(by rw[<-hW0];exact(δ.alloc _).alloc _);have t0:W0.heap[w.heap.size]?=some (.cells #[.int .u8 0,.int .i64 0,.slice none 0 0] 40 (0,0)):=(by rw[<-hW0];exact((ε.refl η _).alloc _).heap (heap_alloc_new w (.cells #[.int .u8 0,.int .i64 0,.slice none 0 0] 40)) id);have s0:W0.heap[w.heap.size+1]?=some (.cells (BA Z9).toArray 305 (0,0)):=(by rw[<-hW0];have:=heap_alloc_new (w.alloc (.cells #[.int .u8 0,.int .i64 0,.slice none 0 0] 40)) (.cells #[.string ⟨#[43]⟩,.int .u8 7,.string ⟨#[45]⟩,.int .u8 8] 305);rwa[World.size_alloc]at this);have hsz0:W0.heap.size=w.heap.size+2:=(by rw[<-hW0];simp);have cr:Calls Tryz.prog 229 #[.pointer (some ⟨R,0,none⟩),.func (.func 276) #[.pointer (some ⟨R,0,none⟩)] #[],.int .i64 400,.slice (some ⟨w.heap.size+1,0,none⟩) 2 2] W0 (qI W0 R e x l'):=
  y9 R e 276 UH (enters_of Tryz.func276 (by kernel_rfl) rfl) (ZX R e) Z9 (w.heap.size+1) 400 W0 l l' x (h.pure k0) hl (by omega) (by decide) (by omega) (by decide)
   (fun i s hs=>by
     obtain⟨q0,q1⟩:=uz hs
     exact⟨ζ s0 (by rw[abH];exact q0),ζ s0 (by rw[abH];exact q1)⟩) (by omega)
 have H:=γ (θ k0 (θ t0 hsz0));have HW:=γ hW0;clear k0 t0 s0 hsz0 h hW0 hl;go_enter Tryz.func272,Tryz.ntmps272;go_wp2_with fail;rw[HW.o];(with_reducible refine cr.mono ?_);clear cr;rintro e' w5 ⟨p,c,D,rfl,hx,hD,r5,k5⟩;have t5:=k5.heap H.o.2.1 (fun h=>by unfold one at h;omega);have f0:=free_at t5 0;have f1:=free_at t5 1;have f2:=free_at t5 2;have z0:=ζ t5 (j:=0) rfl;have z1:=ζ t5 (j:=1) rfl;have z2:=ζ t5 (j:=2) rfl;have F:=qI.wrap hlt H.o.1.pure (κ.1 H.o.2.1).1 hx hD r5 k5 t5;have s5:=(jE t5 (.int .u8 x.op) (.int .i64 x.n) (.slice p x.args.length c)).1;have hs5:w.heap.size<w5.heap.size:=(κ.1 t5).1;clear hx hD r5 k5 t5;go_wp2_with fail;obtain⟨WF,lI⟩: ∃WF,(((w5.setCell ⟨w.heap.size,0,none⟩ (.int .u8 x.op)).setCell ⟨w.heap.size,1,none⟩ (.int .i64 x.n)).setCell ⟨w.heap.size,2,none⟩ (.slice p x.args.length c))=WF:=⟨_,rfl⟩;rw[lI]at s5 F⊢;have q0:=ζ s5 (j:=0) rfl;have q1:=ζ s5 (j:=1) rfl;have q2:=ζ s5 (j:=2) rfl;refine bodyPost_ret (v:= .agg (iZ x p c).toArray) (by simp[results,Tryz.results272,go_sem,q0,q1,q2]) rfl F
abbrev abj:List sF:=[(⟨#[60]⟩,12),(⟨#[60,61]⟩,13),(⟨#[61]⟩,14),(⟨#[33,61]⟩,15)]
def abk (l:List Tok):Option (Ex×List Tok):=xk sumP abj 1 l
theorem adk (R:Nat)(e:Int):JQ 259 R e abk:=by
 intro w l l' x h hl;have hlt:=h.lt;obtain⟨W0,hW0⟩: ∃W0,((w.alloc (.cells #[.int .u8 0,.int .i64 0,.slice none 0 0] 40)).alloc (.cells #[.string ⟨#[60]⟩,.int .u8 12,.string ⟨#[60,61]⟩,.int .u8 13,.string ⟨#[61]⟩,.int .u8 14,.string ⟨#[33,61]⟩,.int .u8 15] 305))=W0:=⟨_,rfl⟩;have k0:ε η w W0:=(by rw[<-hW0];exact(δ.alloc _).alloc _);have t0:W0.heap[w.heap.size]?=some (.cells #[.int .u8 0,.int .i64 0,.slice none 0 0] 40 (0,0)):=(by rw[<-hW0];exact((ε.refl η _).alloc _).heap (heap_alloc_new w (.cells #[.int .u8 0,.int .i64 0,.slice none 0 0] 40)) id);have s0:W0.heap[w.heap.size+1]?=some (.cells (BA abj).toArray 305 (0,0)):=(by rw[<-hW0];have:=heap_alloc_new (w.alloc (.cells #[.int .u8 0,.int .i64 0,.slice none 0 0] 40)) (.cells #[.string ⟨#[60]⟩,.int .u8 12,.string ⟨#[60,61]⟩,.int .u8 13,.string ⟨#[61]⟩,.int .u8 14,.string ⟨#[33,61]⟩,.int .u8 15] 305);rwa[World.size_alloc]at this);have hsz0:W0.heap.size=w.heap.size+2:=(by rw[<-hW0];simp);have cr:Calls Tryz.prog 229 #[.pointer (some ⟨R,0,none⟩),.func (.func 272) #[.pointer (some ⟨R,0,none⟩)] #[],.int .i64 1,.slice (some ⟨w.heap.size+1,0,none⟩) 4 4] W0 (qI W0 R e x l'):=
  y9 R e 272 sumP (enters_of Tryz.func272 (by kernel_rfl) rfl) (sum_any R e) abj (w.heap.size+1) 1 W0 l l' x (h.pure k0) hl (by omega) (by decide) (by omega) (by decide)
   (fun i s hs=>by
     obtain⟨q0,q1⟩:=uz hs
     exact⟨ζ s0 (by rw[abH];exact q0),ζ s0 (by rw[abH];exact q1)⟩) (by omega)
 have H:=γ (θ k0 (θ t0 hsz0));have HW:=γ hW0;clear k0 t0 s0 hsz0 h hW0 hl;go_enter Tryz.func259,Tryz.ntmps259;go_wp2_with fail;rw[HW.o];(with_reducible refine cr.mono ?_);clear cr;rintro e' w5 ⟨p,c,D,rfl,hx,hD,r5,k5⟩;have t5:=k5.heap H.o.2.1 (fun h=>by unfold one at h;omega);have f0:=free_at t5 0;have f1:=free_at t5 1;have f2:=free_at t5 2;have z0:=ζ t5 (j:=0) rfl;have z1:=ζ t5 (j:=1) rfl;have z2:=ζ t5 (j:=2) rfl;have F:=qI.wrap hlt H.o.1.pure (κ.1 H.o.2.1).1 hx hD r5 k5 t5;have s5:=(jE t5 (.int .u8 x.op) (.int .i64 x.n) (.slice p x.args.length c)).1;have hs5:w.heap.size<w5.heap.size:=(κ.1 t5).1;clear hx hD r5 k5 t5;go_wp2_with fail;obtain⟨WF,lI⟩: ∃WF,(((w5.setCell ⟨w.heap.size,0,none⟩ (.int .u8 x.op)).setCell ⟨w.heap.size,1,none⟩ (.int .i64 x.n)).setCell ⟨w.heap.size,2,none⟩ (.slice p x.args.length c))=WF:=⟨_,rfl⟩;rw[lI]at s5 F⊢;have q0:=ζ s5 (j:=0) rfl;have q1:=ζ s5 (j:=1) rfl;have q2:=ζ s5 (j:=2) rfl;refine bodyPost_ret (v:= .agg (iZ x p c).toArray) (by simp[results,Tryz.results259,go_sem,q0,q1,q2]) rfl F
abbrev abp:List sF:=[(⟨#[38]⟩,16)]
def abq (l:List Tok):Option (Ex×List Tok):=xk abk abp 400 l
theorem adn (R:Nat)(e:Int):JQ 230 R e abq:=by
 intro w l l' x h hl;have hlt:=h.lt;obtain⟨W0,hW0⟩: ∃W0,((w.alloc (.cells #[.int .u8 0,.int .i64 0,.slice none 0 0] 40)).alloc (.cells #[.string ⟨#[38]⟩,.int .u8 16] 305))=W0:=⟨_,rfl⟩;have k0:ε η w W0:=(by rw[<-hW0];exact(δ.alloc _).alloc _);have t0:W0.heap[w.heap.size]?=some (.cells #[.int .u8 0,.int .i64 0,.slice none 0 0] 40 (0,0)):=(by rw[<-hW0];exact((ε.refl η _).alloc _).heap (heap_alloc_new w (.cells #[.int .u8 0,.int .i64 0,.slice none 0 0] 40)) id);have s0:W0.heap[w.heap.size+1]?=some (.cells (BA abp).toArray 305 (0,0)):=(by rw[<-hW0];have:=heap_alloc_new (w.alloc (.cells #[.int .u8 0,.int .i64 0,.slice none 0 0] 40)) (.cells #[.string ⟨#[38]⟩,.int .u8 16] 305);rwa[World.size_alloc]at this);have hsz0:W0.heap.size=w.heap.size+2:=(by rw[<-hW0];simp);have cr:Calls Tryz.prog 229 #[.pointer (some ⟨R,0,none⟩),.func (.func 259) #[.pointer (some ⟨R,0,none⟩)] #[],.int .i64 400,.slice (some ⟨w.heap.size+1,0,none⟩) 1 1] W0 (qI W0 R e x l'):=
  y9 R e 259 abk (enters_of Tryz.func259 (by kernel_rfl) rfl) (adk R e) abp (w.heap.size+1) 400 W0 l l' x (h.pure k0) hl (by omega) (by decide) (by omega) (by decide)
   (fun i s hs=>by
     obtain⟨q0,q1⟩:=uz hs
     exact⟨ζ s0 (by rw[abH];exact q0),ζ s0 (by rw[abH];exact q1)⟩) (by omega)
 have H:=γ (θ k0 (θ t0 hsz0));have HW:=γ hW0;clear k0 t0 s0 hsz0 h hW0 hl;go_enter Tryz.func230,Tryz.ntmps230;go_wp2_with fail;rw[HW.o];(with_reducible refine cr.mono ?_);clear cr;rintro e' w5 ⟨p,c,D,rfl,hx,hD,r5,k5⟩;have t5:=k5.heap H.o.2.1 (fun h=>by unfold one at h;omega);have f0:=free_at t5 0;have f1:=free_at t5 1;have f2:=free_at t5 2;have z0:=ζ t5 (j:=0) rfl;have z1:=ζ t5 (j:=1) rfl;have z2:=ζ t5 (j:=2) rfl;have F:=qI.wrap hlt H.o.1.pure (κ.1 H.o.2.1).1 hx hD r5 k5 t5;have s5:=(jE t5 (.int .u8 x.op) (.int .i64 x.n) (.slice p x.args.length c)).1;have hs5:w.heap.size<w5.heap.size:=(κ.1 t5).1;clear hx hD r5 k5 t5;go_wp2_with fail;obtain⟨WF,lI⟩: ∃WF,(((w5.setCell ⟨w.heap.size,0,none⟩ (.int .u8 x.op)).setCell ⟨w.heap.size,1,none⟩ (.int .i64 x.n)).setCell ⟨w.heap.size,2,none⟩ (.slice p x.args.length c))=WF:=⟨_,rfl⟩;rw[lI]at s5 F⊢;have q0:=ζ s5 (j:=0) rfl;have q1:=ζ s5 (j:=1) rfl;have q2:=ζ s5 (j:=2) rfl;refine bodyPost_ret (v:= .agg (iZ x p c).toArray) (by simp[results,Tryz.results230,go_sem,q0,q1,q2]) rfl F
abbrev orS:List sF:=[(⟨#[124]⟩,17)]
def orP (l:List Tok):Option (Ex×List Tok):=xk abq orS 400 l
theorem acU (R:Nat)(e:Int):JQ 193 R e orP:=by
 intro w l l' x h hl;have hlt:=h.lt;obtain⟨W0,hW0⟩: ∃W0,((w.alloc (.cells #[.int .u8 0,.int .i64 0,.slice none 0 0] 40)).alloc (.cells #[.string ⟨#[124]⟩,.int .u8 17] 305))=W0:=⟨_,rfl⟩;have k0:ε η w W0:=(by rw[<-hW0];exact(δ.alloc _).alloc _);have t0:W0.heap[w.heap.size]?=some (.cells #[.int .u8 0,.int .i64 0,.slice none 0 0] 40 (0,0)):=(by rw[<-hW0];exact((ε.refl η _).alloc _).heap (heap_alloc_new w (.cells #[.int .u8 0,.int .i64 0,.slice none 0 0] 40)) id);have s0:W0.heap[w.heap.size+1]?=some (.cells (BA orS).toArray 305 (0,0)):=(by rw[<-hW0];have:=heap_alloc_new (w.alloc (.cells #[.int .u8 0,.int .i64 0,.slice none 0 0] 40)) (.cells #[.string ⟨#[124]⟩,.int .u8 17] 305);rwa[World.size_alloc]at this);have hsz0:W0.heap.size=w.heap.size+2:=(by rw[<-hW0];simp);have cr:Calls Tryz.prog 229 #[.pointer (some ⟨R,0,none⟩),.func (.func 230) #[.pointer (some ⟨R,0,none⟩)] #[],.int .i64 400,.slice (some ⟨w.heap.size+1,0,none⟩) 1 1] W0 (qI W0 R e x l'):=
  y9 R e 230 abq (enters_of Tryz.func230 (by kernel_rfl) rfl) (adn R e) orS (w.heap.size+1) 400 W0 l l' x (h.pure k0) hl (by omega) (by decide) (by omega) (by decide)
   (fun i s hs=>by
     obtain⟨q0,q1⟩:=uz hs
     exact⟨ζ s0 (by rw[abH];exact q0),ζ s0 (by rw[abH];exact q1)⟩) (by omega)
 have H:=γ (θ k0 (θ t0 hsz0));have HW:=γ hW0;clear k0 t0 s0 hsz0 h hW0 hl;go_enter Tryz.func193,Tryz.ntmps193;go_wp2_with fail;rw[HW.o];(with_reducible refine cr.mono ?_);clear cr;rintro e' w5 ⟨p,c,D,rfl,hx,hD,r5,k5⟩;have t5:=k5.heap H.o.2.1 (fun h=>by unfold one at h;omega);have f0:=free_at t5 0;have f1:=free_at t5 1;have f2:=free_at t5 2;have z0:=ζ t5 (j:=0) rfl;have z1:=ζ t5 (j:=1) rfl;have z2:=ζ t5 (j:=2) rfl;have F:=qI.wrap hlt H.o.1.pure (κ.1 H.o.2.1).1 hx hD r5 k5 t5;have s5:=(jE t5 (.int .u8 x.op) (.int .i64 x.n) (.slice p x.args.length c)).1;have hs5:w.heap.size<w5.heap.size:=(κ.1 t5).1;clear hx hD r5 k5 t5;go_wp2_with fail;obtain⟨WF,lI⟩: ∃WF,(((w5.setCell ⟨w.heap.size,0,none⟩ (.int .u8 x.op)).setCell ⟨w.heap.size,1,none⟩ (.int .i64 x.n)).setCell ⟨w.heap.size,2,none⟩ (.slice p x.args.length c))=WF:=⟨_,rfl⟩;rw[lI]at s5 F⊢;have q0:=ζ s5 (j:=0) rfl;have q1:=ζ s5 (j:=1) rfl;have q2:=ζ s5 (j:=2) rfl;refine bodyPost_ret (v:= .agg (iZ x p c).toArray) (by simp[results,Tryz.results193,go_sem,q0,q1,q2]) rfl F
def kC (r:Nat):Prop:=r=97\/r=99\/r=118\/r=108\/r=43\/r=45\/r=32
def qA (r:Nat):Int:=if r=43\/r=45 then 3 else if r=32 then 0 else 1
def qo (r:Nat):ByteArray:=Utf8.encode (r:Int)
def Ko (r:Nat):Bool:=decide (0<=Lib.indexByte [43,45,42,47,37,40,41,38,124,33,61,60] ((r:Int)).toNat.toUInt8)
theorem YE (r:Nat)(hr:r<128)(h48: ¬(48<=r/\r<=57))(hsz:(qo r).size<=maxLen)(w:World):
 Calls Tryz.prog 228 #[.int .i32 (r:Int)] w (Gives w (.int .u8 (if Ko r=true then 3 else if fB (qo r)=true then 1 else 0))):=by
 have cc:Calls Tryz.prog 221 #[.string ⟨#[43,45,42,47,37,40,41,38,124,33,61,60]⟩,.int .i32 (r:Int)] w fun e w'=>e= .returned (.bool (Ko r))/\w'=w:=
  Any.strings_ContainsRune_ascii Tryz.crL ⟨#[43,45,42,47,37,40,41,38,124,33,61,60]⟩ (r:Int) w (by omega) (by omega)
 have cn:=name_any (qo r) hsz w;obtain⟨bs,hbs⟩: ∃bs,Ko r=bs:=⟨_,rfl⟩;obtain⟨bn,hbn⟩: ∃bn,fB (qo r)=bn:=⟨_,rfl⟩;rw[hbs]at cc⊢;rw[hbn]at cn⊢;unfold qo at cn;clear hbs hbn;have CC:=γ cc;have CN:=γ cn;clear cc cn hsz;by_cases h1:48<=r
 ·have h2: ¬(r<=57):=by omega
  have h1i:(48:Int)<=(r:Int):=(by omega);have h2i: ¬((r:Int)<=57):=(by omega);clear h48 h1;go_enter Tryz.func228,Tryz.ntmps228;go_wp2_with fail;all_goals
   (with_reducible refine CC.o.mono ?_);rintro e w' ⟨rfl,rfl⟩;cases bs
   ·go_wp2_with fail
    all_goals
     (with_reducible refine CN.o.mono ?_);rintro e w2 ⟨rfl,k2⟩;cases bn
     ·go_wp2_with fail
      all_goals
       go_ret;exact⟨rfl,k2⟩
     ·go_wp2_with fail
      all_goals
       go_ret;exact⟨rfl,k2⟩
   ·go_wp2_with fail
    all_goals
     go_ret;exact⟨rfl,ε.refl _ _⟩
 ·have h1i: ¬((48:Int)<=(r:Int)):=by omega
  clear h48 h1;go_enter Tryz.func228,Tryz.ntmps228;go_wp2_with fail;all_goals
   (with_reducible refine CC.o.mono ?_);rintro e w' ⟨rfl,rfl⟩;cases bs
   ·go_wp2_with fail
    all_goals
     (with_reducible refine CN.o.mono ?_);rintro e w2 ⟨rfl,k2⟩;cases bn
     ·go_wp2_with fail
      all_goals
       go_ret;exact⟨rfl,k2⟩
     ·go_wp2_with fail
      all_goals
       go_ret;exact⟨rfl,k2⟩
   ·go_wp2_with fail
    all_goals
     go_ret;exact⟨rfl,ε.refl _ _⟩
theorem BR (r:Nat)(hr:kC r)(w:World):Calls Tryz.prog 228 #[.int .i32 (r:Int)] w (Gives w (.int .u8 (qA r))):=by
 have h:=YE r (by unfold kC at hr;omega) (by unfold kC at hr;omega) (by unfold kC at hr;rcases hr with rfl|rfl|rfl|rfl|rfl|rfl|rfl<;>decide) w;have e:(if Ko r=true then(3:Int)else if fB (qo r)=true then 1 else 0)=qA r:=by
  unfold kC at hr
  rcases hr with rfl|rfl|rfl|rfl|rfl|rfl|rfl<;>kernel_rfl
 rwa[e]at h
def zZ (t:Tok)(r:Nat):Bool:=if t.kind=3 then false else if t.kind=0 then false else qA r==t.kind
theorem RP (t:Tok)(ht:t.kind=0\/t.kind=1\/t.kind=3)(r:Nat)(hr:kC r)(w:World):Calls Tryz.prog 227 #[Hg t,.int .i32 (r:Int)] w (Gives w (.bool (zZ t r))):=by
 obtain⟨tk,tt,tn,ta⟩:=t;unfold zZ;simp only at ht⊢;have hrI: ¬((r:Int)=61):=(by unfold kC at hr;omega);have ka:ε η w (w.alloc (.cells #[.int .u8 tk,.string tt,.int .i64 tn,.int .i64 ta] 299)):=δ.alloc _;have ck:=BR r hr (w.alloc (.cells #[.int .u8 tk,.string tt,.int .i64 tn,.int .i64 ta] 299));have ckd:=BR r hr (w.alloc (.cells #[.int .u8 tk,.string tt,.int .i64 tn,.int .i64 ta] 299)).drew;by_cases h3:tk=3
 ·subst h3
  go_enter Tryz.func227,Tryz.ntmps227;go_wp2_with fail;go_ret;exact⟨rfl,ka⟩
 ·rw[if_neg h3]
  have g3:(tk==3)=false:=(by simpa using h3);by_cases h0:tk=0
  ·subst h0
   go_enter Tryz.func227,Tryz.ntmps227;have nB:(w.alloc (.cells #[.int .u8 0,.string tt,.int .i64 tn,.int .i64 ta] 299)).cell? ⟨w.heap.size,0,none⟩=some (.int .u8 0):=(by simp);go_wp2_with fail;refine ak [0,1,2,3,4,6,7,5,8,9,10] (fun W=>ε η (w.alloc (.cells #[.int .u8 0,.string tt,.int .i64 tn,.int .i64 ta] 299)) W) (by kernel_rfl) (by kernel_rfl) rfl δ.drew ?_;simp only[abU];iterate 4 (apply aj rfl rfl;(intro W hW;have z0:=hW.cell (p:=⟨w.heap.size,0,none⟩) id nB;go_simp;rfl);go_frame)
   iterate 5 (apply bf rfl;go_frame)
   apply aj rfl rfl
   ·intro W hW;go_simp;rfl
   go_frame;apply aj rfl rfl
   ·intro W hW;go_simp;rfl
   go_frame;refine aG (fun _=>(ε.refl η _).drew) ?_;go_wp2_with fail;go_ret;exact⟨rfl,ka.drew⟩
  ·rw[if_neg h0]
   have h1:tk=1:=(by omega);subst h1;go_enter Tryz.func227,Tryz.ntmps227;have nB:(w.alloc (.cells #[.int .u8 1,.string tt,.int .i64 tn,.int .i64 ta] 299)).cell? ⟨w.heap.size,0,none⟩=some (.int .u8 1):=(by simp);go_wp2_with fail;refine ak [0,1,2,3,4,6,7,5,8,9,10] (fun W=>ε η (w.alloc (.cells #[.int .u8 1,.string tt,.int .i64 tn,.int .i64 ta] 299)) W) (by kernel_rfl) (by kernel_rfl) rfl δ.drew ?_;simp only[abU];iterate 7 (apply aj rfl rfl;(intro W hW;have z0:=hW.cell (p:=⟨w.heap.size,0,none⟩) id nB;go_simp;rfl);go_frame)
   apply aA rfl rfl;intro K hK;go_wp2_with fail;(with_reducible refine ckd.mono ?_);rintro e w5 ⟨rfl,k5⟩;go_wp2_with fail;refine hK _ _ (fun _=>(ε.refl η _).drew.trans k5) ?_;clear hK;iterate 3 (apply aj rfl rfl;(intro W hW;have z0:=hW.cell (p:=⟨w.heap.size,0,none⟩) id nB;go_simp;rfl);go_frame)
   refine aG (fun _=>(ε.refl η _).drew.trans k5) ?_;go_wp2_with fail;go_ret;exact⟨rfl,ka.trans ((ε.refl η _).drew.trans k5)⟩
