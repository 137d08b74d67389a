/- expr's reader: unary; rows of signs. -/
import Derived.Test.YtglbkodmmogomaaGreatDoorM15
set_option linter.unusedVariables false
set_option linter.unusedSimpArgs false
set_option maxHeartbeats 4000000
set_option maxRecDepth 100000
namespace Go.Proofs.YtglbkodmmogomaaGreatDoor
open Go Go.RowKit
attribute [local irreducible] bH
theorem mQ.wrap {w w4 w5:World}{R:Nat}{e:Int}{x:Ex}{l':List Tok}{p:Option Addr}{c:Nat}{D:Nat->Prop}(hR:R<w.heap.size)(hk4:Kept (one R) w w4)(hs4:w.heap.size<w4.heap.size)(hx:jg w5 D (gu x p c).toArray x)
 (hD: ∀k,D k->w4.heap.size<=k/\k<w5.heap.size) (hr:fJ w5 R l' e) (hk:Kept (one R) w4 w5) {x0 x1 x2:Value} (hT:w5.heap[w.heap.size]?=some (.cells #[x0,x1,x2] 40 (0,0))):
 mQ w R e x l' (.returned (.agg (gu x p c).toArray)) (((w5.setCell ⟨w.heap.size,0,none⟩ (.int .u8 x.op)).setCell ⟨w.heap.size,1,none⟩ (.int .i64 x.n)).setCell ⟨w.heap.size,2,none⟩ (.slice p x.args.length c)):=by
 obtain⟨_,k3⟩:=gX hT (.int .u8 x.op) (.int .i64 x.n) (.slice p x.args.length c)
 refine⟨p,c,D,rfl,hx.kept k3 (fun k hk hs=>by have:=hD k hk;unfold one at hs;omega),fun k hk=>?_,hr.jL k3 (fun k hk=>by unfold one at hk;omega),(hk4.trans hk).new k3 (fun i hi hs=>by unfold one at hs;omega)⟩
 have:=hD k hk
 have:=k3.size
 omega
theorem Ai {l:List Tok}{r:Ex×List Tok}(h:vH l=some r){s:ByteArray}(h1:s≠keyS)(h2:s≠Bh)(h3:s≠G8):jh s l=none:=by
 cases l with
 |nil=>cases h
 |cons t q=>
  refine uK (.inr (.inr fun e=>?_))
  unfold vH at h
  simp only at h
  split at h
  ·cases h
  ·rw[e,if_neg h1,if_neg h2,if_neg h3]at h;cases h
theorem J5 (R:Nat)(e:Int):D8 278 R e vH:=by
 intro w l l' x h hl
 have hlt:=h.lt
 have kA:Kept none' w (w.alloc (.cells #[.int .u8 0, .int .i64 0, .slice none 0 0] 40)):=(Kept.refl _ _).alloc _
 have tA:(w.alloc (.cells #[.int .u8 0, .int .i64 0, .slice none 0 0] 40)).heap[w.heap.size]?=some (.cells #[.int .u8 0, .int .i64 0, .slice none 0 0] 40 (0,0)):=heap_alloc_new _ _
 have n1:jh ⟨#[45]⟩ l=none:=Ai hl (by decide) (by decide) (by decide)
 have n2:jh ⟨#[33]⟩ l=none:=Ai hl (by decide) (by decide) (by decide)
 have c1:=oV R l e ⟨#[45]⟩ _ (h.pure kA)
 have H:=Lib.hid (And.intro kA (And.intro tA hl))
 clear kA tA h hl
 go_enter Tryz.func278,Tryz.ntmps278
 go_wp2_with fail
 (with_reducible refine c1.mono ?_)
 clear c1
 rintro e' w2 hq
 obtain⟨rfl,r2,k2⟩:=hq.no n1
 have c2:=oV R l e ⟨#[33]⟩ w2 r2
 have kq:=H.out.1.pure.trans k2
 have t2:=k2.heap H.out.2.1 (fun h=>by unfold one at h;omega)
 have K2:=Lib.hid (And.intro kq t2)
 clear hq r2 k2 n1 kq t2
 go_wp2_with fail
 (with_reducible refine c2.mono ?_)
 clear c2
 rintro e' w3 hq
 obtain⟨rfl,r3,k3⟩:=hq.no n2
 have c3:=OT R e w3 l l' x r3 H.out.2.2
 have kq:=K2.out.1.trans k3
 have t3:=k3.heap K2.out.2 (fun h=>by unfold one at h;omega)
 have K3:=Lib.hid (And.intro kq t3)
 clear hq r3 k3 n2 kq t3 K2
 go_wp2_with fail
 (with_reducible refine c3.mono ?_)
 clear c3
 rintro e' w5 ⟨p,c,D,rfl,hx,hD,r5,k5⟩
 have t5:=k5.heap K3.out.2 (fun h=>by unfold one at h;omega)
 have f0:=free_at t5 0
 have f1:=free_at t5 1
 have f2:=free_at t5 2
 have z0:=cells_at t5 (j:=0) rfl
 have z1:=cells_at t5 (j:=1) rfl
 have z2:=cells_at t5 (j:=2) rfl
 have F:=mQ.wrap hlt K3.out.1 (Array.getElem?_eq_some_iff.1 K3.out.2).1 hx hD r5 k5 t5
 have s5:=(gX t5 (.int .u8 x.op) (.int .i64 x.n) (.slice p x.args.length c)).1
 have hs5:w.heap.size<w5.heap.size:=(Array.getElem?_eq_some_iff.1 t5).1
 clear hx hD r5 k5 t5
 go_wp2_with fail
 obtain⟨WF,ji⟩: ∃WF,(((w5.setCell ⟨w.heap.size,0,none⟩ (.int .u8 x.op)).setCell ⟨w.heap.size,1,none⟩ (.int .i64 x.n)).setCell ⟨w.heap.size,2,none⟩ (.slice p x.args.length c))=WF:=⟨_,rfl⟩
 rw[ji]at s5 F⊢
 have q0:=cells_at s5 (j:=0) rfl
 have q1:=cells_at s5 (j:=1) rfl
 have q2:=cells_at s5 (j:=2) rfl
 refine bodyPost_ret (v:= .agg (gu x p c).toArray) (by simp[results,Tryz.results278,go_sem,q0,q1,q2]) rfl F
def rowP (pl:List Tok->Option (Ex×List Tok))(sg:List nU):Nat->Ex->List Tok->Option (Ex×List Tok)
 |0,x,l=>some (x,l)
 |f+1,x,l=>match firstT sg l 0 with
  |none=>some (x,l)
  |some r=>match pl r.2.2 with
   |none=>none
   |some q=>rowP pl sg f (.mk r.2.1 0 [x,q.1]) q.2
def rM (pl:List Tok->Option (Ex×List Tok))(sg:List nU)(most:Nat)(l:List Tok):Option (Ex×List Tok):=match pl l with|none=>none|some q=>rowP pl sg most q.1 q.2
theorem AO: ∀{sg:List nU}{l:List Tok}{k:Nat}{r:Nat×Int×List Tok},firstT sg l k=some r-> ∃s,k<=r.1/\sg[r.1-k]?=some s/\s.2=r.2.1
 |[],_,_,_,h=>by cases h
 |s::sg,l,k,r,h=>by
  unfold firstT at h
  split at h
  ·injection h with h;subst h
   exact⟨s,Nat.le_refl _,by simp,rfl⟩
  ·obtain⟨u,h1,h2,h3⟩:=AO h
   refine⟨u,by omega,?_,h3⟩
   rw[show r.1-k=(r.1-(k+1))+1 by omega]
   simpa using h2
structure LC (w wr:World)(R _B X:Nat)(e:Int)(x:Ex)(l:List Tok)(p:Option Addr)(c:Nat):Prop where
 rd:fJ wr R l e
 ex: ∃D,jg wr D (gu x p c).toArray x/\ ∀k,D k->w.heap.size+2<=k/\k≠X/\k<wr.heap.size
 xs:wr.heap[X]?=some (.cells (gu x p c).toArray 40 (0,0))
 tt: ∃x0 x1 x2,wr.heap[w.heap.size+1]?=some (.cells #[x0,x1,x2] 40 (0,0))
 box:wr.cell? ⟨w.heap.size,0,none⟩=some (.pointer (some ⟨R,0,none⟩))
 xb:w.heap.size+2<=X
 kept:Kept (fun q=>q=R\/w.heap.size<=q) w wr
theorem uG (R:Nat)(e:Int)(F:FuncId)(pl:List Tok->Option (Ex×List Tok))(hent: ∀(args:Array Value)(w:World),(callFunc F args).run Tryz.prog w= .ok (.enter F args) w)(hF:D8 F R e pl)
 (sg:List nU) (sb:Nat) (most:Nat) (w:World) (l l':List Tok) (x:Ex) (h:fJ w R l e) (hl:rM pl sg most l=some (x,l')) (hm:most<=400) (hsl:sg.length<=10) (hsr:sb≠R) (hsc: ∀s∈sg,0<=s.2/\s.2<=255)
 (hsg: ∀(i:Nat)(s:nU),sg[i]?=some s->w.cell? ⟨sb,i*2,none⟩=some (.string s.1)/\w.cell? ⟨sb,i*2+1,none⟩=some (.int .u8 s.2)) (hsb:sb<w.heap.size):
 Calls Tryz.prog 229 #[.pointer (some ⟨R,0,none⟩), .func (.func F) #[.pointer (some ⟨R,0,none⟩)] #[], .int .i64 (most:Int), .slice (some ⟨sb,0,none⟩) sg.length sg.length] w (mQ w R e x l'):=by
 have hlt:=h.lt
 unfold rM at hl
 obtain⟨q,hq⟩: ∃q,pl l=some q:=by
  cases e':pl l with
  |none=>rw[e']at hl;cases hl
  |some q=>exact⟨q,rfl⟩
 rw[hq]at hl
 simp only at hl
 obtain⟨x1,l1⟩:=q
 simp only at hl
 obtain⟨W0,hW0⟩: ∃W0,((w.alloc (.cells #[.pointer (some ⟨R,0,none⟩)] 272)).alloc (.cells #[.int .u8 0, .int .i64 0, .slice none 0 0] 40))=W0:=⟨_,rfl⟩
 have k0:Kept none' w W0:=by rw[<-hW0];exact((Kept.refl _ _).alloc _).alloc _
 have b0:W0.cell? ⟨w.heap.size,0,none⟩=some (.pointer (some ⟨R,0,none⟩)):=by rw[<-hW0];simp
 have t0:W0.heap[w.heap.size+1]?=some (.cells #[.int .u8 0, .int .i64 0, .slice none 0 0] 40 (0,0)):=by
  rw[<-hW0]
  have:=heap_alloc_new (w.alloc (.cells #[.pointer (some ⟨R,0,none⟩)] 272)) (.cells #[.int .u8 0, .int .i64 0, .slice none 0 0] 40)
  rwa[World.size_alloc]at this
 have hsz0:W0.heap.size=w.heap.size+2:=by rw[<-hW0];simp
 have c1:=hF W0 l l1 x1 (h.pure k0) hq
 have H:=Lib.hid (And.intro k0 (And.intro b0 (And.intro t0 hsz0)))
 have HW:=Lib.hid hW0
 have HF:=Lib.hid hF
 have HL:=Lib.hid hl
 have HSG:=Lib.hid hsg
 have HSC:=Lib.hid hsc
 clear k0 b0 t0 hsz0 h hW0 hF hl hsg hsc
 go_enter Tryz.func229,Tryz.ntmps229
 go_wp2_with fail
 rw[HW.out]
 (with_reducible refine c1.mono ?_)
 clear c1 hq
 rintro e' w1 ⟨p1,c1,D1,rfl,hx1,hD1,r1,k1⟩
 have st0:LC w (w1.alloc (.cells (gu x1 p1 c1).toArray 40)) R 0 w1.heap.size e x1 l1 p1 c1:=by
  have ka:Kept none' w1 (w1.alloc (.cells (gu x1 p1 c1).toArray 40)):=(Kept.refl _ _).alloc _
  have hs1:=k1.size
  have hs2:=ka.size
  have hsz:=H.out.2.2.2
  refine⟨r1.pure ka,⟨D1,hx1.kept ka (fun _ _ h=>h),fun k hk=>?_⟩,heap_alloc_new _ _,⟨_,_,_,ka.heap (k1.heap H.out.2.2.1 (fun h=>by unfold one at h;omega)) (fun h=>h)⟩,ka.cell (fun h=>h) (k1.cell (p:=⟨w.heap.size,0,none⟩) (show ¬(w.heap.size=R) by omega) H.out.2.1),by omega,
   (H.out.1.pure.new k1 (fun i hi hs=> .inl hs)).new ka (fun _ _ h=>h.elim)⟩
  have:=hD1 k hk
  rw[World.size_alloc]
  omega
 have ST0:=Lib.hid st0
 have hs10:w.heap.size+2<=w1.heap.size:=by have:=k1.size;have:=H.out.2.2.2;omega
 clear st0 hx1 hD1 r1 k1
 go_wp2
 go_loopg [10] (most+1) (fun g vn wr=> ∃(n:Nat)(x2:Ex)(l2:List Tok)(p2:Option Addr)(c2:Nat),n<=most/\vn= .int .i64 (n:Int)/\most+1-n<=g/\rowP pl sg (most-n) x2 l2=some (x,l')/\LC w wr R 0 w1.heap.size e x2 l2 p2 c2)
 case atStart=>exact⟨0,x1,l1,p1,c1,by omega,rfl,by omega,HL.out,ST0.out⟩
 case round=>
  obtain⟨n,x2,l2,p2,c2,hn,rfl,hg,hrow,hst⟩:=hrel
  obtain⟨wo,rfl⟩: ∃wo:World,wo=wr:=⟨_,rfl⟩
  obtain⟨t0,t1,t2,htt⟩:=hst.tt
  have y0:=hst.box
  have y1:=hst.rd.bad
  have xs:=hst.xs
  have a0:=cells_at xs (j:=0) rfl
  have a1:=cells_at xs (j:=1) rfl
  have a2:=cells_at xs (j:=2) rfl
  have f0:=free_at htt 0
  have f1:=free_at htt 1
  have f2:=free_at htt 2
  have z0:=cells_at htt (j:=0) rfl
  have z1:=cells_at htt (j:=1) rfl
  have z2:=cells_at htt (j:=2) rfl
  have hR3:R<wo.heap.size:=hst.rd.lt
  have hT3:w.heap.size+1<wo.heap.size:=(Array.getElem?_eq_some_iff.1 htt).1
  have hX3:w1.heap.size<wo.heap.size:=(Array.getElem?_eq_some_iff.1 xs).1
  have hB3:w.heap.size<wo.heap.size:=by omega
  have fin:rowP pl sg (most-n) x2 l2=some (x2,l2)->mQ w R e x l' (.returned (.agg (gu x2 p2 c2).toArray)) (((wo.setCell ⟨w.heap.size+1,0,none⟩ (.int .u8 x2.op)).setCell ⟨w.heap.size+1,1,none⟩ (.int .i64 x2.n)).setCell ⟨w.heap.size+1,2,none⟩ (.slice p2 x2.args.length c2)):=by
   intro hr
   rw[hrow]at hr
   injection hr with hr
   injection hr with hr1 hr2
   subst hr1
   subst hr2
   obtain⟨D,hx,hD⟩:=hst.ex
   obtain⟨_,k3⟩:=gX htt (.int .u8 x.op) (.int .i64 x.n) (.slice p2 x.args.length c2)
   refine⟨p2,c2,D,rfl,hx.kept k3 (fun k hk hs=>by have:=hD k hk;unfold one at hs;omega),fun k hk=>?_,hst.rd.jL k3 (fun k hk=>by unfold one at hk;omega),(hst.kept.new k3 (fun i hi hs=>by unfold one at hs;omega)).mono (fun k hk hs=>by rcases hs with hs|hs;exact hs;omega)⟩
   have:=hD k hk
   have:=k3.size
   omega
  have s5:=(gX htt (.int .u8 x2.op) (.int .i64 x2.n) (.slice p2 x2.args.length c2)).1
  have FIN:=Lib.hid (And.intro fin s5)
  have HST:=Lib.hid hst
  have HG:=Lib.hid hg
  clear fin s5 hst hg htt xs
  by_cases hlt2:n<most
  ·have hr2:rowP pl sg (most-n) x2 l2=match firstT sg l2 0 with|none=>some (x2,l2)|some r=>match pl r.2.2 with|none=>none|some q=>rowP pl sg (most-(n+1)) (.mk r.2.1 0 [x2,q.1]) q.2:=by
    rw[show most-n=(most-(n+1))+1 by omega];rfl
   have P5: ∀(i:Nat)(s:nU),sg[i]?=some s->wo.cell? ⟨sb,i*2,none⟩=some (.string s.1)/\wo.cell? ⟨sb,i*2+1,none⟩=some (.int .u8 s.2):=fun i s hs=>by
    obtain⟨q0,q1⟩:=HSG.out i s hs
    have hn: ¬(sb=R\/w.heap.size<=sb):=by omega
    exact⟨HST.out.kept.cell (p:=⟨sb,i*2,none⟩) hn q0,HST.out.kept.cell (p:=⟨sb,i*2+1,none⟩) hn q1⟩
   have ci:=Iy R w.heap.size l2 e sg (.slice (some ⟨sb,0,none⟩) sg.length sg.length) hsl wo HST.out.rd y0 (by omega) ⟨sb,rfl,P5⟩ (fun b e=>by cases e;exact hsr)
   have HR2:=Lib.hid hr2
   have HRW:=Lib.hid hrow
   have HS':=Lib.hid P5
   clear hr2 P5 hrow
   go_wp2_with fail
   (with_reducible refine ci.mono ?_)
   clear ci
   rintro e' w2 hq
   obtain⟨k2,hq⟩:=hq
   cases hf:firstT sg l2 0 with
   |none=>
    rw[hf]at hq
    obtain⟨rfl,r2⟩:=hq
    have hrr:rowP pl sg (most-n) x2 l2=some (x2,l2):=by rw[HR2.out,hf]
    obtain⟨t0',t1',t2',ht2⟩: ∃u0 u1 u2,w2.heap[w.heap.size+1]?=some (.cells #[u0,u1,u2] 40 (0,0)):=by
     obtain⟨u0,u1,u2,hu⟩:=HST.out.tt
     exact⟨u0,u1,u2,k2.heap hu (fun h=>by unfold one at h;omega)⟩
    have xs2:=k2.heap HST.out.xs (fun h=>by unfold one at h;omega)
    have a0:=cells_at xs2 (j:=0) rfl
    have a1:=cells_at xs2 (j:=1) rfl
    have a2:=cells_at xs2 (j:=2) rfl
    have f0:=free_at ht2 0
    have f1:=free_at ht2 1
    have f2:=free_at ht2 2
    have z0:=cells_at ht2 (j:=0) rfl
    have z1:=cells_at ht2 (j:=1) rfl
    have z2:=cells_at ht2 (j:=2) rfl
    have hT4:w.heap.size+1<w2.heap.size:=(Array.getElem?_eq_some_iff.1 ht2).1
    rw[HRW.out]at hrr
    injection hrr with hrr
    injection hrr with Ue Ud
    obtain⟨D,hx,hD⟩:=HST.out.ex
    have s5:=(gX ht2 (.int .u8 x2.op) (.int .i64 x2.n) (.slice p2 x2.args.length c2)).1
    have F:mQ w R e x l' (.returned (.agg (gu x2 p2 c2).toArray)) (((w2.setCell ⟨w.heap.size+1,0,none⟩ (.int .u8 x2.op)).setCell ⟨w.heap.size+1,1,none⟩ (.int .i64 x2.n)).setCell ⟨w.heap.size+1,2,none⟩ (.slice p2 x2.args.length c2)):=by
     subst Ue
     subst Ud
     obtain⟨_,k3⟩:=gX ht2 (.int .u8 x.op) (.int .i64 x.n) (.slice p2 x.args.length c2)
     refine⟨p2,c2,D,rfl,(hx.kept k2 (fun k hk hs=>by have:=hD k hk;unfold one at hs;omega)).kept k3 (fun k hk hs=>by have:=hD k hk;unfold one at hs;omega),fun k hk=>?_,r2.jL k3 (fun k hk=>by unfold one at hk;omega),((HST.out.kept.new k2 (fun i hi hs=> .inl hs)).new k3 (fun i hi hs=>by unfold one at hs;omega)).mono (fun k hk hs=>by rcases hs with hs|hs;exact hs;omega)⟩
     have:=hD k hk
     have:=k3.size
     have:=k2.size
     omega
    have FF:=Lib.hid (And.intro F s5)
    clear F s5 hx hD xs2 ht2 Ue Ud r2 k2 hf y0 y1
    go_wp2_with fail
    obtain⟨WF,ji⟩: ∃WF,(((w2.setCell ⟨w.heap.size+1,0,none⟩ (.int .u8 x2.op)).setCell ⟨w.heap.size+1,1,none⟩ (.int .i64 x2.n)).setCell ⟨w.heap.size+1,2,none⟩ (.slice p2 x2.args.length c2))=WF:=⟨_,rfl⟩
    obtain⟨F,s5⟩:=FF.out
    rw[ji]at s5 F⊢
    have q0:=cells_at s5 (j:=0) rfl
    have q1:=cells_at s5 (j:=1) rfl
    have q2:=cells_at s5 (j:=2) rfl
    refine bodyPost_ret (v:= .agg (gu x2 p2 c2).toArray) (by simp[results,Tryz.results229,go_sem,q0,q1,q2]) rfl F
   |some r=>
    rw[hf]at hq
    obtain⟨rfl,r2⟩:=hq
    obtain⟨s,-,hs,Ua⟩:=AO hf
    rw[Nat.sub_zero]at hs
    have hri:r.1<sg.length:=(List.getElem?_eq_some_iff.1 hs).1
    have XP:(r.1:Int)<(sg.length:Int):=by omega
    have hrr:=HR2.out
    rw[hf]at hrr
    simp only at hrr
    obtain⟨q,hq⟩: ∃q,pl r.2.2=some q:=by
     cases e':pl r.2.2 with
     |none=>rw[e',HRW.out]at hrr;cases hrr
     |some q=>exact⟨q,rfl⟩
    rw[hq,HRW.out]at hrr
    simp only at hrr
    have hop:=HSC.out s (List.mem_of_getElem? hs)
    obtain⟨_,qs⟩:=HS'.out _ s hs
    rw[Ua]at qs hop
    have Wh:=k2.cell (p:=⟨sb,r.1*2+1,none⟩) (show ¬(sb=R)from hsr) qs
    obtain⟨t0',t1',t2',ht2⟩: ∃u0 u1 u2,w2.heap[w.heap.size+1]?=some (.cells #[u0,u1,u2] 40 (0,0)):=by
     obtain⟨u0,u1,u2,hu⟩:=HST.out.tt
     exact⟨u0,u1,u2,k2.heap hu (fun h=>by unfold one at h;omega)⟩
    have xs2:=k2.heap HST.out.xs (fun h=>by unfold one at h;omega)
    have Xl:=k2.cell (p:=⟨w.heap.size,0,none⟩) (show ¬(w.heap.size=R) by omega) HST.out.box
    obtain⟨D,hx,hD⟩:=HST.out.ex
    have hx2:=hx.kept k2 (fun k hk hs=>by have:=hD k hk;unfold one at hs;omega)
    have hR4:R<w2.heap.size:=r2.lt
    have Jq:w1.heap.size<w2.heap.size:=(Array.getElem?_eq_some_iff.1 xs2).1
    have hsb4:sb<w2.heap.size:=Nat.lt_of_lt_of_le hsb (Nat.le_trans HST.out.kept.size k2.size)
    have Wx:=HST.out.kept.new k2 (fun i hi hs=> .inl hs)
    have hsz2:=k2.size
    obtain⟨ri,op,rl⟩:=r
    simp only at hri XP hrr hq hop Wh r2
    have Z:=Lib.hid (And.intro r2 (And.intro hrr (And.intro xs2 (And.intro ht2 (And.intro Xl (And.intro hx2 (And.intro Wx (And.intro hq hop))))))))
    have QS:=Lib.hid Wh
    clear r2 hrr hq hop qs hf xs2 ht2 Xl hx2 hx Wx k2 hs Ua y0 y1
    go_wp2_with fail
    obtain⟨y,l3⟩:=q
    have kD:Kept none' w2 w2.drew:=(Kept.refl _ _).drew
    have KD:=Lib.hid kD
    clear kD
    refine ak [0,1,2,3,4,5,6,7,8,9,10] (fun W=>Kept (one R) w2 W) (by kernel_rfl) (by kernel_rfl) rfl KD.out.pure ?_
    simp only[List.map_cons,List.map_nil,List.getElem?_toArray,List.getElem?_cons_zero,List.getElem?_cons_succ,Option.getD_some]
    iterate 7 (apply aj rfl rfl;(intro W hW;have q1:=hW.cell (p:=⟨sb,ri*2+1,none⟩) (show ¬(sb=R)from hsr) QS.out;have xW:=hW.heap Z.out.2.2.1 (show ¬(w1.heap.size=R) by omega);have m0:=cells_at xW (j:=0) rfl;have m1:=cells_at xW (j:=1) rfl;have m2:=cells_at xW (j:=2) rfl;clear xW;go_simp;rfl);go_frame)
    apply aB rfl rfl
    intro K hK
    have c2:=HF.out w2.drew rl l3 y (Z.out.1.pure KD.out) Z.out.2.2.2.2.2.2.2.1
    go_wp2_with fail
    (with_reducible refine c2.mono ?_)
    clear c2
    rintro e' w5 ⟨p5,c5,D5,rfl,hy,hD5,r5,k5⟩
    have k25:Kept (one R) w2 w5:=KD.out.pure.trans k5
    go_wp2_with fail
    refine hK _ _ (fun _=>k25) ?_
    clear hK
    have hx5:=Z.out.2.2.2.2.2.1.kept k25 (fun k hk hs=>by have:=hD k hk;unfold one at hs;omega)
    have hz:=jg.two hx5 hy Z.out.2.2.2.2.2.2.2.2.1 Z.out.2.2.2.2.2.2.2.2.2
    have ka:Kept none' w5 (w5.alloc (.cells (gu x2 p2 c2++gu y p5 c5).toArray 40)):=(Kept.refl _ _).alloc _
    obtain⟨W6,DI⟩: ∃W6,w5.alloc (.cells (gu x2 p2 c2++gu y p5 c5).toArray 40)=W6:=⟨_,rfl⟩
    rw[DI]at hz ka
    have Gt:w5.alloc (.cells #[.int .u8 x2.op, .int .i64 x2.n, .slice p2 x2.args.length c2, .int .u8 y.op, .int .i64 y.n, .slice p5 y.args.length c5] 40)=W6:=DI
    have hsz5:=k25.size
    have PX:W6.heap.size=w5.heap.size+1:=by rw[<-DI];simp
    have Cc:=ka.heap (k25.heap Z.out.2.2.1 (show ¬(w1.heap.size=R) by omega)) (fun h=>h)
    have VY:=ka.heap (k25.heap Z.out.2.2.2.1 (show ¬(w.heap.size+1=R) by omega)) (fun h=>h)
    have Xk:=ka.cell (p:=⟨w.heap.size,0,none⟩) (fun h=>h) (k25.cell (p:=⟨w.heap.size,0,none⟩) (show ¬(w.heap.size=R) by omega) Z.out.2.2.2.2.1)
    have Wv:=(Z.out.2.2.2.2.2.2.1.new k25 (fun i hi hs=> .inl hs)).new ka (fun _ _ h=>h.elim)
    obtain⟨VR,k7⟩:=gX Cc (.int .u8 op) (.int .i64 0) (.slice (some ⟨w5.heap.size,0,none⟩) 2 2)
    have V7:LC w (((W6.setCell ⟨w1.heap.size,0,none⟩ (.int .u8 op)).setCell ⟨w1.heap.size,1,none⟩ (.int .i64 0)).setCell ⟨w1.heap.size,2,none⟩ (.slice (some ⟨w5.heap.size,0,none⟩) 2 2)) R 0 w1.heap.size e (.mk op 0 [x2,y]) l3 (some ⟨w5.heap.size,0,none⟩) 2:=by
     have hs7:=k7.size
     refine⟨(r5.pure ka).jL k7 (fun k hk=>by unfold one at hk;omega),⟨_,hz.kept k7 (fun k hk hs=>?_),fun k hk=>?_⟩,VR,⟨_,_,_,k7.heap VY (show ¬(w.heap.size+1=w1.heap.size) by omega)⟩,k7.cell (p:=⟨w.heap.size,0,none⟩) (show ¬(w.heap.size=w1.heap.size) by omega) Xk,by omega,Wv.new k7 (fun i hi hs=>by unfold one at hs;omega)⟩
     ·unfold one at hs
      rcases hk with hk|hk|hk
      ·have:=hD k hk;omega
      ·have:=hD5 k hk;have:=KD.out.size;omega
      ·omega
     ·rcases hk with hk|hk|hk
      ·have:=hD k hk;omega
      ·have:=hD5 k hk;have:=KD.out.size;omega
      ·omega
    have f0:=free_at Cc 0
    have f1:=free_at Cc 1
    have f2:=free_at Cc 2
    have z0:=cells_at Cc (j:=0) rfl
    have z1:=cells_at Cc (j:=1) rfl
    have z2:=cells_at Cc (j:=2) rfl
    have UH:w1.heap.size<W6.heap.size:=by omega
    have ST:=Lib.hid (And.intro V7 (And.intro (k25.trans ka.pure) Z.out.2.1))
    clear V7 VR k7 Wv Xk VY Cc hz hx5 hy hD5 r5 k5 ka
    apply aB rfl rfl
    intro K2 hK2
    go_wp2_with fail
    try rw[Gt]
    refine hK2 _ _ (fun _=>ST.out.2.1) ?_
    clear hK2
    apply aj rfl rfl
    ·intro W hW;go_simp;rfl
    go_frame
    apply aB rfl rfl
    intro K3 hK3
    go_wp2_with fail
    refine hK3 _ _ (fun h=>absurd rfl h) (nN (by kernel_rfl) ?_)
    clear hK3
    go_wp2_with fail
    go_roundg (most+1-(n+1))
    case rel=>exact⟨n+1,_,_,_,_,by omega,by go_num,Nat.le_refl _,ST.out.2.2.symm,ST.out.1⟩
    case measure=>have:=HG.out;omega
  ·have hne:n=most:=by omega
   have hrr:rowP pl sg (most-n) x2 l2=some (x2,l2):=by rw[hne,Nat.sub_self];rfl
   have FF:=Lib.hid (And.intro (FIN.out.1 hrr) FIN.out.2)
   clear hrr FIN hrow
   go_wp2_with fail
   obtain⟨WF,ji⟩: ∃WF,(((wo.setCell ⟨w.heap.size+1,0,none⟩ (.int .u8 x2.op)).setCell ⟨w.heap.size+1,1,none⟩ (.int .i64 x2.n)).setCell ⟨w.heap.size+1,2,none⟩ (.slice p2 x2.args.length c2))=WF:=⟨_,rfl⟩
   obtain⟨F,s5⟩:=FF.out
   rw[ji]at s5 F⊢
   have q0:=cells_at s5 (j:=0) rfl
   have q1:=cells_at s5 (j:=1) rfl
   have q2:=cells_at s5 (j:=2) rfl
   refine bodyPost_ret (v:= .agg (gu x2 p2 c2).toArray) (by simp[results,Tryz.results229,go_sem,q0,q1,q2]) rfl F
end Go.Proofs.YtglbkodmmogomaaGreatDoor
