/- lex.Tokens. -/
import Derived.Test.YtglbkodmmogomaaGreatDoorI19
set_option linter.unusedVariables false
set_option linter.unusedSimpArgs false
set_option maxHeartbeats 2000000
set_option maxRecDepth 100000
namespace Go.Proofs.YtglbkodmmogomaaGreatDoor
open Go Go.RowKit
attribute [local irreducible] cZ
abbrev qh:Tok:=⟨0,Df,0,0⟩
abbrev Bl (t:Tok):List Value:=[.int .u8 t.kind,.string t.text,.int .i64 t.n,.int .i64 t.at_]
def oP (l:List Tok):List Value:=l.flatMap Bl
theorem UA (l:List Tok)(t:Tok):oP (l++[t])=oP l++Bl t:=by unfold oP;rw[List.flatMap_append];simp
theorem IB: ∀{l:List Tok}{i:Nat}{t:Tok},l[i]?=some t->(oP l)[i*4]?=some (.int .u8 t.kind)/\(oP l)[i*4+1]?=some (.string t.text)/\(oP l)[i*4+2]?=some (.int .i64 t.n)/\(oP l)[i*4+3]?=some (.int .i64 t.at_)
 |x::l,0,t,h=>by cases h;exact⟨rfl,rfl,rfl,rfl⟩
 |x::l,i+1,t,h=>by have ih:=IB (l:=l) (i:=i) (t:=t) (by simpa using h);rw[show(i+1)*4=i*4+1+1+1+1 by omega];unfold oP at ih⊢;rw[List.flatMap_cons];exact ih
def qV (t:Tok)(out:List Tok):List Tok:=if t.kind=0 then out else out++[t]
theorem Tryz.info299: ∃i z,Tryz.prog.info? 299=some i/\i.zero=some z/\i.size=4/\i.bytes=40/\z.cells.size=4:=by have h:(Tryz.prog.info? 299).map (fun i=>(i.zero,i.size,i.bytes))=some (some (.agg #[.int .u8 0,.string ByteArray.empty,.int .i64 0,.int .i64 0]),4,40):=(by kernel_rfl);obtain⟨i,hi,h⟩:=abP.1 h;simp only[Prod.mk.injEq]at h;exact⟨i,_,hi,h.1,h.2.1,h.2.2,by rfl⟩
theorem aap {w:World}{base n:Nat}{va:Value}{l:List Tok}(h:w.ownsRow base 299 4 va n (oP l))(s:Tok)(hb:base<=w.heap.size)(hn:n<=100000):
 ∃iw w',(Builtin.append_ #[269,269] 269 #[va,.slice (some ⟨w.heap.size,0,none⟩) 1 1]).run Tryz.prog (w.alloc (.cells (Bl s).toArray 299))= .ok iw w'/\w'.ownsRow base 299 4 iw (n+1) (oP (l++[s]))/\
  ε (fun q=>base<=q) w w'/\ ∃a c,iw= .slice a (n+1) c:=by
 obtain⟨i,z,hi,hz,hs,hby,hzs⟩:=Tryz.info299;have kA:ε η w (w.alloc (.cells (Bl s).toArray 299)):=δ.alloc _;have hr:=Reads.lit w (Bl s) 299 4 1 rfl (by unfold maxLen;omega);have hl:(oP l).length=n*4:=h.1;obtain⟨v',n',w',b1,b2,b3,b4,_⟩:=aW (P:=Tryz.prog) base 269 269 299 i z 4 40 Tryz.underlying269 hi hz hs hby hzs (by omega) (kA.owns h (fun _ _ h=>h)) hr (by intro y hy;simp at hy;rcases hy with rfl|rfl|rfl|rfl<;>rfl)
  (by simp;omega) (by simp;unfold maxLen;omega) (by have:=kA.size;omega)
 have hn':n'=n+1:=(by simp at b3;omega);subst hn';refine⟨v',w',b1,by rw[UA];exact b2,kA.pure.trans (ε.grown b4 (fun k hk _=>H7 h hk)),?_⟩;obtain⟨a,c,e⟩:=au b2;exact⟨a,c,e⟩
structure oO (w:World)(Bt Bo base:Nat)(t:Tok)(out:List Tok):Prop where
 tk:w.heap[Bt]?=some (.cells (Bl t).toArray 299 (0,0))
 ov: ∃v,w.heap[Bo]?=some (.cells #[v] 269 (0,0))/\w.ownsRow base 299 4 v out.length (oP out)
 ne:Bt≠Bo
 b1:Bt<base
 b2:Bo<base
 b3:base<=w.heap.size
theorem oO.mD {w w':World}{S:Nat->Prop}{Bt Bo base:Nat}{t:Tok}{out:List Tok}(h:oO w Bt Bo base t out)(hk:ε S w w')(hS: ∀k,S k->w.heap.size<=k\/(k≠Bt/\k≠Bo/\k<base)):oO w' Bt Bo base t out:=by obtain⟨h1,⟨v,h2,h3⟩,h4,h5,h6,h7⟩:=h;have hb:=h7;refine⟨hk.heap h1 (fun h=>by have:=hS _ h;omega),⟨v,hk.heap h2 (fun h=>by have:=hS _ h;omega),hk.owns h3 (fun k hk' hs=>?_)⟩,h4,h5,h6,ω h7 hk.size⟩;have:=(h3.lt k hk').1;have:=(h3.lt k hk').2;have:=hS k hs;omega
theorem oO.pure {w w':World}{Bt Bo base:Nat}{t:Tok}{out:List Tok}(h:oO w Bt Bo base t out)(hk:ε η w w'):oO w' Bt Bo base t out:=h.mD hk (fun _ h=>h.elim)
theorem adz {w:World}{b E:Nat}{x0 x1 x2 x3:Value}(h:w.heap[b]?=some (.cells #[x0,x1,x2,x3] E (0,0)))(y0 y1 y2 y3:Value):
 ((((w.setCell ⟨b,0,none⟩ y0).setCell ⟨b,1,none⟩ y1).setCell ⟨b,2,none⟩ y2).setCell ⟨b,3,none⟩ y3).heap[b]?=some (.cells #[y0,y1,y2,y3] E (0,0))/\ε (one b) w ((((w.setCell ⟨b,0,none⟩ y0).setCell ⟨b,1,none⟩ y1).setCell ⟨b,2,none⟩ y2).setCell ⟨b,3,none⟩ y3):=by
 refine⟨?_,?_⟩
 ·have:=bD (bD (bD (bD h 0 y0) 1 y1) 2 y2) 3 y3
  simpa using this
 ·exact ε.setCell (p:=⟨b,3,none⟩) (ε.setCell (p:=⟨b,2,none⟩) (ε.setCell (p:=⟨b,1,none⟩) (ε.setCell (p:=⟨b,0,none⟩) (ε.refl (one b) _) (.inl rfl) _) (.inl rfl) _) (.inl rfl) _) (.inl rfl) _
theorem oO.lay {w:World}{Bt Bo base:Nat}{t:Tok}{out:List Tok}(h:oO w Bt Bo base t out)(u:Tok):oO ((((w.setCell ⟨Bt,0,none⟩ (.int .u8 u.kind)).setCell ⟨Bt,1,none⟩ (.string u.text)).setCell ⟨Bt,2,none⟩ (.int .i64 u.n)).setCell ⟨Bt,3,none⟩ (.int .i64 u.at_)) Bt Bo base u out/\
 ε (one Bt) w ((((w.setCell ⟨Bt,0,none⟩ (.int .u8 u.kind)).setCell ⟨Bt,1,none⟩ (.string u.text)).setCell ⟨Bt,2,none⟩ (.int .i64 u.n)).setCell ⟨Bt,3,none⟩ (.int .i64 u.at_)):=by
 obtain⟨h1,⟨v,h2,h3⟩,h4,h5,h6,h7⟩:=h;obtain⟨g1,g2⟩:=adz h1 (.int .u8 u.kind) (.string u.text) (.int .i64 u.n) (.int .i64 u.at_);refine⟨⟨g1,⟨v,g2.heap h2 (fun e=>h4 e.symm),g2.owns h3 (fun k hk hs=>?_)⟩,h4,h5,h6,ω h7 g2.size⟩,g2⟩;have:=(h3.lt k hk).1;unfold one at hs;omega
def V3 (w:World)(Bt Bo base:Nat)(t:Tok)(out:List Tok)(e:Ending)(w':World):Prop:=e= .returned (.bool true)/\oO w' Bt Bo base qh (qV t out)/\ε (fun q=>q=Bt\/q=Bo\/base<=q) w w'
theorem Qy (Bt Bo base:Nat)(t:Tok)(out:List Tok)(w:World)(h:oO w Bt Bo base t out)(ht:t.kind=0\/t.kind=1\/t.kind=3)(ho:out.length<=1000):
 Calls Tryz.prog 225 #[.pointer (some ⟨Bt,0,none⟩),.pointer (some ⟨Bo,0,none⟩)] w (V3 w Bt Bo base t out):=by
 have hS:=h;obtain⟨h1,⟨v,h2,h3⟩,h4,h5,h6,h7⟩:=h;have x0:=ζ h1 (j:=0) rfl;have x1:=ζ h1 (j:=1) rfl;have x2:=ζ h1 (j:=2) rfl;have x3:=ζ h1 (j:=3) rfl;have f0:=free_at h1 0;have f1:=free_at h1 1;have f2:=free_at h1 2;have f3:=free_at h1 3;have o0:w.cell? ⟨Bo,0,none⟩=some v:=ζ h2 rfl;have hBt:Bt<w.heap.size:=(by omega);have hBo:Bo<w.heap.size:=(by omega);by_cases hk:t.kind=0
 ·have F:=hS.lay qh
  have FF:=γ (show V3 w Bt Bo base t out (.returned (.bool true)) _ from⟨rfl,by rw[show qV t out=out from if_pos hk];exact F.1,F.2.mono (fun k _ h=> .inl h)⟩);obtain⟨tk,tt,tn,ta⟩:=t;simp only at hk;subst hk;clear F hS h1 h2 h3;go_enter Tryz.func225,Tryz.ntmps225;go_wp2_with fail;go_ret;exact FF.o
 ·obtain⟨va,vc,rfl⟩:=au h3
  obtain⟨iw,w',g1,g2,g3,⟨a2,c2,rfl⟩⟩:=aap h3 t h7 (by omega);have o1:=g3.cell (p:=⟨Bo,0,none⟩) (show ¬(base<=Bo) by omega) o0;have of:=free_at (g3.heap h2 (fun h=>by omega)) 0;have hsz:=g3.size;have hset:=bD (g3.heap h2 (fun h=>by omega)) 0 (Value.slice a2 (out.length+1) c2);have ks:ε (one Bo) w' (w'.setCell ⟨Bo,0,none⟩ (Value.slice a2 (out.length+1) c2)):=ε.setCell (p:=⟨Bo,0,none⟩) (ε.refl (one Bo) _) (.inl rfl) _;have st:oO (w'.setCell ⟨Bo,0,none⟩ (Value.slice a2 (out.length+1) c2)) Bt Bo base t (out++[t]):=(by refine⟨ks.heap (g3.heap h1 (fun h=>by omega)) h4,⟨_,hset,?_⟩,h4,h5,h6,ω h7 (ω g3.size ks.size)⟩;rw[ν];exact ks.owns g2 (fun k hk hs=>by have:=(g2.lt k hk).1;unfold one at hs;omega));have F:=st.lay qh;have hks:=ks.size;have y0:=ks.cell (p:=⟨Bt,0,none⟩) h4 (g3.cell (p:=⟨Bt,0,none⟩) (show ¬(base<=Bt) by omega) x0);have y1:=ks.cell (p:=⟨Bt,1,none⟩) h4 (g3.cell (p:=⟨Bt,1,none⟩) (show ¬(base<=Bt) by omega) x1);have y2:=ks.cell (p:=⟨Bt,2,none⟩) h4 (g3.cell (p:=⟨Bt,2,none⟩) (show ¬(base<=Bt) by omega) x2);have y3:=ks.cell (p:=⟨Bt,3,none⟩) h4 (g3.cell (p:=⟨Bt,3,none⟩) (show ¬(base<=Bt) by omega) x3);have q0:=free_at st.tk 0;have q1:=free_at st.tk 1;have q2:=free_at st.tk 2;have q3:=free_at st.tk 3;have hBt':Bt<w'.heap.size:=(by omega);have hBo':Bo<w'.heap.size:=(by omega);have FF:=γ (θ (show V3 w Bt Bo base t out (.returned (.bool true)) _ from⟨rfl,by rw[show qV t out=out++[t]from if_neg hk];exact F.1,((g3.mono (S':=fun q=>q=Bt\/q=Bo\/base<=q) (fun k _ h=> .inr (.inr h))).new ks (fun i hi hs=> .inr (.inl hs))).new F.2 (fun i hi hs=> .inl hs)⟩) g1);obtain⟨tk,tt,tn,ta⟩:=t;simp only at hk ht;have ht2:tk=1\/tk=3:=(by omega);clear F hS h1 h2 h3 g1 g2 g3 hset ks st hk ht f0 f1 f2 f3
  rcases ht2 with rfl|rfl
  ·go_enter Tryz.func225,Tryz.ntmps225
   go_wp2_with (at_builtin;refine jy rfl (.tmp 22) (.tmp 24) 269 rfl _ _ _ rfl rfl FF.o.2 ?_);go_ret;exact FF.o.1
  ·go_enter Tryz.func225,Tryz.ntmps225
   go_wp2_with (at_builtin;refine jy rfl (.tmp 22) (.tmp 24) 269 rfl _ _ _ rfl rfl FF.o.2 ?_);go_ret;exact FF.o.1
structure Lx where
 t:Tok
 out:List Tok
 at_:Int
def lN (s:Lx)(r:Nat):Lx:=
 if zZ s.t r=true then⟨{s.t with text:=s.t.text++qo r},s.out,s.at_+1⟩
 else if r=32 then⟨qh,qV s.t s.out,s.at_+1⟩
 else⟨⟨qA r,qo r,0,s.at_+1⟩,qV s.t s.out,s.at_+1⟩
def Ig (l:List (Nat×Nat))(s:Lx):Lx:=l.foldl (fun s p=>lN s p.2) s
def tH (s:ByteArray):List Tok:=qV (Ig (runes s) ⟨qh,[],-1⟩).t (Ig (runes s) ⟨qh,[],-1⟩).out
structure VX (s:Lx)(n:Nat):Prop where
 kind:s.t.kind=0\/s.t.kind=1\/s.t.kind=3
 out:s.out.length<=n
 text:s.t.text.size<=4*n
 at1: -1<=s.at_
 at2:s.at_<=n
theorem VX.step {s:Lx}{n:Nat}(h:VX s n){r:Nat}(hr:kC r):VX (lN s r) (n+1):=by
 obtain⟨h1,h2,h3,h4,h5⟩:=h
 have hsz:(qo r).size<=4:=by unfold kC at hr;rcases hr with rfl|rfl|rfl|rfl|rfl|rfl|rfl<;>decide
 have hk:qA r=0\/qA r=1\/qA r=3:=(by unfold qA;split;exact .inr (.inr rfl);split;exact .inl rfl;exact .inr (.inl rfl));have he:(qV s.t s.out).length<=n+1:=(by unfold qV;split;omega;rw[ν];simp;omega);unfold lN;split
 ·exact⟨h1,by simp only;omega,by simp only[ByteArray.size_append];omega,by simp only;omega,by simp only;omega⟩
 ·split
  ·exact⟨.inl rfl,he,by simp only;exact Nat.zero_le _,by simp only;omega,by simp only;omega⟩
  ·exact⟨hk,he,by simp only;omega,by simp only;omega,by simp only;omega⟩
def Ui (w:World)(l:List Tok)(e:Ending)(w':World):Prop:= ∃v,e= .returned (.tuple #[v,.int .i64 0,.int .i64 0])/\w'.ownsRow w.heap.size 299 4 v l.length (oP l)/\ε η w w'
theorem oO.text {w:World}{Bt Bo base:Nat}{t:Tok}{out:List Tok}(h:oO w Bt Bo base t out)(x:ByteArray):oO (w.setCell ⟨Bt,1,none⟩ (.string x)) Bt Bo base {t with text:=x} out/\ε (one Bt) w (w.setCell ⟨Bt,1,none⟩ (.string x)):=by obtain⟨h1,⟨v,h2,h3⟩,h4,h5,h6,h7⟩:=h;have g2:ε (one Bt) w (w.setCell ⟨Bt,1,none⟩ (.string x)):=ε.setCell (p:=⟨Bt,1,none⟩) (ε.refl (one Bt) _) (.inl rfl) _;refine⟨⟨by have:=bD h1 1 (Value.string x);simpa using this,⟨v,g2.heap h2 (fun e=>h4 e.symm),g2.owns h3 (fun k hk hs=>?_)⟩,h4,h5,h6,ω h7 g2.size⟩,g2⟩;have:=(h3.lt k hk).1;unfold one at hs;omega
theorem Pn {s:Lx}{r:Nat}(h:zZ s.t r=true):lN s r=⟨{s.t with text:=s.t.text++qo r},s.out,s.at_+1⟩:=if_pos h
theorem J3 {s:Lx}{r:Nat}(h:zZ s.t r=false)(h2:r=32):lN s r=⟨qh,qV s.t s.out,s.at_+1⟩:=by unfold lN;rw[if_neg (by rw[h];simp),if_pos h2]
theorem RQ {s:Lx}{r:Nat}(h:zZ s.t r=false)(h2:r≠32):lN s r=⟨⟨qA r,qo r,0,s.at_+1⟩,qV s.t s.out,s.at_+1⟩:=by unfold lN;rw[if_neg (by rw[h];simp),if_neg h2]
theorem UC (s:ByteArray)(hs:s.size<=400)(hg: ∀p∈runes s,kC p.2)(w:World):Calls Tryz.prog 192 #[.string s] w (Ui w (tH s)):=by
 obtain⟨W0,hW0⟩:=acf ((w.alloc (.cells #[.slice none 0 0] 269)).alloc (.cells (Bl qh).toArray 299));obtain⟨w1,hrun,hit,hk0,hs0⟩:=jQ (P:=Tryz.prog) W0 9 s Tryz.underlying9;have hlen:=iM s;have YD:ε η w W0:=(by rw[<-hW0];exact(δ.alloc _).alloc _);have hsz0:W0.heap.size=w.heap.size+2:=(by rw[<-hW0];simp);have st0:oO w1 (w.heap.size+1) w.heap.size (w.heap.size+3) qh []:=by
  refine⟨hk0.heap ?_ id,⟨.slice none 0 0,hk0.heap ?_ id,World.ownsRow_nil _ _ _ _⟩,by omega,by omega,by omega,by omega⟩
  ·rw[<-hW0]
   have:=heap_alloc_new (w.alloc (.cells #[.slice none 0 0] 269)) (.cells (Bl qh).toArray 299);rwa[World.size_alloc]at this
  ·rw[<-hW0]
   exact((ε.refl η _).alloc _).heap (heap_alloc_new w (.cells #[.slice none 0 0] 269)) id
 have hW0':(w.alloc (.cells #[.slice none 0 0] 269)).alloc (.cells #[.int .u8 0,.string ⟨#[]⟩,.int .i64 0,.int .i64 0] 299)=W0:=hW0;have hW1:w1.heap.size=w.heap.size+3:=(by omega);have H:=γ (θ hit (θ (YD.trans hk0) (θ st0 (θ hg hlen))));have HW:=γ hW0';rw[hsz0]at hrun;rw[hsz0]at H;clear hit hk0 hs0 st0 YD hg hW0 hW0' hlen;have h400: ¬((400:Int)<(s.size:Int)):=(by omega);go_enter Tryz.func192,Tryz.ntmps192;go_wp2_with fail
 go_step3
 go_wp2_with fail
 go_step3
 rw[HW.o];clear hsz0 HW;go_wp2;clear hrun
 go_loopg [8] (runes s).length (fun k va wr=> ∃(left:List (Nat×Nat))(lx:Lx)(n:Nat),mF wr (w.heap.size+2) s left/\left.length=k/\n+left.length=(runes s).length/\(∀p∈left,kC p.2)/\va= .int .i64 lx.at_/\Ig left lx=Ig (runes s) ⟨qh,[],-1⟩/\VX lx n/\
  oO wr (w.heap.size+1) w.heap.size (w.heap.size+3) lx.t lx.out/\ε η w wr)
 case atStart=>exact⟨runes s,⟨qh,[],-1⟩,0,H.o.1,rfl,by omega,H.o.2.2.2.1,rfl,rfl,⟨.inl rfl,ξ _,ξ _,by decide,by decide⟩,H.o.2.2.1,H.o.2.1⟩
 case round=>
  obtain⟨left,lx,n,hit,hk,hnl,hgl,rfl,hlex,hok,hst,hkp⟩:=hrel;obtain⟨wo,rfl⟩: ∃wo:World,wo=wr:=⟨_,rfl⟩;have afJ:n<=400:=(by have:=H.o.2.2.2.2;omega);have hwb:w.heap.size+3<=wo.heap.size:=hst.b3
  rcases hit.next (P:=Tryz.prog) 0 with⟨rfl,hrun⟩|⟨p,left',w2,hp,hrun,hit2,hk2,hs2⟩
  ·have ce:=Qy _ _ _ lx.t lx.out wo hst hok.kind (by have:=hok.out;omega)
   have x3:=ζ hst.tk (j:=3) rfl;have hend:tH s=qV lx.t lx.out:=(by unfold tH;rw[<-hlex];rfl);have HE:=γ (θ hend hkp);clear hit hk hnl hgl hlex hok hst hkp hend H;go_wp2_with fail;(with_reducible refine ce.mono ?_);clear ce;rintro e w4 ⟨rfl,y7,k4⟩;obtain⟨v,hv,hown⟩:=y7.ov;have o0:=ζ hv (j:=0) rfl;obtain⟨va,vc,rfl⟩:=au hown
   have F:=γ (show Ui w (tH s) (.returned (.tuple #[.slice va (qV lx.t lx.out).length vc,.int .i64 0,.int .i64 0])) w4 from
    ⟨_,rfl,by rw[HE.o.1];exact jH hown (by omega),HE.o.2.new k4 (fun i hi hs=>by omega)⟩)
   clear y7 k4 hv hown;go_wp2_with fail;try rw[Exit.noGoto_ret]
   go_ret3
   exact F.o
  ·have hr:=hgl p (by rw[hp];simp)
   have aeA: ∀q∈left',kC q.2:=fun q hq=>hgl q (by rw[hp];simp[hq]);have hm:left'.length<gk:=(by rw[hp]at hk;simp at hk;omega);have PZ:n+1+left'.length=(runes s).length:=(by rw[hp]at hnl;simp at hnl;omega);have abY:Ig left' (lN lx p.2)=Ig (runes s) ⟨qh,[],-1⟩:=(by rw[<-hlex,hp];rfl);have hk3:ε η w w2:=hkp.new hk2 (fun i hi e=>by unfold one at e;omega);have hst2:oO w2 (w.heap.size+1) w.heap.size (w.heap.size+3) lx.t lx.out:=hst.mD hk2 (fun k hk=> .inr (by unfold one at hk;omega));have cg:=RP lx.t hok.kind p.2 hr w2;have x0:=ζ hst2.tk (j:=0) rfl;have x1:=ζ hst2.tk (j:=1) rfl;have x2:=ζ hst2.tk (j:=2) rfl;have x3:=ζ hst2.tk (j:=3) rfl;have hat1:=hok.at1;have hat2:=hok.at2;have htx:=hok.text;have hb2:w.heap.size+3<=w2.heap.size:=hst2.b3;have G:=γ (θ hit2 (θ aeA (θ hm (θ PZ (θ abY (θ hk3 (θ hst2 (θ (hok.step hr) (θ hr hok)))))))));clear hit hk hnl hgl hlex hok hst hkp hit2 aeA hm PZ abY hk3 hst2 hp hk2 hs2 hr;have haw:IntKind.i64.wrap (lx.at_+1)=lx.at_+1:=(by rw[IntKind.wrap_i64];omega);go_wp2_with fail;(with_reducible refine cg.mono ?_);clear cg;rintro e w3 ⟨rfl,k3⟩;have x0:=k3.cell id x0;have x1:=k3.cell id x1;have x2:=k3.cell id x2;have x3:=k3.cell id x3;have vS:=G.o.2.2.2.2.2.2.1.pure k3;have f0:=free_at vS.tk 0;have f1:=free_at vS.tk 1;have f2:=free_at vS.tk 2;have f3:=free_at vS.tk 3;have it3:=G.o.1.kept k3 id;have um:=G.o.2.2.2.2.2.1.trans k3;have hb3:w.heap.size+3<=w3.heap.size:=vS.b3;have hb4:w.heap.size+1<w3.heap.size:=(by omega);have hb5:w.heap.size<w3.heap.size:=by omega
   cases hgo:zZ lx.t p.2 with
   |true=>
    have hst:=Pn hgo;have y7:=vS.text (lx.t.text++qo p.2);have Z:=γ (θ hst (θ y7 (θ (um.new y7.2 (fun i hi hs=>by unfold one at hs;omega)) (it3.kept y7.2 (fun h=>by unfold one at h;omega)))));have hsz:((lx.t.text.size:Int)+((Utf8.encode (p.2:Int)).size:Int))<=9223372036854775807:=by
     have h4:(Utf8.encode (p.2:Int)).size<=4:=by
      have hr:=G.o.2.2.2.2.2.2.2.2.1;unfold kC at hr
      rcases hr with h|h|h|h|h|h|h<;>(rw[h];decide)
     omega
    clear hgo hst y7 vS it3 um k3;go_wp2_with fail;go_roundg left'.length
    case rel=>exact⟨left',lN lx p.2,n+1,Z.o.2.2.2,rfl,G.o.2.2.2.1,G.o.2.1,by rw[Z.o.1],G.o.2.2.2.2.1,G.o.2.2.2.2.2.2.2.1,by rw[Z.o.1];exact Z.o.2.1.1,Z.o.2.2.1⟩
    case measure=>exact G.o.2.2.1
   |false=>
    have ce:=Qy _ _ _ lx.t lx.out w3 vS G.o.2.2.2.2.2.2.2.2.2.kind (by have:=G.o.2.2.2.2.2.2.2.2.2.out;omega);have IT:=γ (θ it3 um);have GO:=γ hgo;clear hgo vS it3 um k3 f0 f1 f2 f3;go_wp2_with fail;(with_reducible refine ce.mono ?_);clear ce;rintro e w4 ⟨rfl,y7,k4⟩;have PG:=IT.o.1.kept k4 (fun h=>by omega);have Jo:=IT.o.2.new k4 (fun i hi hs=>by omega);have hb4:w.heap.size+1<w4.heap.size:=(by have:=y7.b3;omega);by_cases h32:p.2=32
    ·have hst:=J3 GO.o h32
     have ae2:(p.2:Int)=32:=(by omega);have Z:=γ (θ hst (θ y7 (θ Jo PG)));clear hst y7 Jo PG k4;go_wp2_with fail;go_roundg left'.length
     case rel=>exact⟨left',lN lx p.2,n+1,Z.o.2.2.2,rfl,G.o.2.2.2.1,G.o.2.1,by rw[Z.o.1],G.o.2.2.2.2.1,G.o.2.2.2.2.2.2.2.1,by rw[Z.o.1];exact Z.o.2.1,Z.o.2.2.1⟩
     case measure=>exact G.o.2.2.1
    ·have hst:=RQ GO.o h32
     have ae2: ¬(p.2:Int)=32:=(by omega);have hr:=G.o.2.2.2.2.2.2.2.2.1;have h9i: ¬(p.2:Int)=9:=(by unfold kC at hr;omega);have ck:=BR p.2 hr w4;have hkz: ¬qA p.2=0:=(by unfold qA;rw[if_neg h32];split<;>decide);have gkz:(qA p.2==0)=false:=(by simpa using hkz);have e1:((p.2:Int)==32)=false:=(by simpa using ae2);have e2:((p.2:Int)==9)=false:=(by simpa using h9i);obtain⟨kl,hkl⟩: ∃kl,qA p.2=kl:=⟨_,rfl⟩;rw[hkl]at ck hst hkz gkz;have Z:=γ (θ hst (θ y7 (θ Jo PG)));clear hst y7 Jo PG k4 hr hkl;go_wp2_with fail;(with_reducible refine ck.mono ?_);clear ck;rintro e w5 ⟨rfl,k5⟩;have Bv:=Z.o.2.1.pure k5;have y0:=ζ Bv.tk (j:=0) rfl;have y1:=ζ Bv.tk (j:=1) rfl;have y2:=ζ Bv.tk (j:=2) rfl;have y3:=ζ Bv.tk (j:=3) rfl;have q0:=free_at Bv.tk 0;have q1:=free_at Bv.tk 1;have q2:=free_at Bv.tk 2;have q3:=free_at Bv.tk 3;have hb5:w.heap.size+1<w5.heap.size:=(by have:=Bv.b3;omega);have st6:=Bv.lay ⟨kl,qo p.2,0,lx.at_+1⟩;have Y:=γ (θ st6 (θ ((Z.o.2.2.1.trans k5).new st6.2 (fun i hi hs=>by unfold one at hs;omega)) ((Z.o.2.2.2.kept k5 id).kept st6.2 (fun h=>by unfold one at h;omega))));clear Bv st6 k5;go_wp2_with fail;go_roundg left'.length
     case rel=>exact⟨left',lN lx p.2,n+1,Y.o.2.2,rfl,G.o.2.2.2.1,G.o.2.1,by rw[Z.o.1],G.o.2.2.2.2.1,G.o.2.2.2.2.2.2.2.1,by rw[Z.o.1];exact Y.o.1.1,Y.o.2.1⟩
     case measure=>exact G.o.2.2.1
def yC:Nat->Ex->Prop
 |0,_=>False
 |d+1,x=> ∀y∈x.args,yC d y
def V5 (w:World)(d:Nat)(e:Ending)(w':World):Prop:= ∃n:Int,e= .returned (.int .i64 n)/\1<=n/\n<=(d:Int)/\ε η w w'
theorem JJ: ∀(d:Nat)(x:Ex)(a:Array Value)(B:Nat)(left:Int)(w:World),d<=100->yC d x->aC w a x->0<=left->left<=16->w.cell? ⟨B,0,none⟩=some (.func (.func 232) #[] #[.pointer (some ⟨B,0,none⟩)])->
 Calls Tryz.prog 232 #[.agg a,.int .i64 left,.pointer (some ⟨B,0,none⟩)] w (V5 w d)
 |0,x,_,_,_,_,_,h,_,_,_,_=>h.elim
 |d+1,x,a,B,left,w,hd,hx,h,hl0,hl1,hB=>by
  obtain⟨p,cap,rfl,h0,h1,h2,h3,h4,h5⟩:=h.parts;have IH:=γ (fun y a B left w hy h hl0 hl1 hB=>JJ d y a B left w (by omega) hy h hl0 hl1 hB);have SB:=γ (show∀(i:Nat)(y:Ex),x.args[i]?=some y->yC d y from fun i y hy=>hx y (ς hy));have H5:=γ h5;unfold maxLen at h4;have hBl:B<w.heap.size:=(by have:=block_lt_of_cell hB;simpa using this);have HB:=γ hB;clear h h5 hx;go_enter Tryz.func232,Tryz.ntmps232;go_wp2_with fail;obtain⟨W0,hW0⟩:=acf (w.alloc (.cells #[.int .u8 x.op,.int .i64 x.n,.slice p x.args.length cap] 40));have k0:ε η w W0:=(by rw[<-hW0];exact δ.alloc _);rw[hW0];have K0:=γ k0;clear hW0 k0 hB;go_loopg [6,12] x.args.length (fun g vn vi wr=> ∃(k:Nat)(n:Int),k<=x.args.length/\vi= .int .i64 (k:Int)/\vn= .int .i64 n/\x.args.length-k<=g/\0<=n/\n<=(d:Int)/\ε η w wr)
  case atStart=>exact⟨0,0,by omega,rfl,rfl,by omega,by omega,by omega,K0.o⟩
  case round=>
   obtain⟨k,n,hkl,rfl,rfl,hg,hn1,hn2,hkp⟩:=hrel;by_cases hlt:k<x.args.length
   ·obtain⟨y,hy⟩: ∃y,x.args[k]?=some y:=⟨_,ι hlt⟩
    obtain⟨b,off,p',cap',rfl,q0,q1,q2,hy2⟩:=H5.o k y hy;have r0:=hkp.cell (p:=⟨b,off+k*3,none⟩) id q0;have r1:=hkp.cell (p:=⟨b,off+k*3+1,none⟩) id q1;have r2:=hkp.cell (p:=⟨b,off+k*3+2,none⟩) id q2;have bB:=hkp.cell (p:=⟨B,0,none⟩) id HB.o;have hBr:B<wr.heap.size:=Pe hBl hkp.size;have G:=γ (θ hg (θ (aC.pure hkp hy2) (θ hkp (SB.o k y hy))));clear q0 q1 q2 hy hy2 hkp hg H5;by_cases hb:0<left
    ·have Gp:IntKind.i64.wrap (left-1)=left-1:=by rw[IntKind.wrap_i64];omega
     go_wp2_with fail;have ka:ε η wr (wr.alloc (.cells #[.int .u8 y.op,.int .i64 y.n,.slice p' y.args.length cap'] 40)):=δ.alloc _;have c:=IH.o y _ B (left-1) (wr.alloc (.cells #[.int .u8 y.op,.int .i64 y.n,.slice p' y.args.length cap'] 40)) G.o.2.2.2 (aC.pure ka G.o.2.1) (by omega) (by omega) (ka.cell (p:=⟨B,0,none⟩) id bB);(with_reducible refine c.mono ?_);clear c;rintro e w2 ⟨m,rfl,hm1,hm2,k2⟩;have K2:=γ (G.o.2.2.1.trans (ka.trans k2));clear k2 ka;by_cases hmn:n<=m
     ·have e1:max n m=m:=by omega
      go_wp2_with fail;go_roundg (x.args.length-(k+1))
      case rel=>exact⟨k+1,m,by omega,by go_num,by first|rfl|rw[e1],ξ _,by omega,by omega,K2.o⟩
      case measure=>have:=G.o.1;omega
     ·have e1:max n m=n:=by omega
      go_wp2_with fail;go_roundg (x.args.length-(k+1))
      case rel=>exact⟨k+1,n,by omega,by go_num,by first|rfl|rw[e1],ξ _,by omega,by omega,K2.o⟩
      case measure=>have:=G.o.1;omega
    ·go_wp2_with fail
     go_roundg (x.args.length-(k+1))
     case rel=>exact⟨k+1,n,by omega,by go_num,rfl,ξ _,by omega,by omega,G.o.2.2.1.alloc _⟩
     case measure=>have:=G.o.1;omega
   ·have HK:=γ hkp
    have hnw:IntKind.i64.wrap (n+1)=n+1:=(by rw[IntKind.wrap_i64];omega);clear hkp;go_wp2_with fail;go_ret;exact⟨n+1,rfl,by omega,by omega,HK.o⟩
theorem abh (x:Ex)(a:Array Value)(w:World)(hx:yC 16 x)(h:aC w a x):Calls Tryz.prog 195 #[.agg a] w (V5 w 16):=by obtain⟨p,cap,rfl,h0,h1,h2,h3,h4,_⟩:=h.parts;unfold maxLen at h4;have k0:ε η w ((w.alloc (.cells #[.int .u8 x.op,.int .i64 x.n,.slice p x.args.length cap] 40)).alloc (.cells #[.func (.func 232) #[] #[.pointer (some ⟨w.heap.size+1,0,none⟩)]] 173)):=(δ.alloc _).alloc _;have bB:((w.alloc (.cells #[.int .u8 x.op,.int .i64 x.n,.slice p x.args.length cap] 40)).alloc (.cells #[.func (.func 232) #[] #[.pointer (some ⟨w.heap.size+1,0,none⟩)]] 173)).cell? ⟨w.heap.size+1,0,none⟩=some (.func (.func 232) #[] #[.pointer (some ⟨w.heap.size+1,0,none⟩)]):=(by simp);have c:=JJ 16 x _ (w.heap.size+1) 16 _ (by omega) hx (h.pure k0) (by omega) (by omega) bB;have K0:=γ k0;clear k0 bB hx h;go_enter Tryz.func195,Tryz.ntmps195;go_wp2_with fail;(with_reducible refine c.mono ?_);clear c;rintro e w2 ⟨m,rfl,hm1,hm2,k2⟩;have F:=γ (show V5 w 16 (.returned (.int .i64 m)) w2 from⟨m,rfl,hm1,hm2,K0.o.trans k2⟩);have e1:min m 17=m:=(by omega);clear k2;go_wp2_with fail;go_ret;exact F.o
def VN (s:ByteArray):Option Ex:=match orP (tH s)with|some (x,[])=>some x|_=>none
def acD (w:World)(x:Ex)(e:Ending)(w':World):Prop:=
 ∃p c D,e= .returned (.tuple #[.agg (iZ x p c).toArray,.int .i64 0,.int .i64 0])/\lG w' D (iZ x p c).toArray x/\(∀k,D k->w.heap.size<=k/\k<w'.heap.size)/\ε η w w'
theorem abb (s:ByteArray)(hs:s.size<=400)(hg: ∀p∈runes s,kC p.2)(x:Ex)(hx:VN s=some x)(hd:yC 16 x)(w:World):Calls Tryz.prog 160 #[.string s] w (acD w x):=by
 have ht:orP (tH s)=some (x,[]):=by
  unfold VN at hx;split at hx
  ·rename_i e;injection hx with hx;rw[e,hx]
  ·cases hx
 have hln:=iM s;have k0:ε η w (w.alloc (.cells #[.int .u8 0,.int .i64 0,.slice none 0 0] 40)):=δ.alloc _;have t0:(w.alloc (.cells #[.int .u8 0,.int .i64 0,.slice none 0 0] 40)).heap[w.heap.size]?=some (.cells #[.int .u8 0,.int .i64 0,.slice none 0 0] 40 (0,0)):=heap_alloc_new _ _;have ct:=UC s hs hg (w.alloc (.cells #[.int .u8 0,.int .i64 0,.slice none 0 0] 40));have H:=γ (θ k0 (θ t0 (θ ht (θ hd hln))));clear k0 t0 ht hd hx hg hln;go_enter Tryz.func160,Tryz.ntmps160;go_wp2_with fail;(with_reducible refine ct.mono ?_);clear ct;rintro e w1 ⟨v,rfl,hown,k1⟩;obtain⟨va,vc,rfl⟩:=au hown;have kw1:=H.o.1.trans k1;have t1:=k1.heap H.o.2.1 id;obtain⟨w2,hrun,hit,hk2,hs2⟩:=jQ (P:=Tryz.prog) w1 9 s Tryz.underlying9;have H1:=γ (θ (kw1.trans hk2) (θ (hk2.heap t1 id) (θ hown (θ hit (θ hk2 hs2)))));have T1:=γ t1;clear kw1 t1 hown hit hk2 k1;go_wp2;go_loopg [8] (runes s).length (fun k va wr=> ∃(left:List (Nat×Nat))(n:Nat),mF wr w1.heap.size s left/\left.length=k/\n+left.length=(runes s).length/\va= .int .i64 (n:Int)/\ε (one w1.heap.size) w2 wr)
 case atStart=>exact⟨runes s,0,H1.o.2.2.2.1,rfl,by omega,rfl,ε.refl _ _⟩
 case round=>
  obtain⟨left,n,hit,hk,hnl,rfl,hkp⟩:=hrel;obtain⟨wo,rfl⟩: ∃wo:World,wo=wr:=⟨_,rfl⟩;have afJ:n<=400:=by have:=H.o.2.2.2.2;omega
  rcases hit.next (P:=Tryz.prog) 0 with⟨rfl,hrun⟩|⟨p,left',w3,hp,hrun,hit2,hk2,hs3⟩
  ·obtain⟨W0,hW0⟩:=acf (wo.alloc (.cells #[.slice va (tH s).length vc,.int .i64 (n:Int),.bool false,.int .i64 0] 274))
   have ka:ε η wo W0:=(by rw[<-hW0];exact δ.alloc _);have hs1:=H1.o.2.2.2.2.1.size;have ahJ:=H1.o.2.2.2.2.2;have hsz:=hkp.size;have hown:W0.ownsRow (w.alloc (.cells #[.int .u8 0,.int .i64 0,.slice none 0 0] 40)).heap.size 299 4 (.slice va (tH s).length vc) (tH s).length (oP (tH s)):=
    ka.owns (hkp.owns (H1.o.2.2.2.2.1.owns H1.o.2.2.1 (fun _ _ h=>h)) (fun k hk hs=>by have:=(H1.o.2.2.1.lt k hk).2;unfold one at hs;omega)) (fun _ _ h=>h)
   have hrd:iH W0 wo.heap.size (tH s) (n:Int):=by
    have hR:W0.heap[wo.heap.size]?=some (.cells #[.slice va (tH s).length vc,.int .i64 (n:Int),.bool false,.int .i64 0] 274 (0,0)):=by rw[<-hW0];exact heap_alloc_new _ _
    rcases hown.2 with⟨e,h0⟩|⟨g,cap,cur,e,hbg,hg,hnc,hcm,hcs,htake⟩
    ·have:tH s=[]:=τ h0
     simp only[Value.slice.injEq]at e;obtain⟨rfl,_,rfl⟩:=e;exact⟨none,0,hR,by omega,by unfold maxLen;omega,.inl this⟩
    ·simp only[Value.slice.injEq,true_and]at e
     obtain⟨rfl,rfl⟩:=e;have hgl:g<wo.heap.size:=(by have:=(H1.o.2.2.1.lt g rfl).2;omega);refine⟨some ⟨g,0,none⟩,vc,hR,hnc,hcm,.inr ⟨g,0,rfl,hgl,fun i t ht=>?_⟩⟩;obtain⟨q0,q1,q2,q3⟩:=IB ht;have hc:=hown.cells (g:=g) rfl;have z0:=hc _ _ q0;have z1:=hc _ _ q1;have z2:=hc _ _ q2;have z3:=hc _ _ q3;rw[Addr.add_lit]at z0 z1 z2 z3;simp only[Nat.zero_add]at z0 z1 z2 z3⊢;exact⟨z0,z1,z2,z3⟩
   have co:=acU wo.heap.size (n:Int) W0 (tH s) [] x hrd H.o.2.2.1;have hT1:w.heap.size<w1.heap.size:=(κ.1 T1.o).1;have hw1o:w1.heap.size<wo.heap.size:=by omega
   have tT:=ka.heap (hkp.heap H1.o.2.1 (show ¬(w.heap.size=w1.heap.size) by
    have:=(κ.1 H1.o.2.1).1;have:=H1.o.1.size;have h2:=H1.o.2.2.1.1;have:=(κ.1 T1.o).1
    omega)) id
   have YD:ε η w W0:=(H1.o.1.new hkp (fun i hi hs=>by unfold one at hs;have:=(κ.1 T1.o).1;omega)).trans ka;have hsz0:W0.heap.size=wo.heap.size+1:=(by rw[<-hW0];simp);have K0:=γ (θ YD tT);have HW:=γ hW0;have hT0:w.heap.size<W0.heap.size:=(κ.1 tT).1;clear hit hk hnl hkp ka hown hrd YD tT hW0 hs1 ahJ;go_wp2_with fail;rw[HW.o];(with_reducible refine co.mono ?_);clear co;rintro e w5 ⟨p,c,D,rfl,hx,hD,r5,k5⟩;have kx:ε η w5 (w5.alloc (.cells (iZ x p c).toArray 40)):=δ.alloc _;obtain⟨W6,Jv⟩:=acf (w5.alloc (.cells (iZ x p c).toArray 40));have Qg:w5.alloc (.cells #[.int .u8 x.op,.int .i64 x.n,.slice p x.args.length c] 40)=W6:=Jv;have x6:W6.heap[w5.heap.size]?=some (.cells (iZ x p c).toArray 40 (0,0)):=(by rw[<-Jv];exact heap_alloc_new _ _);rw[Jv]at kx;have r6:=r5.pure kx;obtain⟨ta,tcap,l6⟩:=r6.list;have b6:=r6.bad;have hR6:wo.heap.size<W6.heap.size:=r6.lt;have hx6:=hx.kept kx (fun _ _ h=>h);have cd:=abh x _ W6 H.o.2.2.2.1 hx6.at;have t6:=kx.heap (k5.heap K0.o.2 (fun h=>by unfold one at h;omega)) id;have k06:ε (one wo.heap.size) W0 W6:=k5.trans kx.pure;have a0:=ζ x6 (j:=0) rfl;have a1:=ζ x6 (j:=1) rfl;have a2:=ζ x6 (j:=2) rfl;have hX6:w5.heap.size<W6.heap.size:=(κ.1 x6).1;have Z:=γ (θ hx6 (θ t6 (θ k06 (θ x6 (show∀k,D k->W0.heap.size<=k/\k<W6.heap.size from fun k hk=>by have:=hD k hk;have:=kx.size;omega)))));have HW6:=γ Qg;rw[<-Qg]at l6 b6 a0 a1 a2 cd hR6 hX6;clear hx hD r5 k5 kx Jv Qg x6 r6 hx6 t6 k06 HW;go_wp2_with fail;(with_reducible refine cd.mono ?_);clear cd;rintro e w7 ⟨m,rfl,hm1,hm2,k7⟩;rw[HW6.o]at k7;have hx7:=Z.o.1.kept k7 (fun _ _ h=>h);have t7:=k7.heap Z.o.2.1 id;have x7:=k7.heap Z.o.2.2.2.1 id;have b7:=k7.cell (p:=⟨wo.heap.size,2,none⟩) id (by rw[HW6.o]at b6;exact b6);have a0:=ζ x7 (j:=0) rfl;have a1:=ζ x7 (j:=1) rfl;have a2:=ζ x7 (j:=2) rfl;have f0:=free_at t7 0;have f1:=free_at t7 1;have f2:=free_at t7 2;have z0:=ζ t7 (j:=0) rfl;have z1:=ζ t7 (j:=1) rfl;have z2:=ζ t7 (j:=2) rfl;have hX7:w5.heap.size<w7.heap.size:=(κ.1 x7).1;have hT7:w.heap.size<w7.heap.size:=(κ.1 t7).1;obtain⟨s8,k8⟩:=jE t7 (.int .u8 x.op) (.int .i64 x.n) (.slice p x.args.length c);have F:acD w x (.returned (.tuple #[.agg (iZ x p c).toArray,.int .i64 0,.int .i64 0])) (((w7.setCell ⟨w.heap.size,0,none⟩ (.int .u8 x.op)).setCell ⟨w.heap.size,1,none⟩ (.int .i64 x.n)).setCell ⟨w.heap.size,2,none⟩ (.slice p x.args.length c)):=(by have h0:=K0.o.1.size;have h7:=k7.size;have h8:=k8.size;refine⟨p,c,D,rfl,hx7.kept k8 (fun k hk hs=>by have:=Z.o.2.2.2.2 k hk;unfold one at hs;omega),fun k hk=>by have:=Z.o.2.2.2.2 k hk;omega,((K0.o.1.new Z.o.2.2.1 (fun i hi hs=>by unfold one at hs;omega)).trans k7).new k8 (fun i hi hs=>by unfold one at hs;omega)⟩);have hm16: ¬(16<m):=(by omega);have FF:=γ (θ F s8);clear F s8 k8 hx7 t7 x7 k7 l6 b6;go_wp2_with fail;obtain⟨WF,lI⟩: ∃WF,(((w7.setCell ⟨w.heap.size,0,none⟩ (.int .u8 x.op)).setCell ⟨w.heap.size,1,none⟩ (.int .i64 x.n)).setCell ⟨w.heap.size,2,none⟩ (.slice p x.args.length c))=WF:=⟨_,rfl⟩;obtain⟨F,s5⟩:=FF.o;rw[lI]at s5 F⊢;have q0:=ζ s5 (j:=0) rfl;have q1:=ζ s5 (j:=1) rfl;have q2:=ζ s5 (j:=2) rfl;refine bodyPost_ret (v:= .tuple #[.agg (iZ x p c).toArray,.int .i64 0,.int .i64 0]) (by simp[results,Tryz.results160,go_sem,q0,q1,q2]) rfl F
  ·have hm:left'.length<gk:=by rw[hp]at hk;simp at hk;omega
   have PZ:n+1+left'.length=(runes s).length:=(by rw[hp]at hnl;simp at hnl;omega);have hnw:IntKind.i64.wrap ((n:Int)+1)=((n+1:Nat):Int):=wrapN (n:=n+1) (by omega);have G:=γ (θ hit2 (θ hm (θ PZ (hkp.trans hk2))));clear hit hk hnl hkp hit2 hm PZ hp hk2 hs3;go_wp2;go_roundg left'.length
   case rel=>exact⟨left',n+1,G.o.1,rfl,G.o.2.2.1,by go_num,G.o.2.2.2⟩
   case measure=>exact G.o.2.1
