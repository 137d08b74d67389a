/- lex.Tokens. -/
import Derived.Test.YtglbkodmmogomaaGreatDoorS10
set_option linter.unusedVariables false
set_option linter.unusedSimpArgs false
set_option maxHeartbeats 4000000
set_option maxRecDepth 100000
namespace Go.Proofs.YtglbkodmmogomaaGreatDoor
open List Go.Proofs.Tryz
section
open Go Go.RowKit
attribute [local irreducible] dI
abbrev qI:Tok:=⟨0,Ae,0,0⟩
abbrev BI (t:Tok):List Value:=[.int .u8 t.kind,.string t.text,.int .i64 t.n,.int .i64 t.at_]
def pO (l:List Tok):List Value:=l.flatMap BI
theorem U8 (l:List Tok)(t:Tok):pO (l++[t])=pO l++BI t:=by unfold pO;rw[flatMap_append];simp
theorem Jl: ∀{l:List Tok}{i:Nat}{t:Tok},l[i]?=some t->(pO l)[i*4]?=some (.int .u8 t.kind)/\(pO l)[i*4+1]?=some (.string t.text)/\(pO l)[i*4+2]?=some (.int .i64 t.n)/\(pO l)[i*4+3]?=some (.int .i64 t.at_)
 |x::l,0,t,h=>by cases h;exact⟨rfl,rfl,rfl,rfl⟩
 |x::l,i+1,t,h=>by have ih:=Jl (l:=l) (i:=i) (t:=t) (by simpa using h);rw[show(i+1)*4=i*4+1+1+1+1 by omega];unfold pO at ih⊢;rw[flatMap_cons];exact ih
def rM (t:Tok)(out:List Tok):List Tok:=if t.kind=0 then out else out++[t]
theorem Tryz.info299: ∃i z,Tryz.prog.info? 299=some i/\i.zero=some z/\i.size=4/\i.bytes=40/\z.cells.size=4:=by have h:(prog.info? 299).map (fun i=>(i.zero,i.size,i.bytes))=some (some (.agg #[.int .u8 0,.string ByteArray.empty,.int .i64 0,.int .i64 0]),4,40):=(by kernel_rfl);obtain⟨i,hi,h⟩:=acg.1 h;simp only[Prod.mk.injEq]at h;exact⟨i,_,hi,h.1,h.2.1,h.2.2,by rfl⟩
theorem aaX {w:World}{base n:Nat}{va:Value}{l:List Tok}(h:w.ownsRow base 299 4 va n (pO l))(s:Tok)(hb:base<=w.heap.size)(hn:n<=100000):
 ∃iC w',(Builtin.append_ #[269,269] 269 #[va,.slice (some ⟨w.heap.size,0,none⟩) 1 1]).run prog (w.alloc (.cells (BI s).toArray 299))= .ok iC w'/\w'.ownsRow base 299 4 iC (n+1) (pO (l++[s]))/\
  ε (fun q=>base<=q) w w'/\ ∃a c,iC= .slice a (n+1) c:=by
 obtain⟨i,z,hi,hz,hs,hby,hzs⟩:=Tryz.info299;have kA:ε η w (w.alloc (.cells (BI s).toArray 299)):=δ.alloc _;have hr:=Reads.lit w (BI s) 299 4 1 rfl (by unfold maxLen;omega);have hl:(pO l).length=n*4:=h.1;obtain⟨v',n',w',b1,b2,b3,b4,_⟩:=aZ (P:=prog) base 269 269 299 i z 4 40 underlying269 hi hz hs hby hzs (by omega) (kA.owns h (fun _ _ h=>h)) hr (by intro y hy;simp at hy;rcases hy with rfl|rfl|rfl|rfl<;>rfl)
  (by simp;omega) (by simp;unfold maxLen;omega) (by have:=kA.size;omega)
 have hn':n'=n+1:=(by simp at b3;omega);subst hn';refine⟨v',w',b1,by rw[U8];exact b2,kA.pure.trans (ε.grown b4 (fun k hk _=>IQ h hk)),?_⟩;obtain⟨a,c,e⟩:=au b2;exact⟨a,c,e⟩
structure pK (w:World)(Bt Bo base:Nat)(t:Tok)(out:List Tok):Prop where
 tk:w.heap[Bt]?=some (.cells (BI t).toArray 299 (0,0))
 ov: ∃v,w.heap[Bo]?=some (.cells #[v] 269 (0,0))/\w.ownsRow base 299 4 v out.length (pO out)
 ne:Bt≠Bo
 b1:Bt<base
 b2:Bo<base
 b3:base<=w.heap.size
theorem pK.iT {w w':World}{S:Nat->Prop}{Bt Bo base:Nat}{t:Tok}{out:List Tok}(h:pK w Bt Bo base t out)(hk:ε S w w')(hS: ∀k,S k->w.heap.size<=k\/(k≠Bt/\k≠Bo/\k<base)):pK w' Bt Bo base t out:=by obtain⟨h1,⟨v,h2,h3⟩,h4,h5,h6,h7⟩:=h;have hb:=h7;refine⟨hk.heap h1 (fun h=>by have:=hS _ h;omega),⟨v,hk.heap h2 (fun h=>by have:=hS _ h;omega),hk.owns h3 (fun k hk' hs=>?_)⟩,h4,h5,h6,ω h7 hk.size⟩;have:=(h3.lt k hk').1;have:=(h3.lt k hk').2;have:=hS k hs;omega
theorem pK.pure {w w':World}{Bt Bo base:Nat}{t:Tok}{out:List Tok}(h:pK w Bt Bo base t out)(hk:ε η w w'):pK w' Bt Bo base t out:=h.iT hk (fun _ h=>h.elim)
theorem aed {w:World}{b E:Nat}{x0 x1 x2 x3:Value}(h:w.heap[b]?=some (.cells #[x0,x1,x2,x3] E (0,0)))(y0 y1 y2 y3:Value):
 ((((w.setCell ⟨b,0,none⟩ y0).setCell ⟨b,1,none⟩ y1).setCell ⟨b,2,none⟩ y2).setCell ⟨b,3,none⟩ y3).heap[b]?=some (.cells #[y0,y1,y2,y3] E (0,0))/\ε (one b) w ((((w.setCell ⟨b,0,none⟩ y0).setCell ⟨b,1,none⟩ y1).setCell ⟨b,2,none⟩ y2).setCell ⟨b,3,none⟩ y3):=by
 refine⟨?_,?_⟩
 ·have:=aU (aU (aU (aU h 0 y0) 1 y1) 2 y2) 3 y3
  simpa using this
 ·exact ε.setCell (p:=⟨b,3,none⟩) (ε.setCell (p:=⟨b,2,none⟩) (ε.setCell (p:=⟨b,1,none⟩) (ε.setCell (p:=⟨b,0,none⟩) (ε.refl (one b) _) (.inl rfl) _) (.inl rfl) _) (.inl rfl) _) (.inl rfl) _
theorem pK.lay {w:World}{Bt Bo base:Nat}{t:Tok}{out:List Tok}(h:pK w Bt Bo base t out)(u:Tok):pK ((((w.setCell ⟨Bt,0,none⟩ (.int .u8 u.kind)).setCell ⟨Bt,1,none⟩ (.string u.text)).setCell ⟨Bt,2,none⟩ (.int .i64 u.n)).setCell ⟨Bt,3,none⟩ (.int .i64 u.at_)) Bt Bo base u out/\
 ε (one Bt) w ((((w.setCell ⟨Bt,0,none⟩ (.int .u8 u.kind)).setCell ⟨Bt,1,none⟩ (.string u.text)).setCell ⟨Bt,2,none⟩ (.int .i64 u.n)).setCell ⟨Bt,3,none⟩ (.int .i64 u.at_)):=by
 obtain⟨h1,⟨v,h2,h3⟩,h4,h5,h6,h7⟩:=h;obtain⟨g1,g2⟩:=aed h1 (.int .u8 u.kind) (.string u.text) (.int .i64 u.n) (.int .i64 u.at_);refine⟨⟨g1,⟨v,g2.heap h2 (fun e=>h4 e.symm),g2.owns h3 (fun k hk hs=>?_)⟩,h4,h5,h6,ω h7 g2.size⟩,g2⟩;have:=(h3.lt k hk).1;unfold one at hs;omega
def WZ (w:World)(Bt Bo base:Nat)(t:Tok)(out:List Tok)(e:Ending)(w':World):Prop:=e= .returned (.bool true)/\pK w' Bt Bo base qI (rM t out)/\ε (fun q=>q=Bt\/q=Bo\/base<=q) w w'
theorem Rk (Bt Bo base:Nat)(t:Tok)(out:List Tok)(w:World)(h:pK w Bt Bo base t out)(ht:t.kind=0\/t.kind=1\/t.kind=3)(ho:out.length<=1000):
 Calls prog 225 #[.pointer (some ⟨Bt,0,none⟩),.pointer (some ⟨Bo,0,none⟩)] w (WZ w Bt Bo base t out):=by
 have hS:=h;obtain⟨h1,⟨v,h2,h3⟩,h4,h5,h6,h7⟩:=h;have x0:=ζ h1 (j:=0) rfl;have x1:=ζ h1 (j:=1) rfl;have x2:=ζ h1 (j:=2) rfl;have x3:=ζ h1 (j:=3) rfl;have f0:=free_at h1 0;have f1:=free_at h1 1;have f2:=free_at h1 2;have f3:=free_at h1 3;have o0:w.cell? ⟨Bo,0,none⟩=some v:=ζ h2 rfl;have hBt:Bt<w.heap.size:=(by omega);have hBo:Bo<w.heap.size:=(by omega);by_cases hk:t.kind=0
 ·have F:=hS.lay qI
  have FF:=γ (show WZ w Bt Bo base t out (.returned (.bool true)) _ from⟨rfl,by rw[show rM t out=out from if_pos hk];exact F.1,F.2.mono (fun k _ h=> .inl h)⟩);obtain⟨tk,tt,tn,ta⟩:=t;simp only at hk;subst hk;clear F hS h1 h2 h3;go_enter func225,ntmps225;go_wp2;go_ret;exact FF.o
 ·obtain⟨va,vc,rfl⟩:=au h3
  obtain⟨iC,w',g1,g2,g3,⟨a2,c2,rfl⟩⟩:=aaX h3 t h7 (by omega);have o1:=g3.cell (p:=⟨Bo,0,none⟩) (show ¬(base<=Bo) by omega) o0;have of:=free_at (g3.heap h2 (fun h=>by omega)) 0;have hsz:=g3.size;have hset:=aU (g3.heap h2 (fun h=>by omega)) 0 (Value.slice a2 (out.length+1) c2);have ks:ε (one Bo) w' (w'.setCell ⟨Bo,0,none⟩ (Value.slice a2 (out.length+1) c2)):=ε.setCell (p:=⟨Bo,0,none⟩) (ε.refl (one Bo) _) (.inl rfl) _;have st:pK (w'.setCell ⟨Bo,0,none⟩ (Value.slice a2 (out.length+1) c2)) Bt Bo base t (out++[t]):=(by refine⟨ks.heap (g3.heap h1 (fun h=>by omega)) h4,⟨_,hset,?_⟩,h4,h5,h6,ω h7 (ω g3.size ks.size)⟩;rw[ν];exact ks.owns g2 (fun k hk hs=>by have:=(g2.lt k hk).1;unfold one at hs;omega));have F:=st.lay qI;have hks:=ks.size;have y0:=ks.cell (p:=⟨Bt,0,none⟩) h4 (g3.cell (p:=⟨Bt,0,none⟩) (show ¬(base<=Bt) by omega) x0);have y1:=ks.cell (p:=⟨Bt,1,none⟩) h4 (g3.cell (p:=⟨Bt,1,none⟩) (show ¬(base<=Bt) by omega) x1);have y2:=ks.cell (p:=⟨Bt,2,none⟩) h4 (g3.cell (p:=⟨Bt,2,none⟩) (show ¬(base<=Bt) by omega) x2);have y3:=ks.cell (p:=⟨Bt,3,none⟩) h4 (g3.cell (p:=⟨Bt,3,none⟩) (show ¬(base<=Bt) by omega) x3);have q0:=free_at st.tk 0;have q1:=free_at st.tk 1;have q2:=free_at st.tk 2;have q3:=free_at st.tk 3;have hBt':Bt<w'.heap.size:=(by omega);have hBo':Bo<w'.heap.size:=(by omega);have FF:=γ (θ (show WZ w Bt Bo base t out (.returned (.bool true)) _ from⟨rfl,by rw[show rM t out=out++[t]from if_neg hk];exact F.1,((g3.mono (S':=fun q=>q=Bt\/q=Bo\/base<=q) (fun k _ h=> .inr (.inr h))).new ks (fun i hi hs=> .inr (.inl hs))).new F.2 (fun i hi hs=> .inl hs)⟩) g1);obtain⟨tk,tt,tn,ta⟩:=t;simp only at hk ht;have ht2:tk=1\/tk=3:=(by omega);clear F hS h1 h2 h3 g1 g2 g3 hset ks st hk ht f0 f1 f2 f3
  rcases ht2 with rfl|rfl
  ·go_enter func225,ntmps225
   go_wp2_with (at_builtin;refine jL rfl (.tmp 22) (.tmp 24) 269 rfl _ _ _ rfl rfl FF.o.2 ?_);go_ret;exact FF.o.1
  ·go_enter func225,ntmps225
   go_wp2_with (at_builtin;refine jL rfl (.tmp 22) (.tmp 24) 269 rfl _ _ _ rfl rfl FF.o.2 ?_);go_ret;exact FF.o.1
structure Lx where
 t:Tok
 out:List Tok
 at_:Int
def mV (s:Lx)(r:Nat):Lx:=
 if Aq s.t r=true then⟨{s.t with text:=s.t.text++qM r},s.out,s.at_+1⟩
 else if r=32 then⟨qI,rM s.t s.out,s.at_+1⟩
 else⟨⟨qQ r,qM r,0,s.at_+1⟩,rM s.t s.out,s.at_+1⟩
def IZ (l:List (Nat×Nat))(s:Lx):Lx:=l.foldl (fun s p=>mV s p.2) s
def ug (s:ByteArray):List Tok:=rM (IZ (runes s) ⟨qI,[],-1⟩).t (IZ (runes s) ⟨qI,[],-1⟩).out
structure WY (s:Lx)(n:Nat):Prop where
 kind:s.t.kind=0\/s.t.kind=1\/s.t.kind=3
 out:s.out.length<=n
 text:s.t.text.size<=4*n
 at1: -1<=s.at_
 at2:s.at_<=n
theorem WY.step {s:Lx}{n:Nat}(h:WY s n){r:Nat}(hr:kY r):WY (mV s r) (n+1):=by
 obtain⟨h1,h2,h3,h4,h5⟩:=h
 have hsz:(qM r).size<=4:=by unfold kY at hr;rcases hr with rfl|rfl|rfl|rfl|rfl|rfl|rfl<;>decide
 have hk:qQ r=0\/qQ r=1\/qQ r=3:=(by unfold qQ;split;exact .inr (.inr rfl);split;exact .inl rfl;exact .inr (.inl rfl));have he:(rM s.t s.out).length<=n+1:=(by unfold rM;split;omega;rw[ν];simp;omega);unfold mV;split
 ·exact⟨h1,by simp only;omega,by simp only[ByteArray.size_append];omega,by simp only;omega,by simp only;omega⟩
 ·split
  ·exact⟨.inl rfl,he,by simp only;exact Nat.zero_le _,by simp only;omega,by simp only;omega⟩
  ·exact⟨hk,he,by simp only;omega,by simp only;omega,by simp only;omega⟩
def UO (w:World)(l:List Tok)(e:Ending)(w':World):Prop:= ∃v,e= .returned (.tuple #[v,.int .i64 0,.int .i64 0])/\w'.ownsRow w.heap.size 299 4 v l.length (pO l)/\ε η w w'
theorem pK.text {w:World}{Bt Bo base:Nat}{t:Tok}{out:List Tok}(h:pK w Bt Bo base t out)(x:ByteArray):pK (w.setCell ⟨Bt,1,none⟩ (.string x)) Bt Bo base {t with text:=x} out/\ε (one Bt) w (w.setCell ⟨Bt,1,none⟩ (.string x)):=by obtain⟨h1,⟨v,h2,h3⟩,h4,h5,h6,h7⟩:=h;have g2:ε (one Bt) w (w.setCell ⟨Bt,1,none⟩ (.string x)):=ε.setCell (p:=⟨Bt,1,none⟩) (ε.refl (one Bt) _) (.inl rfl) _;refine⟨⟨by have:=aU h1 1 (Value.string x);simpa using this,⟨v,g2.heap h2 (fun e=>h4 e.symm),g2.owns h3 (fun k hk hs=>?_)⟩,h4,h5,h6,ω h7 g2.size⟩,g2⟩;have:=(h3.lt k hk).1;unfold one at hs;omega
theorem P8 {s:Lx}{r:Nat}(h:Aq s.t r=true):mV s r=⟨{s.t with text:=s.t.text++qM r},s.out,s.at_+1⟩:=if_pos h
theorem KY {s:Lx}{r:Nat}(h:Aq s.t r=false)(h2:r=32):mV s r=⟨qI,rM s.t s.out,s.at_+1⟩:=by unfold mV;rw[if_neg (by rw[h];simp),if_pos h2]
theorem Tv {s:Lx}{r:Nat}(h:Aq s.t r=false)(h2:r≠32):mV s r=⟨⟨qQ r,qM r,0,s.at_+1⟩,rM s.t s.out,s.at_+1⟩:=by unfold mV;rw[if_neg (by rw[h];simp),if_neg h2]
theorem U9 (s:ByteArray)(hs:s.size<=400)(hg: ∀p∈runes s,kY p.2)(w:World):Calls prog 192 #[.string s] w (UO w (ug s)):=by
 obtain⟨W0,hW0⟩:=acu ((w.alloc (.cells #[.slice none 0 0] 269)).alloc (.cells (BI qI).toArray 299));obtain⟨w1,hrun,hit,hk0,hs0⟩:=kG (P:=prog) W0 9 s underlying9;have hlen:=jg s;have Y9:ε η w W0:=(by rw[<-hW0];exact(δ.alloc _).alloc _);have hsz0:W0.heap.size=w.heap.size+2:=(by rw[<-hW0];simp);have st0:pK w1 (w.heap.size+1) w.heap.size (w.heap.size+3) qI []:=by
  refine⟨hk0.heap ?_ id,⟨.slice none 0 0,hk0.heap ?_ id,World.ownsRow_nil _ _ _ _⟩,by omega,by omega,by omega,by omega⟩
  ·rw[<-hW0]
   have:=heap_alloc_new (w.alloc (.cells #[.slice none 0 0] 269)) (.cells (BI qI).toArray 299);rwa[World.size_alloc]at this
  ·rw[<-hW0]
   exact((ε.refl η _).alloc _).heap (heap_alloc_new w (.cells #[.slice none 0 0] 269)) id
 have hW0':(w.alloc (.cells #[.slice none 0 0] 269)).alloc (.cells #[.int .u8 0,.string ⟨#[]⟩,.int .i64 0,.int .i64 0] 299)=W0:=hW0;have hW1:w1.heap.size=w.heap.size+3:=(by omega);have H:=γ (θ hit (θ (Y9.trans hk0) (θ st0 (θ hg hlen))));have HW:=γ hW0';rw[hsz0]at hrun;rw[hsz0]at H;clear hit hk0 hs0 st0 Y9 hg hW0 hW0' hlen;have h400: ¬((400:Int)<(s.size:Int)):=(by omega);go_enter func192,ntmps192;go_wp2_with fail
 go_step3
 go_wp2_with fail
 go_step3
 rw[HW.o];clear hsz0 HW;go_wp2;clear hrun
 go_loopg [8] (runes s).length (fun k va wr=> ∃(left:List (Nat×Nat))(lx:Lx)(n:Nat),nC wr (w.heap.size+2) s left/\left.length=k/\n+left.length=(runes s).length/\(∀p∈left,kY p.2)/\va= .int .i64 lx.at_/\IZ left lx=IZ (runes s) ⟨qI,[],-1⟩/\WY lx n/\
  pK wr (w.heap.size+1) w.heap.size (w.heap.size+3) lx.t lx.out/\ε η w wr)
 case atStart=>exact⟨runes s,⟨qI,[],-1⟩,0,H.o.1,rfl,by omega,H.o.2.2.2.1,rfl,rfl,⟨.inl rfl,ξ _,ξ _,by decide,by decide⟩,H.o.2.2.1,H.o.2.1⟩
 case round=>
  obtain⟨left,lx,n,hit,hk,hnl,hgl,rfl,hlex,hok,hst,hkp⟩:=hrel;obtain⟨wo,rfl⟩: ∃wo:World,wo=wr:=⟨_,rfl⟩;have agt:n<=400:=(by have:=H.o.2.2.2.2;omega);have hwb:w.heap.size+3<=wo.heap.size:=hst.b3
  rcases hit.next (P:=prog) 0 with⟨rfl,hrun⟩|⟨p,left',w2,hp,hrun,hit2,hk2,hs2⟩
  ·have ce:=Rk _ _ _ lx.t lx.out wo hst hok.kind (by have:=hok.out;omega)
   have x3:=ζ hst.tk (j:=3) rfl;have hend:ug s=rM lx.t lx.out:=(by unfold ug;rw[<-hlex];rfl);have HE:=γ (θ hend hkp);clear hit hk hnl hgl hlex hok hst hkp hend H;go_wp2_with fail;refine ce.mono ?_;clear ce;rintro e w4 ⟨rfl,zC,k4⟩;obtain⟨v,hv,hown⟩:=zC.ov;have o0:=ζ hv (j:=0) rfl;obtain⟨va,vc,rfl⟩:=au hown
   have F:=γ (show UO w (ug s) (.returned (.tuple #[.slice va (rM lx.t lx.out).length vc,.int .i64 0,.int .i64 0])) w4 from
    ⟨_,rfl,by rw[HE.o.1];exact jV hown (by omega),HE.o.2.new k4 (fun i hi hs=>by omega)⟩)
   clear zC k4 hv hown;go_wp2_with fail;try rw[Exit.noGoto_ret]
   go_ret3
   exact F.o
  ·have hr:=hgl p (by rw[hp];simp)
   have ae9: ∀q∈left',kY q.2:=fun q hq=>hgl q (by rw[hp];simp[hq]);have hm:left'.length<gk:=(by rw[hp]at hk;simp at hk;omega);have Qy:n+1+left'.length=(runes s).length:=(by rw[hp]at hnl;simp at hnl;omega);have acL:IZ left' (mV lx p.2)=IZ (runes s) ⟨qI,[],-1⟩:=(by rw[<-hlex,hp];rfl);have hk3:ε η w w2:=hkp.new hk2 (fun i hi e=>by unfold one at e;omega);have hst2:pK w2 (w.heap.size+1) w.heap.size (w.heap.size+3) lx.t lx.out:=hst.iT hk2 (fun k hk=> .inr (by unfold one at hk;omega));have cg:=Tt lx.t hok.kind p.2 hr w2;have x0:=ζ hst2.tk (j:=0) rfl;have x1:=ζ hst2.tk (j:=1) rfl;have x2:=ζ hst2.tk (j:=2) rfl;have x3:=ζ hst2.tk (j:=3) rfl;have hat1:=hok.at1;have hat2:=hok.at2;have htx:=hok.text;have hb2:w.heap.size+3<=w2.heap.size:=hst2.b3;have G:=γ (θ hit2 (θ ae9 (θ hm (θ Qy (θ acL (θ hk3 (θ hst2 (θ (hok.step hr) (θ hr hok)))))))));clear hit hk hnl hgl hlex hok hst hkp hit2 ae9 hm Qy acL hk3 hst2 hp hk2 hs2 hr;have haw:IntKind.i64.wrap (lx.at_+1)=lx.at_+1:=(by rw[IntKind.wrap_i64];omega);go_wp2_with fail;refine cg.mono ?_;clear cg;rintro e w3 ⟨rfl,k3⟩;have x0:=k3.cell id x0;have x1:=k3.cell id x1;have x2:=k3.cell id x2;have x3:=k3.cell id x3;have wC:=G.o.2.2.2.2.2.2.1.pure k3;have f0:=free_at wC.tk 0;have f1:=free_at wC.tk 1;have f2:=free_at wC.tk 2;have f3:=free_at wC.tk 3;have it3:=G.o.1.kept k3 id;have uH:=G.o.2.2.2.2.2.1.trans k3;have hb3:w.heap.size+3<=w3.heap.size:=wC.b3;have hb4:w.heap.size+1<w3.heap.size:=(by omega);have hb5:w.heap.size<w3.heap.size:=by omega
   cases hgo:Aq lx.t p.2 with
   |true=>
    have hst:=P8 hgo;have zC:=wC.text (lx.t.text++qM p.2);have Z:=γ (θ hst (θ zC (θ (uH.new zC.2 (fun i hi hs=>by unfold one at hs;omega)) (it3.kept zC.2 (fun h=>by unfold one at h;omega)))));have hsz:((lx.t.text.size:Int)+((Utf8.encode (p.2:Int)).size:Int))<=9223372036854775807:=by
     have h4:(Utf8.encode (p.2:Int)).size<=4:=by
      have hr:=G.o.2.2.2.2.2.2.2.2.1;unfold kY at hr
      rcases hr with h|h|h|h|h|h|h<;>(rw[h];decide)
     omega
    clear hgo hst zC wC it3 uH k3;go_wp2;go_roundg left'.length
    case rel=>exact⟨left',mV lx p.2,n+1,Z.o.2.2.2,rfl,G.o.2.2.2.1,G.o.2.1,by rw[Z.o.1],G.o.2.2.2.2.1,G.o.2.2.2.2.2.2.2.1,by rw[Z.o.1];exact Z.o.2.1.1,Z.o.2.2.1⟩
    case measure=>exact G.o.2.2.1
   |false=>
    have ce:=Rk _ _ _ lx.t lx.out w3 wC G.o.2.2.2.2.2.2.2.2.2.kind (by have:=G.o.2.2.2.2.2.2.2.2.2.out;omega);have IT:=γ (θ it3 uH);have GO:=γ hgo;clear hgo wC it3 uH k3 f0 f1 f2 f3;go_wp2_with fail;refine ce.mono ?_;clear ce;rintro e w4 ⟨rfl,zC,k4⟩;have Qj:=IT.o.1.kept k4 (fun h=>by omega);have CG:=IT.o.2.new k4 (fun i hi hs=>by omega);have hb4:w.heap.size+1<w4.heap.size:=(by have:=zC.b3;omega);by_cases h32:p.2=32
    ·have hst:=KY GO.o h32
     have afA:(p.2:Int)=32:=(by omega);have Z:=γ (θ hst (θ zC (θ CG Qj)));clear hst zC CG Qj k4;go_wp2;go_roundg left'.length
     case rel=>exact⟨left',mV lx p.2,n+1,Z.o.2.2.2,rfl,G.o.2.2.2.1,G.o.2.1,by rw[Z.o.1],G.o.2.2.2.2.1,G.o.2.2.2.2.2.2.2.1,by rw[Z.o.1];exact Z.o.2.1,Z.o.2.2.1⟩
     case measure=>exact G.o.2.2.1
    ·have hst:=Tv GO.o h32
     have afA: ¬(p.2:Int)=32:=(by omega);have hr:=G.o.2.2.2.2.2.2.2.2.1;have h9i: ¬(p.2:Int)=9:=(by unfold kY at hr;omega);have ck:=CO p.2 hr w4;have hkz: ¬qQ p.2=0:=(by unfold qQ;rw[if_neg h32];split<;>decide);have gkz:(qQ p.2==0)=false:=(by simpa using hkz);have e1:((p.2:Int)==32)=false:=(by simpa using afA);have e2:((p.2:Int)==9)=false:=(by simpa using h9i);obtain⟨kl,hkl⟩:=acu (qQ p.2);rw[hkl]at ck hst hkz gkz;have Z:=γ (θ hst (θ zC (θ CG Qj)));clear hst zC CG Qj k4 hr hkl;go_wp2_with fail;refine ck.mono ?_;clear ck;rintro e w5 ⟨rfl,k5⟩;have BK:=Z.o.2.1.pure k5;have y0:=ζ BK.tk (j:=0) rfl;have y1:=ζ BK.tk (j:=1) rfl;have y2:=ζ BK.tk (j:=2) rfl;have y3:=ζ BK.tk (j:=3) rfl;have q0:=free_at BK.tk 0;have q1:=free_at BK.tk 1;have q2:=free_at BK.tk 2;have q3:=free_at BK.tk 3;have hb5:w.heap.size+1<w5.heap.size:=(by have:=BK.b3;omega);have st6:=BK.lay ⟨kl,qM p.2,0,lx.at_+1⟩;have Y:=γ (θ st6 (θ ((Z.o.2.2.1.trans k5).new st6.2 (fun i hi hs=>by unfold one at hs;omega)) ((Z.o.2.2.2.kept k5 id).kept st6.2 (fun h=>by unfold one at h;omega))));clear BK st6 k5;go_wp2;go_roundg left'.length
     case rel=>exact⟨left',mV lx p.2,n+1,Y.o.2.2,rfl,G.o.2.2.2.1,G.o.2.1,by rw[Z.o.1],G.o.2.2.2.2.1,G.o.2.2.2.2.2.2.2.1,by rw[Z.o.1];exact Y.o.1.1,Y.o.2.1⟩
     case measure=>exact G.o.2.2.1
def vX:Nat->Ex->Prop
 |0,_=>False
 |d+1,x=> ∀y∈x.args,vX d y
def Xb (w:World)(d:Nat)(e:Ending)(w':World):Prop:= ∃n:Int,e= .returned (.int .i64 n)/\1<=n/\n<=(d:Int)/\ε η w w'
theorem Ky: ∀(d:Nat)(x:Ex)(a:Array Value)(B:Nat)(left:Int)(w:World),d<=100->vX d x->aF w a x->0<=left->left<=16->w.cell? ⟨B,0,none⟩=some (.func (.func 232) #[] #[.pointer (some ⟨B,0,none⟩)])->
 Calls prog 232 #[.agg a,.int .i64 left,.pointer (some ⟨B,0,none⟩)] w (Xb w d)
 |0,x,_,_,_,_,_,h,_,_,_,_=>h.elim
 |d+1,x,a,B,left,w,hd,hx,h,hl0,hl1,hB=>by
  obtain⟨p,cap,rfl,h0,h1,h2,h3,h4,h5⟩:=h.parts;have IH:=γ (fun y a B left w hy h hl0 hl1 hB=>Ky d y a B left w (by omega) hy h hl0 hl1 hB);have SB:=γ (show∀(i:Nat)(y:Ex),x.args[i]?=some y->vX d y from fun i y hy=>hx y (ς hy));have H5:=γ h5;unfold maxLen at h4;have hBl:B<w.heap.size:=(by have:=block_lt_of_cell hB;simpa using this);have HB:=γ hB;clear h h5 hx;go_enter func232,ntmps232;go_wp2_with fail;obtain⟨W0,hW0⟩:=acu (w.alloc (.cells #[.int .u8 x.op,.int .i64 x.n,.slice p x.args.length cap] 40));have k0:ε η w W0:=(by rw[<-hW0];exact δ.alloc _);rw[hW0];have K0:=γ k0;clear hW0 k0 hB;go_loopg [6,12] x.args.length (fun g vn vi wr=> ∃(k:Nat)(n:Int),k<=x.args.length/\vi= .int .i64 (k:Int)/\vn= .int .i64 n/\x.args.length-k<=g/\0<=n/\n<=(d:Int)/\ε η w wr)
  case atStart=>exact⟨0,0,by omega,rfl,rfl,by omega,by omega,by omega,K0.o⟩
  case round=>
   obtain⟨k,n,hkl,rfl,rfl,hg,hn1,hn2,hkp⟩:=hrel;by_cases hlt:k<x.args.length
   ·obtain⟨y,hy⟩: ∃y,x.args[k]?=some y:=⟨_,ι hlt⟩
    obtain⟨b,off,p',cap',rfl,q0,q1,q2,hy2⟩:=H5.o k y hy;have r0:=hkp.cell (p:=⟨b,off+k*3,none⟩) id q0;have r1:=hkp.cell (p:=⟨b,off+k*3+1,none⟩) id q1;have r2:=hkp.cell (p:=⟨b,off+k*3+2,none⟩) id q2;have bB:=hkp.cell (p:=⟨B,0,none⟩) id HB.o;have hBr:B<wr.heap.size:=Pe hBl hkp.size;have G:=γ (θ hg (θ (aF.pure hkp hy2) (θ hkp (SB.o k y hy))));clear q0 q1 q2 hy hy2 hkp hg H5;by_cases hb:0<left
    ·have Hf:IntKind.i64.wrap (left-1)=left-1:=by rw[IntKind.wrap_i64];omega
     go_wp2_with fail;have ka:ε η wr (wr.alloc (.cells #[.int .u8 y.op,.int .i64 y.n,.slice p' y.args.length cap'] 40)):=δ.alloc _;have c:=IH.o y _ B (left-1) (wr.alloc (.cells #[.int .u8 y.op,.int .i64 y.n,.slice p' y.args.length cap'] 40)) G.o.2.2.2 (aF.pure ka G.o.2.1) (by omega) (by omega) (ka.cell (p:=⟨B,0,none⟩) id bB);refine c.mono ?_;clear c;rintro e w2 ⟨m,rfl,hm1,hm2,k2⟩;have K2:=γ (G.o.2.2.1.trans (ka.trans k2));clear k2 ka;by_cases hmn:n<=m
     ·have e1:max n m=m:=by omega
      go_wp2;go_roundg (x.args.length-(k+1))
      case rel=>exact⟨k+1,m,by omega,by go_num,by first|rfl|rw[e1],ξ _,by omega,by omega,K2.o⟩
      case measure=>have:=G.o.1;omega
     ·have e1:max n m=n:=by omega
      go_wp2;go_roundg (x.args.length-(k+1))
      case rel=>exact⟨k+1,n,by omega,by go_num,by first|rfl|rw[e1],ξ _,by omega,by omega,K2.o⟩
      case measure=>have:=G.o.1;omega
    ·go_wp2
     go_roundg (x.args.length-(k+1))
     case rel=>exact⟨k+1,n,by omega,by go_num,rfl,ξ _,by omega,by omega,G.o.2.2.1.alloc _⟩
     case measure=>have:=G.o.1;omega
   ·have HK:=γ hkp
    have hnw:IntKind.i64.wrap (n+1)=n+1:=(by rw[IntKind.wrap_i64];omega);clear hkp;go_wp2;go_ret;exact⟨n+1,rfl,by omega,by omega,HK.o⟩
theorem abQ (x:Ex)(a:Array Value)(w:World)(hx:vX 16 x)(h:aF w a x):Calls prog 195 #[.agg a] w (Xb w 16):=by obtain⟨p,cap,rfl,h0,h1,h2,h3,h4,_⟩:=h.parts;unfold maxLen at h4;have k0:ε η w ((w.alloc (.cells #[.int .u8 x.op,.int .i64 x.n,.slice p x.args.length cap] 40)).alloc (.cells #[.func (.func 232) #[] #[.pointer (some ⟨w.heap.size+1,0,none⟩)]] 173)):=(δ.alloc _).alloc _;have bB:((w.alloc (.cells #[.int .u8 x.op,.int .i64 x.n,.slice p x.args.length cap] 40)).alloc (.cells #[.func (.func 232) #[] #[.pointer (some ⟨w.heap.size+1,0,none⟩)]] 173)).cell? ⟨w.heap.size+1,0,none⟩=some (.func (.func 232) #[] #[.pointer (some ⟨w.heap.size+1,0,none⟩)]):=(by simp);have c:=Ky 16 x _ (w.heap.size+1) 16 _ (by omega) hx (h.pure k0) (by omega) (by omega) bB;have K0:=γ k0;clear k0 bB hx h;go_enter func195,ntmps195;go_wp2_with fail;refine c.mono ?_;clear c;rintro e w2 ⟨m,rfl,hm1,hm2,k2⟩;have F:=γ (show Xb w 16 (.returned (.int .i64 m)) w2 from⟨m,rfl,hm1,hm2,K0.o.trans k2⟩);have e1:min m 17=m:=(by omega);clear k2;go_wp2;go_ret;exact F.o
def WJ (s:ByteArray):Option Ex:=match orP (ug s)with|some (x,[])=>some x|_=>none
def adi (w:World)(x:Ex)(e:Ending)(w':World):Prop:=
 ∃p c D,e= .returned (.tuple #[.agg (jw x p c).toArray,.int .i64 0,.int .i64 0])/\mJ w' D (jw x p c).toArray x/\(∀k,D k->w.heap.size<=k/\k<w'.heap.size)/\ε η w w'
theorem abM (s:ByteArray)(hs:s.size<=400)(hg: ∀p∈runes s,kY p.2)(x:Ex)(hx:WJ s=some x)(hd:vX 16 x)(w:World):Calls prog 160 #[.string s] w (adi w x):=by
 have ht:orP (ug s)=some (x,[]):=by
  unfold WJ at hx;split at hx
  ·rename_i e;injection hx with hx;rw[e,hx]
  ·cases hx
 have hln:=jg s;have k0:ε η w (w.alloc (.cells #[.int .u8 0,.int .i64 0,.slice none 0 0] 40)):=δ.alloc _;have t0:(w.alloc (.cells #[.int .u8 0,.int .i64 0,.slice none 0 0] 40)).heap[w.heap.size]?=some (.cells #[.int .u8 0,.int .i64 0,.slice none 0 0] 40 (0,0)):=heap_alloc_new _ _;have ct:=U9 s hs hg (w.alloc (.cells #[.int .u8 0,.int .i64 0,.slice none 0 0] 40));have H:=γ (θ k0 (θ t0 (θ ht (θ hd hln))));clear k0 t0 ht hd hx hg hln;go_enter func160,ntmps160;go_wp2_with fail;refine ct.mono ?_;clear ct;rintro e w1 ⟨v,rfl,hown,k1⟩;obtain⟨va,vc,rfl⟩:=au hown;have kw1:=H.o.1.trans k1;have t1:=k1.heap H.o.2.1 id;obtain⟨w2,hrun,hit,hk2,hs2⟩:=kG (P:=prog) w1 9 s underlying9;have H1:=γ (θ (kw1.trans hk2) (θ (hk2.heap t1 id) (θ hown (θ hit (θ hk2 hs2)))));have T1:=γ t1;clear kw1 t1 hown hit hk2 k1;go_wp2;go_loopg [8] (runes s).length (fun k va wr=> ∃(left:List (Nat×Nat))(n:Nat),nC wr w1.heap.size s left/\left.length=k/\n+left.length=(runes s).length/\va= .int .i64 (n:Int)/\ε (one w1.heap.size) w2 wr)
 case atStart=>exact⟨runes s,0,H1.o.2.2.2.1,rfl,by omega,rfl,ε.refl _ _⟩
 case round=>
  obtain⟨left,n,hit,hk,hnl,rfl,hkp⟩:=hrel;obtain⟨wo,rfl⟩: ∃wo:World,wo=wr:=⟨_,rfl⟩;have agt:n<=400:=by have:=H.o.2.2.2.2;omega
  rcases hit.next (P:=prog) 0 with⟨rfl,hrun⟩|⟨p,left',w3,hp,hrun,hit2,hk2,hs3⟩
  ·obtain⟨W0,hW0⟩:=acu (wo.alloc (.cells #[.slice va (ug s).length vc,.int .i64 (n:Int),.bool false,.int .i64 0] 274))
   have ka:ε η wo W0:=(by rw[<-hW0];exact δ.alloc _);have hs1:=H1.o.2.2.2.2.1.size;have aiv:=H1.o.2.2.2.2.2;have hsz:=hkp.size;have hown:W0.ownsRow (w.alloc (.cells #[.int .u8 0,.int .i64 0,.slice none 0 0] 40)).heap.size 299 4 (.slice va (ug s).length vc) (ug s).length (pO (ug s)):=
    ka.owns (hkp.owns (H1.o.2.2.2.2.1.owns H1.o.2.2.1 (fun _ _ h=>h)) (fun k hk hs=>by have:=(H1.o.2.2.1.lt k hk).2;unfold one at hs;omega)) (fun _ _ h=>h)
   have hrd:iV W0 wo.heap.size (ug s) (n:Int):=by
    have hR:W0.heap[wo.heap.size]?=some (.cells #[.slice va (ug s).length vc,.int .i64 (n:Int),.bool false,.int .i64 0] 274 (0,0)):=by rw[<-hW0];exact heap_alloc_new _ _
    rcases hown.2 with⟨e,h0⟩|⟨g,cap,cur,e,hbg,hg,hnc,hcm,hcs,htake⟩
    ·have:ug s=[]:=τ h0
     simp only[Value.slice.injEq]at e;obtain⟨rfl,_,rfl⟩:=e;exact⟨none,0,hR,by omega,by unfold maxLen;omega,.inl this⟩
    ·simp only[Value.slice.injEq,true_and]at e
     obtain⟨rfl,rfl⟩:=e;have hgl:g<wo.heap.size:=(by have:=(H1.o.2.2.1.lt g rfl).2;omega);refine⟨some ⟨g,0,none⟩,vc,hR,hnc,hcm,.inr ⟨g,0,rfl,hgl,fun i t ht=>?_⟩⟩;obtain⟨q0,q1,q2,q3⟩:=Jl ht;have hc:=hown.cells (g:=g) rfl;have z0:=hc _ _ q0;have z1:=hc _ _ q1;have z2:=hc _ _ q2;have z3:=hc _ _ q3;rw[Addr.add_lit]at z0 z1 z2 z3;simp only[Nat.zero_add]at z0 z1 z2 z3⊢;exact⟨z0,z1,z2,z3⟩
   have co:=adB wo.heap.size (n:Int) W0 (ug s) [] x hrd H.o.2.2.1;have hT1:w.heap.size<w1.heap.size:=(κ.1 T1.o).1;have hw1o:w1.heap.size<wo.heap.size:=by omega
   have tT:=ka.heap (hkp.heap H1.o.2.1 (show ¬(w.heap.size=w1.heap.size) by
    have:=(κ.1 H1.o.2.1).1;have:=H1.o.1.size;have h2:=H1.o.2.2.1.1;have:=(κ.1 T1.o).1
    omega)) id
   have Y9:ε η w W0:=(H1.o.1.new hkp (fun i hi hs=>by unfold one at hs;have:=(κ.1 T1.o).1;omega)).trans ka;have hsz0:W0.heap.size=wo.heap.size+1:=(by rw[<-hW0];simp);have K0:=γ (θ Y9 tT);have HW:=γ hW0;have hT0:w.heap.size<W0.heap.size:=(κ.1 tT).1;clear hit hk hnl hkp ka hown hrd Y9 tT hW0 hs1 aiv;go_wp2_with fail;rw[HW.o];refine co.mono ?_;clear co;rintro e w5 ⟨p,c,D,rfl,hx,hD,r5,k5⟩;have kx:ε η w5 (w5.alloc (.cells (jw x p c).toArray 40)):=δ.alloc _;obtain⟨W6,wW⟩:=acu (w5.alloc (.cells (jw x p c).toArray 40));have QT:w5.alloc (.cells #[.int .u8 x.op,.int .i64 x.n,.slice p x.args.length c] 40)=W6:=wW;have x6:W6.heap[w5.heap.size]?=some (.cells (jw x p c).toArray 40 (0,0)):=(by rw[<-wW];exact heap_alloc_new _ _);rw[wW]at kx;have r6:=r5.pure kx;obtain⟨ta,tcap,l6⟩:=r6.list;have b6:=r6.bad;have hR6:wo.heap.size<W6.heap.size:=r6.lt;have hx6:=hx.kept kx (fun _ _ h=>h);have cd:=abQ x _ W6 H.o.2.2.2.1 hx6.at;have t6:=kx.heap (k5.heap K0.o.2 (fun h=>by unfold one at h;omega)) id;have k06:ε (one wo.heap.size) W0 W6:=k5.trans kx.pure;have a0:=ζ x6 (j:=0) rfl;have a1:=ζ x6 (j:=1) rfl;have a2:=ζ x6 (j:=2) rfl;have hX6:w5.heap.size<W6.heap.size:=(κ.1 x6).1;have Z:=γ (θ hx6 (θ t6 (θ k06 (θ x6 (show∀k,D k->W0.heap.size<=k/\k<W6.heap.size from fun k hk=>by have:=hD k hk;have:=kx.size;omega)))));have HW6:=γ QT;rw[<-QT]at l6 b6 a0 a1 a2 cd hR6 hX6;clear hx hD r5 k5 kx wW QT x6 r6 hx6 t6 k06 HW;go_wp2_with fail;refine cd.mono ?_;clear cd;rintro e w7 ⟨m,rfl,hm1,hm2,k7⟩;rw[HW6.o]at k7;have hx7:=Z.o.1.kept k7 (fun _ _ h=>h);have t7:=k7.heap Z.o.2.1 id;have x7:=k7.heap Z.o.2.2.2.1 id;have b7:=k7.cell (p:=⟨wo.heap.size,2,none⟩) id (by rw[HW6.o]at b6;exact b6);have a0:=ζ x7 (j:=0) rfl;have a1:=ζ x7 (j:=1) rfl;have a2:=ζ x7 (j:=2) rfl;have f0:=free_at t7 0;have f1:=free_at t7 1;have f2:=free_at t7 2;have z0:=ζ t7 (j:=0) rfl;have z1:=ζ t7 (j:=1) rfl;have z2:=ζ t7 (j:=2) rfl;have hX7:w5.heap.size<w7.heap.size:=(κ.1 x7).1;have hT7:w.heap.size<w7.heap.size:=(κ.1 t7).1;obtain⟨s8,k8⟩:=jS t7 (.int .u8 x.op) (.int .i64 x.n) (.slice p x.args.length c);have F:adi w x (.returned (.tuple #[.agg (jw x p c).toArray,.int .i64 0,.int .i64 0])) (((w7.setCell ⟨w.heap.size,0,none⟩ (.int .u8 x.op)).setCell ⟨w.heap.size,1,none⟩ (.int .i64 x.n)).setCell ⟨w.heap.size,2,none⟩ (.slice p x.args.length c)):=(by have h0:=K0.o.1.size;have h7:=k7.size;have h8:=k8.size;refine⟨p,c,D,rfl,hx7.kept k8 (fun k hk hs=>by have:=Z.o.2.2.2.2 k hk;unfold one at hs;omega),fun k hk=>by have:=Z.o.2.2.2.2 k hk;omega,((K0.o.1.new Z.o.2.2.1 (fun i hi hs=>by unfold one at hs;omega)).trans k7).new k8 (fun i hi hs=>by unfold one at hs;omega)⟩);have hm16: ¬(16<m):=(by omega);have FF:=γ (θ F s8);clear F s8 k8 hx7 t7 x7 k7 l6 b6;go_wp2_with fail;obtain⟨WF,mO⟩:=acu (((w7.setCell ⟨w.heap.size,0,none⟩ (.int .u8 x.op)).setCell ⟨w.heap.size,1,none⟩ (.int .i64 x.n)).setCell ⟨w.heap.size,2,none⟩ (.slice p x.args.length c));obtain⟨F,s5⟩:=FF.o;rw[mO]at s5 F⊢;have q0:=ζ s5 (j:=0) rfl;have q1:=ζ s5 (j:=1) rfl;have q2:=ζ s5 (j:=2) rfl;refine bodyPost_ret (v:= .tuple #[.agg (jw x p c).toArray,.int .i64 0,.int .i64 0]) (by simp[results,results160,go_sem,q0,q1,q2]) rfl F
  ·have hm:left'.length<gk:=by rw[hp]at hk;simp at hk;omega
   have Qy:n+1+left'.length=(runes s).length:=(by rw[hp]at hnl;simp at hnl;omega);have hnw:IntKind.i64.wrap ((n:Int)+1)=((n+1:Nat):Int):=wrapN (n:=n+1) (by omega);have G:=γ (θ hit2 (θ hm (θ Qy (hkp.trans hk2))));clear hit hk hnl hkp hit2 hm Qy hp hk2 hs3;go_wp2;go_roundg left'.length
   case rel=>exact⟨left',n+1,G.o.1,rfl,G.o.2.2.1,by go_num,G.o.2.2.2⟩
   case measure=>exact G.o.2.1
end
section
open Go Go.RowKit
attribute [local irreducible] dI iO
def agG (w:World)(l:List ByteArray)(g:ByteArray)(e:Ending)(w':World):Prop:= ∃n:Nat,e= .returned (.int .i64 (n:Int))/\l[n]?=some g/\w=w'
theorem Et (v:Value)(l:List ByteArray)(g:ByteArray)(hg:g∈l)(w:World)(h:Reads w 1 v (strs l)):Calls prog 167 #[v,.string g] w (agG w l g):=by
 obtain⟨pa,ca,rfl,a1,a2,a3⟩:=h.Rx;unfold maxLen at a2;have A3:=γ a3;have HM:=γ hg;clear h a3 hg;go_enter func167,ntmps167;go_wp2_with fail
 go_loopw [8] (fun i wr=> ∃k:Nat,k<=l.length/\i= .int .i64 (k:Int)/\g∉l.take k/\wr=w) (fun i _=>l.length-(intOf i).toNat)
 case atStart=>exact⟨0,by omega,rfl,by simp,rfl⟩
 case round=>
  obtain⟨k,hk,rfl,ht,rfl⟩:=hrel;have HT:=γ ht;clear ht;by_cases hlt:k<l.length
  ·obtain⟨y,hy⟩: ∃y,l[k]?=some y:=⟨_,ι hlt⟩
   obtain⟨b,off,rfl,hc⟩:=A3.o.resolve_left (fun h=>by rw[h]at hlt;simp at hlt);have y0:=hc k y hy;have HY:=γ hy;clear hc hy A3;by_cases he:g=y
   ·subst he
    have hse:(g.toList==g.toList)=true:=(by simp);go_wp2;go_ret;exact⟨k,rfl,HY.o,rfl⟩
   ·have hse:(g.toList==y.toList)=false:=by rw[str_eq,decide_eq_false he]
    go_wp2_with fail
    go_roundw
    case rel=>refine⟨k+1,by omega,by go_num,?_,by first|trivial|rfl⟩;rw[ψ,HY.o];simp[HT.o,he]
    case measure=>simp[intOf];omega
  ·have hE:g∉l:=by have:=HT.o;rwa[χ (by omega)]at this
   exact absurd HM.o hE
def oU:List ByteArray:=[⟨#[]⟩,⟨#[115,111,117,114,99,101]⟩,⟨#[109,97,112]⟩,⟨#[102,105,108,116,101,114]⟩,⟨#[102,108,97,116]⟩,⟨#[107,101,121]⟩,⟨#[114,101,100,117,99,101]⟩,⟨#[119,105,110,100,111,119]⟩,⟨#[117,110,105,111,110]⟩,⟨#[115,105,110,107]⟩]
theorem VP (w:World):Calls prog 191 #[] w fun e w'=>e= .returned (.agg #[.string ⟨#[]⟩,.string ⟨#[115,111,117,114,99,101]⟩,.string ⟨#[109,97,112]⟩,.string ⟨#[102,105,108,116,101,114]⟩,.string ⟨#[102,108,97,116]⟩,.string ⟨#[107,101,121]⟩,.string ⟨#[114,101,100,117,99,101]⟩,.string ⟨#[119,105,110,100,111,119]⟩,.string ⟨#[117,110,105,111,110]⟩,.string ⟨#[115,105,110,107]⟩])/\ε η w w':=by go_enter func191,ntmps191;go_wp2;refine bodyPost_ret (v:= .agg #[.string ⟨#[]⟩,.string ⟨#[115,111,117,114,99,101]⟩,.string ⟨#[109,97,112]⟩,.string ⟨#[102,105,108,116,101,114]⟩,.string ⟨#[102,108,97,116]⟩,.string ⟨#[107,101,121]⟩,.string ⟨#[114,101,100,117,99,101]⟩,.string ⟨#[119,105,110,100,111,119]⟩,.string ⟨#[117,110,105,111,110]⟩,.string ⟨#[115,105,110,107]⟩]) (by simp[results,results191,go_sem]) rfl ⟨rfl,?_⟩;exact δ.alloc _
def nS (w:World)(D:Nat->Prop)(a:Array Value)(d:JN):Prop:= ∀(S:Nat->Prop)(w':World),ε S w w'->(∀k,D k-> ¬S k)->oq w' a d
theorem nS.at {w:World}{D:Nat->Prop}{a:Array Value}{d:JN}(h:nS w D a d):oq w a d:=h η w δ (fun _ _ h=>h)
theorem nS.kept {w w':World}{S D:Nat->Prop}{a:Array Value}{d:JN}(h:nS w D a d)(hk:ε S w w')(hS: ∀k,D k-> ¬S k):nS w' D a d:=fun S2 w2 h2 hd=>
 h (fun k=>S k\/S2 k) w2 ((hk.mono (fun _ _ h=> .inl h)).trans (h2.mono (fun _ _ h=> .inr h))) (fun k hk=>by rintro(h|h);exact hS k hk h;exact hd k hk h)
theorem aei {w:World}{base n:Nat}{va:Value}{l:List Int}(h:w.ownsRow base 3 1 va n (ints l))(x:Int)(hb:base<=w.heap.size)(hn:n<=100000):
 ∃iC w',(Builtin.append_ #[37,37] 37 #[va,.slice (some ⟨w.heap.size,0,none⟩) 1 1]).run prog (w.alloc (.cells #[.int .i64 x] 3))= .ok iC w'/\w'.ownsRow base 3 1 iC (n+1) (ints (l++[x]))/\ε (fun j=>base<=j) w w':=by
 have h3:(prog.info? 3).map (fun i=>(i.zero,i.size,i.bytes))=some (some (.int .i64 0),1,8):=(by kernel_rfl);obtain⟨i,hi,hzz⟩:=acg.1 h3;simp only[Prod.mk.injEq]at hzz;have:=VB underlying37 hi hzz.1 hzz.2.1 hzz.2.2 rfl (x:= .int .i64 x) rfl h hn (by omega) hb 37;rwa[show ints (l++[x])=ints l++[.int .i64 x] by unfold ints;rw[aay];rfl]
theorem aec {w:World}{b E:Nat}{x0 x1 x2 x3 x4 x5 x6:Value}(h:w.heap[b]?=some (.cells #[x0,x1,x2,x3,x4,x5,x6] E (0,0)))(y0 y1 y2 y3 y4 y5 y6:Value):
 (((((((w.setCell ⟨b,0,none⟩ y0).setCell ⟨b,1,none⟩ y1).setCell ⟨b,2,none⟩ y2).setCell ⟨b,3,none⟩ y3).setCell ⟨b,4,none⟩ y4).setCell ⟨b,5,none⟩ y5).setCell ⟨b,6,none⟩ y6).heap[b]?=some (.cells #[y0,y1,y2,y3,y4,y5,y6] E (0,0))/\
   ε (one b) w (((((((w.setCell ⟨b,0,none⟩ y0).setCell ⟨b,1,none⟩ y1).setCell ⟨b,2,none⟩ y2).setCell ⟨b,3,none⟩ y3).setCell ⟨b,4,none⟩ y4).setCell ⟨b,5,none⟩ y5).setCell ⟨b,6,none⟩ y6):=by
 refine⟨?_,?_⟩
 ·have:=aU (aU (aU (aU (aU (aU (aU h 0 y0) 1 y1) 2 y2) 3 y3) 4 y4) 5 y5) 6 y6
  simpa using this
 ·have k0:ε (one b) w (w.setCell ⟨b,0,none⟩ y0):=ε.setCell (p:=⟨b,0,none⟩) (ε.refl (one b) w) (.inl rfl) y0
  have k1:=k0.setCell (p:=⟨b,1,none⟩) (.inl rfl) y1;have k2:=k1.setCell (p:=⟨b,2,none⟩) (.inl rfl) y2;have k3:=k2.setCell (p:=⟨b,3,none⟩) (.inl rfl) y3;have k4:=k3.setCell (p:=⟨b,4,none⟩) (.inl rfl) y4;have k5:=k4.setCell (p:=⟨b,5,none⟩) (.inl rfl) y5;exact k5.setCell (p:=⟨b,6,none⟩) (.inl rfl) y6
def AZ (w:World)(d:JN)(e:Ending)(w':World):Prop:=
 ∃pi ci p c D,e= .returned (.tuple #[.agg (bQ d pi ci p c),.bool true])/\nS w' D (bQ d pi ci p c) d/\(∀k,D k->w.heap.size<=k/\k<w'.heap.size)/\ε η w w'
theorem AZ.drew {w w':World}{d:JN}{e:Ending}(h:AZ w d e w'):AZ w d e w'.drew:=by obtain⟨pi,ci,p,c,D,h1,h2,h3,h4⟩:=h;have hk:ε η w' w'.drew:=δ.drew;exact⟨pi,ci,p,c,D,h1,h2.kept hk (fun _ _ h=>h),h3,h4.trans hk⟩
theorem ZO (nodes:List JN)(hn:nodes.length<=1000)(x:ByteArray):aJ (bJ nodes x):=by
 rcases vV nodes x with⟨h,_⟩|⟨i,d,h,hd,_⟩
 ·rw[h];exact .small (by omega) (by omega)
 ·rw[h]
  have:=(μ.1 hd).1;exact⟨by omega,by omega⟩
theorem PX (j:Jb)(a:Array Value)(uid kw:ByteArray)(ins:List ByteArray)(k:Nat)(v:Value)(w:World)(hJ:oh w a j)(hv:Reads w 1 v (strs (uid::kw::ins)))(hk:oU[k]?=some kw)(hk1:1<=k)(Ew:k≠7)
 (hins: ∀x∈ins,0<=bJ j.nodes x) (hu:uid.size<=maxLen) (hil:ins.length<=1000) (hnl:j.nodes.length<=1000):
 Calls prog 158 #[.agg a,v] w (AZ w ⟨uid,(k:Int),ins.map (bJ j.nodes),.mk 0 0 [],0⟩):=by
 have hk9:k<=9:=(by have:=(μ.1 hk).1;have h10:oU.length=10:=rfl;omega);obtain⟨jv,rfl,hn,hp⟩:=hJ;obtain⟨na,VJ,rfl,n1,n2,n3⟩:=hn.at;obtain⟨pa,ca,rfl,a1,a2,a3⟩:=hv.Rx;obtain⟨lb,Cm,rfl,hl⟩:=a3.resolve_left (by simp);have l0:=hl 0 uid rfl;rw[Nat.add_zero]at l0;have l1:=hl 1 kw rfl;have hdr:=hv.drop (i:=2) (by simp)
 have hsl: ∀W,(Instr.slice 163 (.slice (some ⟨lb,Cm,none⟩) (uid::kw::ins).length ca) (some (.int .i64 2)) none none).run prog W= .ok (.slice (if ca=2 then some ⟨lb,Cm,none⟩else(some (⟨lb,Cm,none⟩:Addr)).map (·.add (2*1))) ((uid::kw::ins).length-2) (ca-2)) W:=fun W=>
  II (P:=prog) (w:=W) (k:=1) (i:=2) underlying163 (sizeOf9 W) (by simp) a1
 have hcap2:ca-2<=9223372036854775807:=(by unfold maxLen at a2;omega);generalize(if ca=2 then some (⟨lb,Cm,none⟩:Addr)else(some (⟨lb,Cm,none⟩:Addr)).map (·.add (2*1)))=sa at hsl hdr;have hsd:(strs (uid::kw::ins)).drop (2*1)=strs ins:=rfl;have hls:(uid::kw::ins).length-2=ins.length:=(by simp);rw[hsd,hls]at hdr;rw[hls]at hsl;have hlen2:(uid::kw::ins).length=ins.length+2:=rfl;rw[hlen2]at a1 hsl⊢;obtain⟨sa',sc',e,d1,d2,d3⟩:=hdr.Rx;simp only[Value.slice.injEq,true_and]at e;obtain⟨rfl,rfl⟩:=e;have hkw:kw∈oU:=ς hk;have hu8:IntKind.u8.wrap (k:Int)=(k:Int):=(by rw[IntKind.wrap_u8];omega);unfold maxLen at n2 a2;have hlb:lb<w.heap.size:=(by have:=block_lt_of_cell l0;simpa using this);have HW:=fun W=>VP W;have H:=γ (θ hn (θ hp (θ hk (θ hins (θ hu (θ d3 n3))))));clear hn hp hk hins hu d3 n3 hl hdr hv a3;go_enter func158,ntmps158;go_wp2_with fail;refine(HW _).mono ?_;rintro e W2 ⟨rfl,k2⟩;have jF:ε η w W2:=(((ε.refl η w).alloc _).alloc _).trans k2;have bj2:W2.heap[w.heap.size]?=some (.cells #[.int .i64 j.par,.slice na j.nodes.length VJ] 24 (0,0)):=k2.heap (((ε.refl η _).alloc _).heap (heap_alloc_new w (.cells #[.int .i64 j.par,.slice na j.nodes.length VJ] 24)) id) id;have br2:W2.heap[w.heap.size+1]?=some (.cells #[.string ⟨#[]⟩,.int .u8 0,.slice none 0 0,.int .u8 0,.int .i64 0,.slice none 0 0,.int .i64 0] 42 (0,0)):=(by have:=heap_alloc_new (w.alloc (.cells #[.int .i64 j.par,.slice na j.nodes.length VJ] 24)) (.cells #[.string ⟨#[]⟩,.int .u8 0,.slice none 0 0,.int .u8 0,.int .i64 0,.slice none 0 0,.int .i64 0] 42);rw[World.size_alloc]at this;exact k2.heap this id);obtain⟨W3,hW3⟩:=acu (W2.alloc (.cells (strs oU).toArray 267));have afl:W2.alloc (.cells #[.string ⟨#[]⟩,.string ⟨#[115,111,117,114,99,101]⟩,.string ⟨#[109,97,112]⟩,.string ⟨#[102,105,108,116,101,114]⟩,.string ⟨#[102,108,97,116]⟩,.string ⟨#[107,101,121]⟩,.string ⟨#[114,101,100,117,99,101]⟩,.string ⟨#[119,105,110,100,111,119]⟩,.string ⟨#[117,110,105,111,110]⟩,.string ⟨#[115,105,110,107]⟩] 267)=W3:=hW3;have Qg:ε η W2 W3:=(by rw[<-hW3];exact δ.alloc _);have rd3:Reads W3 1 (.slice (some ⟨W2.heap.size,0,none⟩) 10 10) (strs oU):=(by rw[<-hW3];exact Reads.lit W2 (strs oU) 267 1 10 rfl (by unfold maxLen;omega));have l0:=(jF.trans Qg).cell id l0;have l1:=(jF.trans Qg).cell id l1;have hsz3:W3.heap.size=W2.heap.size+1:=(by rw[<-hW3];simp);have K3:=γ (θ (jF.trans Qg) (θ (Qg.heap bj2 id) (θ (Qg.heap br2 id) rd3)));have HW3:=γ afl;have hlb3:lb<W3.heap.size:=Pe hlb (jF.trans Qg).size;have hA3:W2.heap.size<W3.heap.size:=(by omega);have hr3:w.heap.size+1<W3.heap.size:=(κ.1 K3.o.2.2.1).1;clear jF bj2 br2 hW3 afl Qg rd3 k2 HW;go_wp2_with fail;rw[HW3.o];have kD:ε η W3 W3.drew:=δ.drew;have hkk: ∀n:Nat,oU[n]?=some kw->n=k:=fun n h=>(by have h1:=(μ.1 h).1;exact(getElem?_inj h1 (by decide)).1 (h.trans H.o.2.2.1.symm));have HKK:=γ (θ hkk hkw);have e0:max (k:Int) 0=(k:Int):=(by omega);have e1: ¬(k:Int)=7:=(by omega);have e2:((k:Int)==7)=false:=(by simpa using e1);have KD:=γ kD;have i0:(0:Int)<(ins.length:Int)+2:=(by omega);have i1:(1:Int)<(ins.length:Int)+2:=(by omega);clear kD hkk hkw;refine qJ (fun W=>ε η W3 W) (by kernel_rfl) (by kernel_rfl) KD.o ?_;refine bG (k:=0) (by kernel_rfl) rfl rfl (fun W hW=>by go_simp;rfl) ?_;go_frame;refine bG (k:=1) (by kernel_rfl) rfl rfl (fun W hW=>by go_simp;rfl) ?_;go_frame;refine bG (k:=2) (by kernel_rfl) rfl rfl (fun W hW=>by have z:=hW.cell id l0;go_simp;rfl) ?_;go_frame;refine bG (k:=3) (by kernel_rfl) rfl rfl (fun W hW=>by go_simp;rfl) ?_;go_frame;refine bG (k:=4) (by kernel_rfl) rfl rfl (fun W hW=>by go_simp;rfl) ?_;go_frame;refine bG (k:=5) (by kernel_rfl) rfl rfl (fun W hW=>by go_simp;rfl) ?_;go_frame;refine bG (k:=6) (by kernel_rfl) rfl rfl (fun W hW=>by have z:=hW.cell id l1;go_simp;rfl) ?_;go_frame;refine uJ (i:=7) (k:=11) (by kernel_rfl) (by kernel_rfl) rfl rfl rfl rfl ?brA ?brB
 case' brA=>intro K hK;go_wp2_with fail;refine(Et _ oU kw HKK.o.2 W3.drew (K3.o.2.2.2.pure KD.o)).mono ?_;rintro e w5 ⟨n,rfl,hn,rfl⟩;rw[HKK.o.1 n hn];go_wp2;refine hK _ _ KD.o ?_;clear hK hn;refine bG (k:=8) (by kernel_rfl) rfl rfl (fun W hW=>by go_simp;rfl) ?_;go_frame;refine bG (k:=9) (by kernel_rfl) rfl rfl (fun W hW=>by go_simp;rfl) ?_;go_frame;refine bG (k:=10) (by kernel_rfl) rfl rfl (fun W hW=>by go_simp;rfl) ?_;go_frame;refine dX (k:=11) (by kernel_rfl) (by kernel_rfl) rfl rfl ?_;intro K hK;go_wp2;refine hK _ _ (KD.o.alloc _) ?_;clear hK;refine dX (k:=12) (by kernel_rfl) (by kernel_rfl) rfl rfl ?_;intro K hK;go_wp2;refine hK _ _ (KD.o.alloc _) ?_;clear hK;refine uK (by kernel_rfl) (KD.o.alloc _) ?_
 case' brB=>intro K hK;go_wp2;refine hK _ _ (KD.o.alloc _) ?_;clear hK;refine dX (k:=7) (by kernel_rfl) (by kernel_rfl) rfl rfl ?_;intro K hK;go_wp2_with fail;refine(Et _ oU kw HKK.o.2 _ (K3.o.2.2.2.pure (((ε.refl η W3).alloc _).drew))).mono ?_;rintro e w5 ⟨n,rfl,hn,rfl⟩;rw[HKK.o.1 n hn];go_wp2;refine hK _ _ (KD.o.alloc _) ?_;clear hK hn;refine bG (k:=8) (by kernel_rfl) rfl rfl (fun W hW=>by go_simp;rfl) ?_;go_frame;refine bG (k:=9) (by kernel_rfl) rfl rfl (fun W hW=>by go_simp;rfl) ?_;go_frame;refine bG (k:=10) (by kernel_rfl) rfl rfl (fun W hW=>by go_simp;rfl) ?_;go_frame;refine dX (k:=12) (by kernel_rfl) (by kernel_rfl) rfl rfl ?_;intro K hK;go_wp2;refine hK _ _ (KD.o.alloc _) ?_;clear hK;refine uK (by kernel_rfl) (KD.o.alloc _) ?_
 all_goals
  obtain⟨W4,iW⟩:=acu (W3.drew.alloc (.cells #[.string uid,.int .u8 (k:Int),.slice none 0 0,.int .u8 0,.int .i64 0,.slice none 0 0,.int .i64 0] 42));have afk:(W3.alloc (.cells #[.string uid,.int .u8 (k:Int),.slice none 0 0,.int .u8 0,.int .i64 0,.slice none 0 0,.int .i64 0] 42)).drew=W4:=iW;first|rw[iW]|rw[afk]
  have k34:ε η W3 W4:=(by rw[<-iW];exact KD.o.alloc _);have bn4:W4.heap[W2.heap.size+1]?=some (.cells #[.string uid,.int .u8 (k:Int),.slice none 0 0,.int .u8 0,.int .i64 0,.slice none 0 0,.int .i64 0] 42 (0,0)):=(by rw[<-hsz3,<-iW];exact heap_alloc_new W3.drew _);have aeK:W4.heap.size=W2.heap.size+2:=(by rw[<-iW];show(W3.heap.push _).size=_;rw[Array.size_push,hsz3]);have HSL:=hsl W4;have nb1:=ζ bn4 (j:=1) rfl;have K4:=γ (θ (K3.o.1.trans k34) (θ (k34.heap K3.o.2.1 id) (θ (k34.heap K3.o.2.2.1 id) bn4)));have hn4:W2.heap.size+1<W4.heap.size:=(by omega);have CV:w.heap.size+1<W2.heap.size+1:=(by omega);clear iW afk k34 bn4 hsl l0 l1 hA3 hsz3 HW3 hr3;go_wp2_with fail;clear HSL nb1
  go_loopg [60] ins.length (fun g vi wr=> ∃(q:Nat)(vo:Value),q<=ins.length/\vi= .int .i64 (q:Int)/\ins.length-q<=g/\wr.heap[W2.heap.size+1]?=some (.cells #[.string uid,.int .u8 (k:Int),vo,.int .u8 0,.int .i64 0,.slice none 0 0,.int .i64 0] 42 (0,0))/\
   wr.ownsRow (W2.heap.size+2) 3 1 vo q (ints ((ins.take q).map (bJ j.nodes)))/\ε (fun z=>z=W2.heap.size+1\/W2.heap.size+2<=z) W4 wr)
  case atStart=>exact⟨0,.slice none 0 0,by omega,rfl,by omega,K4.o.2.2.2,World.ownsRow_nil _ _ _ _,ε.refl _ _⟩
  case round=>
   obtain⟨q,vo,hql,rfl,hg,hnb,hown,hkp⟩:=hrel;obtain⟨wo,rfl⟩: ∃wo:World,wo=wr:=⟨_,rfl⟩;obtain⟨va,vc,rfl⟩:=au hown;have kw:=K4.o.1.new hkp (fun i hi hs=>by omega);have bj:=hkp.heap K4.o.2.1 (by omega);have br:=hkp.heap K4.o.2.2.1 (by omega);by_cases hlt:q<ins.length
   ·obtain⟨x,hx⟩: ∃x,ins[q]?=some x:=⟨_,ι hlt⟩
    obtain⟨sb,soff,rfl,hsc⟩:=H.o.2.2.2.2.2.1.resolve_left (fun h=>by rw[h]at hx;cases hx);have x0:=kw.cell id (hsc q x hx);have p0:=ζ bj (j:=0) rfl;have p1:=ζ bj (j:=1) rfl;have hin:=H.o.2.2.2.1 x (ς hx);have cf:=Q8 j #[.int .i64 j.par,.slice na j.nodes.length VJ] x wo ⟨_,rfl,H.o.1.pure kw,H.o.2.1⟩;have hjw:w.heap.size<wo.heap.size:=(κ.1 bj).1;obtain⟨f,hf⟩:=acu (bJ j.nodes x);rw[hf]at cf hin;have hf0: ¬f<0:=(by omega);have G:=γ (θ hg (θ hnb (θ hown (θ hkp (θ hx hf)))));clear hg hnb hown hkp hx hf bj br hsc kw hin;go_wp2_with fail;refine cf.mono ?_;clear cf;rintro e w5 ⟨rfl,k5⟩;have nb5:=k5.heap G.o.2.1 id;have y2:=ζ nb5 (j:=2) rfl;have agq:W2.heap.size+2<=w5.heap.size:=(by have:=G.o.2.2.2.1.size;have:=k5.size;omega);obtain⟨iC,w6,g1,g2,g3⟩:=aei (k5.owns G.o.2.2.1 (fun _ _ h=>h)) f agq (by omega);obtain⟨a2',c2',rfl⟩:=au g2;have nb6:=g3.heap nb5 (by omega);have z2:=ζ nb6 (j:=2) rfl;have fz:=free_at nb6 2;have hs6:=g3.size;have hb6:W2.heap.size+1<w6.heap.size:=(by omega);have hb5:W2.heap.size+1<w5.heap.size:=(by omega);have nb7:=aU nb6 2 (Value.slice a2' (q+1) c2');have k7:ε (one (W2.heap.size+1)) w6 (w6.setCell ⟨W2.heap.size+1,2,none⟩ (Value.slice a2' (q+1) c2')):=ε.setCell (p:=⟨W2.heap.size+1,2,none⟩) (ε.refl (one (W2.heap.size+1)) _) (.inl rfl) _;have htk:(ins.take (q+1)).map (bJ j.nodes)=(ins.take q).map (bJ j.nodes)++[f]:=by rw[ψ,G.o.2.2.2.2.1];simp[G.o.2.2.2.2.2]
    have Z:=γ (θ g1 (θ (show(w6.setCell ⟨W2.heap.size+1,2,none⟩ (Value.slice a2' (q+1) c2')).heap[W2.heap.size+1]?=some (.cells #[.string uid,.int .u8 (k:Int),(Value.slice a2' (q+1) c2'),.int .u8 0,.int .i64 0,.slice none 0 0,.int .i64 0] 42 (0,0)) by simpa using nb7)
     (θ (show(w6.setCell ⟨W2.heap.size+1,2,none⟩ (Value.slice a2' (q+1) c2')).ownsRow (W2.heap.size+2) 3 1 (Value.slice a2' (q+1) c2') (q+1) (ints ((ins.take (q+1)).map (bJ j.nodes))) by
       rw[htk]
       exact k7.owns g2 (fun z hz hs=>by have:=(g2.lt z hz).1;unfold one at hs;omega))
     (((G.o.2.2.2.1.new k5 (fun _ _ h=>h.elim)).new g3 (fun i hi hs=> .inr hs)).new k7 (fun i hi hs=> .inl hs)))))
    clear g1 g2 g3 nb5 nb6 nb7 k7 k5;go_wp2_with (at_builtin;refine jL rfl (.tmp 71) (.tmp 73) 37 rfl _ _ _ rfl rfl Z.o.1 ?_);go_roundg (ins.length-(q+1))
    case rel=>exact⟨q+1,_,by omega,by go_num,ξ _,Z.o.2.1,Z.o.2.2.1,Z.o.2.2.2⟩
    case measure=>have:=G.o.1;omega
   ·have hqe:q=ins.length:=by omega
    subst hqe;rw[χ (ξ _)]at hown;have hBr:w.heap.size+1<wo.heap.size:=(κ.1 br).1;have hBn:W2.heap.size+1<wo.heap.size:=(κ.1 hnb).1;have f0:=free_at br 0;have f1:=free_at br 1;have f2:=free_at br 2;have f3:=free_at br 3;have f4:=free_at br 4;have f5:=free_at br 5;have f6:=free_at br 6;have z0:=ζ br (j:=0) rfl;have z1:=ζ br (j:=1) rfl;have z2:=ζ br (j:=2) rfl;have z3:=ζ br (j:=3) rfl;have z4:=ζ br (j:=4) rfl;have z5:=ζ br (j:=5) rfl;have z6:=ζ br (j:=6) rfl;obtain⟨s8,k8⟩:=aec br (.string uid) (.int .u8 (k:Int)) (.slice va ins.length vc) (.int .u8 0) (.int .i64 0) (.slice none 0 0) (.int .i64 0);have F:AZ w ⟨uid,(k:Int),ins.map (bJ j.nodes),.mk 0 0 [],0⟩ (.returned (.tuple #[.agg #[.string uid,.int .u8 (k:Int),.slice va ins.length vc,.int .u8 0,.int .i64 0,.slice none 0 0,.int .i64 0],.bool true])) (((((((wo.setCell ⟨w.heap.size+1,0,none⟩ (.string uid)).setCell ⟨w.heap.size+1,1,none⟩ (.int .u8 (k:Int))).setCell ⟨w.heap.size+1,2,none⟩ (.slice va ins.length vc)).setCell ⟨w.heap.size+1,3,none⟩ (.int .u8 0)).setCell ⟨w.heap.size+1,4,none⟩ (.int .i64 0)).setCell ⟨w.heap.size+1,5,none⟩ (.slice none 0 0)).setCell ⟨w.heap.size+1,6,none⟩ (.int .i64 0)):=by
     have h8:=k8.size;have hlm:(ins.map (bJ j.nodes)).length=ins.length:=(by rw[length_map]);refine⟨va,vc,none,0,fun z=>(Value.slice va ins.length vc).ownBlock=some z,by rw[show bQ ⟨uid,(k:Int),ins.map (bJ j.nodes),.mk 0 0 [],0⟩ va vc none 0= #[.string uid,.int .u8 (k:Int),.slice va ins.length vc,.int .u8 0,.int .i64 0,.slice none 0 0,.int .i64 0] by simp[bQ,Ex.op,Ex.n,Ex.args]],?_,fun z hz=>?_,kw.new k8 (fun i hi hs=>by unfold one at hs;omega)⟩
     ·intro S w' hk hS
      have ags:=hk.owns (k8.owns hown (fun z hz hs=>by have:=(hown.lt z hz).1;unfold one at hs;omega)) (fun z hz=>hS z hz);refine⟨va,vc,none,0,rfl,.mk (show(0:Int)<=0 by decide) (show(0:Int)<=255 by decide) fF (Reads.nil w' 3) rfl (by simp),?_,?_,(show(0:Int)<=(k:Int) by omega),(show(k:Int)<=255 by omega),fF,H.o.2.2.2.2.1⟩
      ·have:=Reads.aN ags
       simp only[length_map];exact this
      ·intro z hz
       obtain⟨x,_,rfl⟩:=aaw.1 hz;exact ZO j.nodes hnl x
     ·have:=hown.lt z hz
      omega
    have FF:=γ (θ F s8);have HNB:=γ hnb;have K8:=γ k8;have hk0: ¬((k:Int)=0):=(by omega);have gk0:((k:Int)==0)=false:=(by simpa using hk0);clear F s8 k8 hown hkp kw bj br hg hnb;go_wp2;refine ak [0,1,2,3,4,5] (fun W=>ε (one (w.heap.size+1)) wo W) (by kernel_rfl) (by kernel_rfl) rfl (δ.drew) ?_;simp only[aco];iterate 4 (apply aj rfl rfl;(intro W hW;have nW:=hW.heap HNB.o (show ¬(W2.heap.size+1=w.heap.size+1) by omega);have m0:=ζ nW (j:=0) rfl;have m1:=ζ nW (j:=1) rfl;have m2:=ζ nW (j:=2) rfl;have m3:=ζ nW (j:=3) rfl;have m4:=ζ nW (j:=4) rfl;have m5:=ζ nW (j:=5) rfl;have m6:=ζ nW (j:=6) rfl;clear nW;go_simp;rfl);go_frame)
    apply ay rfl rfl;intro K hK;go_wp2_with fail;obtain⟨WF,mO⟩:=acu (((((((wo.setCell ⟨w.heap.size+1,0,none⟩ (.string uid)).setCell ⟨w.heap.size+1,1,none⟩ (.int .u8 (k:Int))).setCell ⟨w.heap.size+1,2,none⟩ (.slice va ins.length vc)).setCell ⟨w.heap.size+1,3,none⟩ (.int .u8 0)).setCell ⟨w.heap.size+1,4,none⟩ (.int .i64 0)).setCell ⟨w.heap.size+1,5,none⟩ (.slice none 0 0)).setCell ⟨w.heap.size+1,6,none⟩ (.int .i64 0));obtain⟨F,s8⟩:=FF.o;have k8:=K8.o;rw[mO]at s8 F k8⊢;refine hK _ _ (fun _=>k8.drew) ?_;clear hK;apply aj rfl rfl
    ·intro W hW;go_simp;rfl
    go_frame;refine aA (fun _=>k8.drew) ?_;have s9:WF.drew.heap[w.heap.size+1]?=some (.cells #[.string uid,.int .u8 (k:Int),.slice va ins.length vc,.int .u8 0,.int .i64 0,.slice none 0 0,.int .i64 0] 42 (0,0)):=s8;have q0:=ζ s9 (j:=0) rfl;have q1:=ζ s9 (j:=1) rfl;have q2:=ζ s9 (j:=2) rfl;have q3:=ζ s9 (j:=3) rfl;have q4:=ζ s9 (j:=4) rfl;have q5:=ζ s9 (j:=5) rfl;have q6:=ζ s9 (j:=6) rfl;clear s8 s9 k8;go_wp2;refine bodyPost_ret (v:= .tuple #[.agg #[.string uid,.int .u8 (k:Int),.slice va ins.length vc,.int .u8 0,.int .i64 0,.slice none 0 0,.int .i64 0],.bool true]) (by simp[results,results158,go_sem,q0,q1,q2,q3,q4,q5,q6];omega) rfl F.drew
end
section
namespace H2
open Go
section
variable {P:Program} {ops:Array Oper} {md:Region.Mode} {C:World->Prop}
def PN:Go.Op->Bool
 | .nilCheck _| .move _| .assign _| .pick .. | .build .. | .binOp .. | .unOp .. | .convert .. | .fieldAddr .. | .field .. | .indexAddr .. | .extract .. =>true
 |_=>false
def gq:Go.Op->Bool
 | .store .. =>true
 |_=>false
def nU (o:Go.Op):Bool:=floats o&&!PN o
def yh (md:Region.Mode)(ops:Array Oper):Bool:=
 (range ops.size).all fun j=>match ops[j]? with
   |some oj=>!gq oj.op||(range ops.size).all fun i=>match ops[i]? with
    |some oi=>!nU oi.op||oj.after.any fun e=>Region.binds md e&&e.on==i
    |none=>true
   |none=>true
theorem CU (h:yh md ops=true){j i:Nat}{oj oi:Oper}(hj:ops[j]?=some oj)(hi:ops[i]?=some oi)(hh:gq oj.op=true)(hr:nU oi.op=true):
 ∃e∈oj.after,Region.binds md e=true/\e.on=i:=by
 have hj':=(κ.1 hj).1;have hi':=(κ.1 hi).1;have h1:=all_eq_true.1 h j (mem_range.2 hj');simp only[hj,hh,Bool.not_true,Bool.false_or]at h1;have h2:=all_eq_true.1 h1 i (mem_range.2 hi');simp only[hi,hr,Bool.not_true,Bool.false_or]at h2;rw[Array.any_eq_true]at h2;obtain⟨k,hk,h2⟩:=h2;simp only[Φ,beq_iff_eq]at h2;exact⟨_,Array.getElem_mem hk,h2.1,h2.2⟩
def rY (ops:Array Oper)(listed:Array Bool):Prop:= ∀(j:Nat) oj,ops[j]?=some oj->gq oj.op=true->listed.getD j true=false
def Shut (ops:Array Oper)(listed:Array Bool):Prop:= ∀(j:Nat) oj,ops[j]?=some oj->gq oj.op=true->listed.getD j true=true-> ∀(i:Nat) oi,ops[i]?=some oi->nU oi.op=true->listed.getD i true=true
theorem ny {listed:Array Bool}{j:Nat}(hj:j∈Region.ready md ops listed){oj:Oper}(hoj:ops[j]?=some oj){e:Edge}(he:e∈oj.after)(hb:Region.binds md e=true):listed.getD e.on true=true:=by
 obtain⟨_,o,ho,hall⟩:=mem_ready.1 hj;rw[hoj]at ho;cases ho;have h2:=hall e he hb
 rcases Nat.lt_or_ge e.on listed.size with h'|h'
 ·simp[h']at h2⊢;exact h2
 ·simp[Array.getElem?_eq_none h']at h2
theorem kP (listed:Array Bool)(j:Nat):(listed.setIfInBounds j true).getD j true=true:=by
 rw[Array.getD_eq_getD_getElem?,Array.getElem?_setIfInBounds];by_cases h:j<listed.size
 ·simp[h]
 ·simp[h]
theorem getD_set_true (listed:Array Bool)(j i:Nat)(h:listed.getD i true=true):(listed.setIfInBounds j true).getD i true=true:=by
 by_cases e:j=i
 ·subst e
  exact kP _ _
 ·rw[getD_set_ne true e];exact h
theorem Shut.set (hh:yh md ops=true){listed:Array Bool}(h:Shut ops listed){j:Nat}(hj:j∈Region.ready md ops listed):Shut ops (listed.setIfInBounds j true):=by
 intro k ok hk nO hl i oi hi hr;by_cases e:j=k
 ·subst e
  obtain⟨e,he,hb,rfl⟩:=CU hh hk hi nO hr;exact getD_set_true _ _ _ (ny hj hk he hb)
 ·rw[getD_set_ne true e]at hl
  exact getD_set_true _ _ _ (h k ok hk nO hl i oi hi hr)
def wpAnyH (P:Program)(md:Region.Mode)(ops:Array Oper)(C:World->Prop)(Q:Act->World->Prop):Nat->Array Bool->Act->World->Prop
 |0,listed,a,w=>(rY ops listed->C w)/\(∀(k:Nat) o,ops[k]?=some o->listed.getD k true=true)/\Q a w
 |fuel+1,listed,a,w=>(rY ops listed->C w)/\(Region.ready md ops listed=[]->Q a w)/\
  ∀i∈Region.ready md ops listed,wpOp P ops (mD Q) i (wpAnyH P md ops C Q fuel (listed.setIfInBounds i true)) a w
theorem sU {Q:Act->World->Prop}{Q':Exit->Act->World->Prop}(hQ: ∀a w,Q a w->Q' .normal a w): ∀(fuel:Nat)(listed:Array Bool)(a:Act)(w:World),
 wpAnyH P md ops C Q fuel listed a w->wpAny P md ops Q' fuel listed a w
 |0,_,_,_,h=>⟨ready_nil h.2.1,hQ _ _ h.2.2⟩
 |fuel+1,_,_,_,h=>⟨fun h0=>hQ _ _ (h.2.1 h0),fun i hi=>wpOp_mono (fun a w=>sU hQ fuel _ a w)
   (zS (fun e a w h=>by cases e<;>first|exact hQ _ _ h|exact h.elim) (h.2.2 i hi))⟩
theorem wpAnyH.cold {Q:Act->World->Prop}{fuel:Nat}{listed:Array Bool}{a:Act}{w:World}(h:wpAnyH P md ops C Q fuel listed a w):rY ops listed->C w:=by
 cases fuel with
 |zero=>exact h.1
 |succ f=>exact h.1
def vg (C:World->Prop)(o:Oper)(w:World):Prop:=nU o.op=true->C w
theorem wpAnyH_first {Q:Act->World->Prop}{i:Nat}{oi:Oper}{v:Value}(hh:yh md ops=true)(hi:ops[i]?=some oi)(hfl:floats oi.op=true)(hsel: ∀(j:Nat)(o:Oper) cs b,ops[j]?=some o->o.op≠ .select cs b):
 ∀(fuel:Nat)(listed:Array Bool)(a:Act)(w:World),
  (∀j oj,ops[j]?=some oj->j≠i->listed.getD j true=false->(∀e∈oj.after,Region.binds md e=true->e.on≠i)->oi.apart ops oj=true)->
  (rY ops listed->C w)->Shut ops listed->
  i∈Region.ready md ops listed->ku P ops (vg C oi) oi v a->
  wpAnyH P md ops C Q fuel (listed.setIfInBounds i true) (a.put oi.dst v) w->wpAnyH P md ops C Q (fuel+1) listed a w:=by
 have hnot:gq oi.op=false:=by cases h:oi.op<;>rw[h]at hfl<;>first|rfl|cases hfl
 have hcls: ∀(listed:Array Bool)(w:World),(rY ops listed->C w)->Shut ops listed->i∈Region.ready md ops listed->vg C oi w:=by
  intro listed w hC hS hr hread;refine hC fun j oj hj nO=>?_
  cases hl:listed.getD j true with
  |false=>rfl
  |true=>have:=hS j oj hj nO hl i oi hi hread;rw[(mem_ready.1 hr).1]at this;cases this
 intro fuel
 induction fuel with
 |zero=>
  intro listed a w _ hC hS hr hy H;refine⟨hC,fun h=>(by rw[h]at hr;cases hr),fun j hj=>?_⟩;by_cases hji:j=i
  ·subst hji;exact hy.wpOp hi (hcls listed w hC hS hr) H
  ·have:=ready_mono hj hji
   rw[ready_nil H.2.1]at this;cases this
 |succ fuel ih=>
  intro listed a w hfree hC hS hr hy H;refine⟨hC,fun h=>(by rw[h]at hr;cases hr),fun j hj=>?_⟩;by_cases hji:j=i
  ·subst hji;exact hy.wpOp hi (hcls listed w hC hS hr) H
  ·have h1:=H.2.2 j (ready_mono hj hji)
   obtain⟨hjun,oj,hoj,hall⟩:=mem_ready.1 hj;have V7: ∀e∈oj.after,Region.binds md e=true->e.on≠i:=fun e he hb heq=>(by have h1:=ny hj hoj he hb;rw[heq,(mem_ready.1 hr).1]at h1;cases h1);have h2:=BA hoj (hfree j oj hoj hji hjun V7) (fun cs b=>hsel i oi cs b hi) (fun cs b=>hsel j oj cs b hoj) hy h1;have hfree': ∀k ok,ops[k]?=some ok->k≠i->(listed.setIfInBounds j true).getD k true=false->
    (∀e∈ok.after,Region.binds md e=true->e.on≠i)->oi.apart ops ok=true:=fun k ok hk hki hun hno=>by
    refine hfree k ok hk hki ?_ hno;by_cases hjk:j=k
    ·subst hjk;exact hjun
    ·rw[getD_set_ne true hjk]at hun;exact hun
   refine wpOp_mono (fun a' w' h3=>ih (listed.setIfInBounds j true) a' w' hfree' (fun Wq=>?_) (hS.set hh hj) (ready_mono hr (Ne.symm hji)) h3.1 ?_) h2
   ·refine h3.2.cold fun k ok hk nO=>?_
    have hki:k≠i:=fun e=>(by subst e;rw[hi]at hk;cases hk;rw[hnot]at nO;cases nO);have:=Wq k ok hk nO;by_cases hjk:j=k
    ·subst hjk
     rw[kP]at this;cases this
    ·rw[getD_set_ne true hjk,getD_set_ne true (Ne.symm hki)]
     rwa[getD_set_ne true hjk]at this
   ·rw[Array.setIfInBounds_comm _ _ hji]
    exact h3.2
def eX (P:Program)(ops:Array Oper)(C:World->Prop)(Q:Act->World->Prop):Bool->List Oper->Act->World->Prop
 |cO,[],a,w=>(cO=true->C w)/\Q a w
 |cO,o::rest,a,w=>
  if Region.wanted o (yielded ops a.tmps)then
   if floats o.op then∃v,(∀w',vg C o w'->(execOp a.eval o).run P w'= .ok (.value v) w')/\eX P ops C Q cO rest (a.put o.dst v) w
   else o.wp P a w (fun a' w'=>((cO&&!gq o.op)=true->C w')/\eX P ops C Q (cO&&!gq o.op) rest a' w') (mD Q)
  else eX P ops C Q (cO&&!gq o.op) rest (a.put o.dst undef) w
theorem gG {Q:Act->World->Prop}(hs:Region.noSelect ops=true)(hh:yh .any ops=true): ∀(l:List Nat)(listed:Array Bool)(cO:Bool)(a:Act)(w:World),
 gJ .any ops l listed=true->Shut ops listed->(rY ops listed->cO=true)->(cO=true->C w)->eX P ops C Q cO (l.map fun k=>(ops[k]?).getD default) a w->wpAnyH P .any ops C Q l.length listed a w
 |[],listed,cO,a,w,hB,_,qU,hC,h=>by refine⟨fun hc=>hC (qU hc),fun k o hk=>?_,h.2⟩;simp only[gJ,all_eq_true,mem_range]at hB;exact hB k (κ.1 hk).1
 |k::rest,listed,cO,a,w,hB,hS,qU,hC,h=>by
  simp only[gJ,Φ]at hB;obtain⟨hk,hB'⟩:=hB;have hr:k∈Region.ready .any ops listed:=by
   split at hk
   ·simp only[Φ]at hk;simpa using hk.1
   ·have:Region.ready .any ops listed=[k]:=by simpa using hk
    rw[this];simp
  obtain⟨hun,o,hok,_⟩:=mem_ready.1 hr;simp only[Θ,hok,Δ,eX]at h;simp only[yA,hok]at hk;have hS':=hS.set hh hr;have hnext:rY ops (listed.setIfInBounds k true)->(cO&&!gq o.op)=true:=by
   intro hc;have hno:gq o.op=false:=by
    cases hz:gq o.op with
    |false=>rfl
    |true=>have h1:=hc k o hok hz;rw[kP]at h1;cases h1
   rw[hno,qU]
   ·rfl
   ·intro j oj hj nO
    have:=hc j oj hj nO;by_cases e:k=j
    ·subst e;exact hun
    ·rwa[getD_set_ne true e]at this
  by_cases hf:floats o.op=true
  ·rw[if_pos hf]at hk
   simp only[Φ]at hk;have hno:gq o.op=false:=by cases h:o.op<;>rw[h]at hf<;>first|rfl|cases hf
   by_cases hw:Region.wanted o (yielded ops a.tmps)=true
   ·simp only[hw,if_true,hf]at h
    obtain⟨v,hv,hn⟩:=h;refine wpAnyH_first hh hok hf (Region.noSelect_spec hs) rest.length listed a w (Region.free_spec hok hk.2) (fun hc=>hC (qU hc)) hS hr (.inl ⟨hw,hv⟩)
     (gG hs hh rest _ cO _ w hB' hS' (fun hc=>?_) hC hn)
    have:=hnext hc;rw[Φ]at this;exact this.1
   ·simp only[hw,hno,Bool.not_false,Bool.and_true]at h
    refine wpAnyH_first hh hok hf (Region.noSelect_spec hs) rest.length listed a w (Region.free_spec hok hk.2) (fun hc=>hC (qU hc)) hS hr (.inr ⟨by simpa using hw,rfl⟩)
     (gG hs hh rest _ cO _ w hB' hS' (fun hc=>?_) hC h)
    have:=hnext hc;rw[Φ]at this;exact this.1
  ·rw[if_neg hf]at hk
   have hr1:Region.ready .any ops listed=[k]:=(by simpa using hk);refine⟨fun hc=>hC (qU hc),fun h0=>(by rw[h0]at hr1;cases hr1),fun j hj=>?_⟩;rw[hr1]at hj;obtain rfl:j=k:=(by simpa using hj);unfold wpOp;simp only[hok];by_cases hw:Region.wanted o (yielded ops a.tmps)=true
   ·simp only[hw,if_true,hf]at h⊢
    exact .inl (Oper.wp_mono (fun a' w' h'=>gG hs hh rest _ _ a' w' hB' hS' hnext h'.1 h'.2) h)
   ·simp only[hw]at h⊢
    refine gG hs hh rest _ _ _ w hB' hS' hnext (fun hc=>hC ?_) h;rw[Φ]at hc;exact hc.1
theorem fJ {id:Nat}{Q:Exit->Act->World->Prop}{a:Act}{w:World}(ord:List Nat)(C:World->Prop)(hm:P.follows .mixedOrders=true)(hB:(Region.noSelect ops&&yh .any ops&&gJ .any ops ord (Array.replicate ops.size false))=true)
 (hlen:ord.length=ops.size) (hC:C w.drew) (h:eX P ops C (Q .normal) true (ord.map fun k=>(ops[k]?).getD default) a w.drew):(Code.region id ops true).wp P Q a w:=by
 simp only[Φ]at hB;obtain⟨⟨h1,h2⟩,h3⟩:=hB;refine wp_region_any hm (sU (C:=C) (Q:=Q .normal) (fun _ _ h=>h) _ _ _ _ ?_);rw[<-hlen];refine gG h1 h2 ord _ true a w.drew (by rw[hlen];exact h3) (fun j oj hj _ hl=>?_) (fun _=>rfl) (fun _=>hC) h;have hlt:=(κ.1 hj).1;rw[hlen,Array.getD_eq_getD_getElem?,Array.getElem?_replicate,if_pos hlt]at hl;cases hl
theorem dZ {Q:Act->World->Prop}{rest:List Oper}{a:Act}{w:World}{o:Oper}{v:Value}{cO:Bool}(hw:Region.wanted o (yielded ops a.tmps)=true)(hf:floats o.op=true)
 (hv: ∀w',(execOp a.eval o).run P w'= .ok (.value v) w') (h:eX P ops C Q cO rest (a.put o.dst v) w):eX P ops C Q cO (o::rest) a w:=by
 unfold eX;simp only[hw,hf,if_true];exact⟨v,fun w' _=>hv w',h⟩
theorem lJ {Q:Act->World->Prop}{rest:List Oper}{a:Act}{w:World}{o:Oper}{v:Value}{cO:Bool}(hw:Region.wanted o (yielded ops a.tmps)=true)(hf:floats o.op=true)(hr:nU o.op=true)
 (hv: ∀w',C w'->(execOp a.eval o).run P w'= .ok (.value v) w') (h:eX P ops C Q cO rest (a.put o.dst v) w):eX P ops C Q cO (o::rest) a w:=by
 unfold eX;simp only[hw,hf,if_true];exact⟨v,fun w' hc=>hv w' (hc hr),h⟩
theorem iZ {Q:Act->World->Prop}{rest:List Oper}{a:Act}{w:World}{o:Oper}{cO:Bool}(hw:Region.wanted o (yielded ops a.tmps)=true)(hf:floats o.op=false)(hh:gq o.op=false)
 (h: ∀K:Act->World->Prop,(∀a' w',(cO=true->C w')->eX P ops C Q cO rest a' w'->K a' w')->o.wp P a w K (mD Q)):eX P ops C Q cO (o::rest) a w:=by
 unfold eX;simp only[hw,hf,hh,Bool.not_false,Bool.and_true,if_true];exact h _ fun a' w' h1 h2=>⟨h1,h2⟩
theorem jH {Q:Act->World->Prop}{rest:List Oper}{a:Act}{w:World}{o:Oper}{cO:Bool}(hw:Region.wanted o (yielded ops a.tmps)=true)(hf:floats o.op=false)(hh:gq o.op=true)
 (h: ∀K:Act->World->Prop,(∀a' w',eX P ops C Q false rest a' w'->K a' w')->o.wp P a w K (mD Q)):eX P ops C Q cO (o::rest) a w:=by
 unfold eX;simp only[hw,hf,hh,Bool.not_true,Bool.and_false,if_true];exact h _ fun a' w' h2=>⟨fun h=>(by cases h),h2⟩
theorem nT {Q:Act->World->Prop}{a:Act}{w:World}(h:Q a w):eX P ops C Q false [] a w:=⟨fun h=>(by cases h),h⟩
end
end H2
end
