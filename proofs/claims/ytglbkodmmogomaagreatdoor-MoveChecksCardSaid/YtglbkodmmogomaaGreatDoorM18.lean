/- lex.Tokens. -/
import Derived.Test.YtglbkodmmogomaaGreatDoorM17
set_option linter.unusedVariables false
set_option linter.unusedSimpArgs false
set_option maxHeartbeats 2000000
set_option maxRecDepth 100000
namespace Go.Proofs.YtglbkodmmogomaaGreatDoor
open Go Go.RowKit
attribute [local irreducible] bH
abbrev lX:Tok:=⟨0,vg,0,0⟩
abbrev wJ (t:Tok):List Value:=[.int .u8 t.kind, .string t.text, .int .i64 t.n, .int .i64 t.at_]
def kZ (l:List Tok):List Value:=l.flatMap wJ
theorem JK (l:List Tok)(t:Tok):kZ (l++[t])=kZ l++wJ t:=by unfold kZ;rw[List.flatMap_append];simp
theorem CB: ∀{l:List Tok}{i:Nat}{t:Tok},l[i]?=some t->(kZ l)[i*4]?=some (.int .u8 t.kind)/\(kZ l)[i*4+1]?=some (.string t.text)/\(kZ l)[i*4+2]?=some (.int .i64 t.n)/\(kZ l)[i*4+3]?=some (.int .i64 t.at_)
 |x::l,0,t,h=>by
  cases h
  exact⟨rfl,rfl,rfl,rfl⟩
 |x::l,i+1,t,h=>by
  have ih:=CB (l:=l) (i:=i) (t:=t) (by simpa using h)
  rw[show(i+1)*4=i*4+1+1+1+1 by omega]
  unfold kZ at ih⊢
  rw[List.flatMap_cons]
  exact ih
def ny (t:Tok)(out:List Tok):List Tok:=if t.kind=0 then out else out++[t]
theorem Tryz.info299: ∃i z,Tryz.prog.info? 299=some i/\i.zero=some z/\i.size=4/\i.bytes=40/\z.cells.size=4:=by
 have h:(Tryz.prog.info? 299).map (fun i=>(i.zero,i.size,i.bytes))=some (some (.agg #[.int .u8 0, .string ByteArray.empty, .int .i64 0, .int .i64 0]),4,40):=by kernel_rfl
 obtain⟨i,hi,h⟩:=Option.map_eq_some_iff.1 h
 simp only[Prod.mk.injEq]at h
 exact⟨i,_,hi,h.1,h.2.1,h.2.2,by rfl⟩
theorem OU {w:World}{base n:Nat}{va:Value}{l:List Tok}(h:w.ownsRow base 299 4 va n (kZ l))(s:Tok)(hb:base<=w.heap.size)(hn:n<=100000):
 ∃iH w',(Builtin.append_ #[269,269] 269 #[va, .slice (some ⟨w.heap.size,0,none⟩) 1 1]).run Tryz.prog (w.alloc (.cells (wJ s).toArray 299))= .ok iH w'/\w'.ownsRow base 299 4 iH (n+1) (kZ (l++[s]))/\
  Kept (fun q=>base<=q) w w'/\ ∃a c,iH= .slice a (n+1) c:=by
 obtain⟨i,z,hi,hz,hs,hby,hzs⟩:=Tryz.info299
 have kA:Kept none' w (w.alloc (.cells (wJ s).toArray 299)):=(Kept.refl _ _).alloc _
 have hr:=Reads.lit w (wJ s) 299 4 1 rfl (by unfold maxLen;omega)
 have hl:(kZ l).length=n*4:=h.1
 obtain⟨v',n',w',b1,b2,b3,b4,_⟩:=bI (P:=Tryz.prog) base 269 269 299 i z 4 40 Tryz.underlying269 hi hz hs hby hzs (by omega) (kA.owns h (fun _ _ h=>h)) hr (by intro y hy;simp at hy;rcases hy with rfl|rfl|rfl|rfl<;>rfl)
  (by simp;omega) (by simp;unfold maxLen;omega) (by have:=kA.size;omega)
 have hn':n'=n+1:=by simp at b3;omega
 subst hn'
 refine⟨v',w',b1,by rw[JK];exact b2,kA.pure.trans (Kept.grown b4 (fun k hk _=>BF h hk)),?_⟩
 obtain⟨a,c,e⟩:=ay b2
 exact⟨a,c,e⟩
structure kY (w:World)(Bt Bo base:Nat)(t:Tok)(out:List Tok):Prop where
 tk:w.heap[Bt]?=some (.cells (wJ t).toArray 299 (0,0))
 ov: ∃v,w.heap[Bo]?=some (.cells #[v] 269 (0,0))/\w.ownsRow base 299 4 v out.length (kZ out)
 ne:Bt≠Bo
 b1:Bt<base
 b2:Bo<base
 b3:base<=w.heap.size
theorem kY.jL {w w':World}{S:Nat->Prop}{Bt Bo base:Nat}{t:Tok}{out:List Tok}(h:kY w Bt Bo base t out)(hk:Kept S w w')(hS: ∀k,S k->w.heap.size<=k\/(k≠Bt/\k≠Bo/\k<base)):kY w' Bt Bo base t out:=by
 obtain⟨h1,⟨v,h2,h3⟩,h4,h5,h6,h7⟩:=h
 have hb:=h7
 refine⟨hk.heap h1 (fun h=>by have:=hS _ h;omega),⟨v,hk.heap h2 (fun h=>by have:=hS _ h;omega),hk.owns h3 (fun k hk' hs=>?_)⟩,h4,h5,h6,Nat.le_trans h7 hk.size⟩
 have:=(h3.lt k hk').1
 have:=(h3.lt k hk').2
 have:=hS k hs
 omega
theorem kY.pure {w w':World}{Bt Bo base:Nat}{t:Tok}{out:List Tok}(h:kY w Bt Bo base t out)(hk:Kept none' w w'):kY w' Bt Bo base t out:=h.jL hk (fun _ h=>h.elim)
theorem SV {w:World}{b E:Nat}{x0 x1 x2 x3:Value}(h:w.heap[b]?=some (.cells #[x0,x1,x2,x3] E (0,0)))(y0 y1 y2 y3:Value):
 ((((w.setCell ⟨b,0,none⟩ y0).setCell ⟨b,1,none⟩ y1).setCell ⟨b,2,none⟩ y2).setCell ⟨b,3,none⟩ y3).heap[b]?=some (.cells #[y0,y1,y2,y3] E (0,0))/\Kept (one b) w ((((w.setCell ⟨b,0,none⟩ y0).setCell ⟨b,1,none⟩ y1).setCell ⟨b,2,none⟩ y2).setCell ⟨b,3,none⟩ y3):=by
 refine⟨?_,?_⟩
 ·have:=aS (aS (aS (aS h 0 y0) 1 y1) 2 y2) 3 y3
  simpa using this
 ·exact Kept.setCell (p:=⟨b,3,none⟩) (Kept.setCell (p:=⟨b,2,none⟩) (Kept.setCell (p:=⟨b,1,none⟩) (Kept.setCell (p:=⟨b,0,none⟩) (Kept.refl (one b) _) (.inl rfl) _) (.inl rfl) _) (.inl rfl) _) (.inl rfl) _
theorem kY.lay {w:World}{Bt Bo base:Nat}{t:Tok}{out:List Tok}(h:kY w Bt Bo base t out)(u:Tok):kY ((((w.setCell ⟨Bt,0,none⟩ (.int .u8 u.kind)).setCell ⟨Bt,1,none⟩ (.string u.text)).setCell ⟨Bt,2,none⟩ (.int .i64 u.n)).setCell ⟨Bt,3,none⟩ (.int .i64 u.at_)) Bt Bo base u out/\
 Kept (one Bt) w ((((w.setCell ⟨Bt,0,none⟩ (.int .u8 u.kind)).setCell ⟨Bt,1,none⟩ (.string u.text)).setCell ⟨Bt,2,none⟩ (.int .i64 u.n)).setCell ⟨Bt,3,none⟩ (.int .i64 u.at_)):=by
 obtain⟨h1,⟨v,h2,h3⟩,h4,h5,h6,h7⟩:=h
 obtain⟨g1,g2⟩:=SV h1 (.int .u8 u.kind) (.string u.text) (.int .i64 u.n) (.int .i64 u.at_)
 refine⟨⟨g1,⟨v,g2.heap h2 (fun e=>h4 e.symm),g2.owns h3 (fun k hk hs=>?_)⟩,h4,h5,h6,Nat.le_trans h7 g2.size⟩,g2⟩
 have:=(h3.lt k hk).1
 unfold one at hs
 omega
def LH (w:World)(Bt Bo base:Nat)(t:Tok)(out:List Tok)(e:Ending)(w':World):Prop:=e= .returned (.bool true)/\kY w' Bt Bo base lX (ny t out)/\Kept (fun q=>q=Bt\/q=Bo\/base<=q) w w'
theorem GN (Bt Bo base:Nat)(t:Tok)(out:List Tok)(w:World)(h:kY w Bt Bo base t out)(ht:t.kind=0\/t.kind=1\/t.kind=3)(ho:out.length<=1000):
 Calls Tryz.prog 225 #[.pointer (some ⟨Bt,0,none⟩), .pointer (some ⟨Bo,0,none⟩)] w (LH w Bt Bo base t out):=by
 have hS:=h
 obtain⟨h1,⟨v,h2,h3⟩,h4,h5,h6,h7⟩:=h
 have x0:=cells_at h1 (j:=0) rfl
 have x1:=cells_at h1 (j:=1) rfl
 have x2:=cells_at h1 (j:=2) rfl
 have x3:=cells_at h1 (j:=3) rfl
 have f0:=free_at h1 0
 have f1:=free_at h1 1
 have f2:=free_at h1 2
 have f3:=free_at h1 3
 have o0:w.cell? ⟨Bo,0,none⟩=some v:=cells_at h2 rfl
 have hBt:Bt<w.heap.size:=by omega
 have hBo:Bo<w.heap.size:=by omega
 by_cases hk:t.kind=0
 ·have F:=hS.lay lX
  have FF:=Lib.hid (show LH w Bt Bo base t out (.returned (.bool true)) _ from⟨rfl,by rw[show ny t out=out from if_pos hk];exact F.1,F.2.mono (fun k _ h=> .inl h)⟩)
  obtain⟨tk,tt,tn,ta⟩:=t
  simp only at hk
  subst hk
  clear F hS h1 h2 h3
  go_enter Tryz.func225,Tryz.ntmps225
  go_wp2_with fail
  go_ret
  exact FF.out
 ·obtain⟨va,vc,rfl⟩:=ay h3
  obtain⟨iH,w',g1,g2,g3,⟨a2,c2,rfl⟩⟩:=OU h3 t h7 (by omega)
  have o1:=g3.cell (p:=⟨Bo,0,none⟩) (show ¬(base<=Bo) by omega) o0
  have of:=free_at (g3.heap h2 (fun h=>by omega)) 0
  have hsz:=g3.size
  have hset:=aS (g3.heap h2 (fun h=>by omega)) 0 (Value.slice a2 (out.length+1) c2)
  have ks:Kept (one Bo) w' (w'.setCell ⟨Bo,0,none⟩ (Value.slice a2 (out.length+1) c2)):=Kept.setCell (p:=⟨Bo,0,none⟩) (Kept.refl (one Bo) _) (.inl rfl) _
  have st:kY (w'.setCell ⟨Bo,0,none⟩ (Value.slice a2 (out.length+1) c2)) Bt Bo base t (out++[t]):=by
   refine⟨ks.heap (g3.heap h1 (fun h=>by omega)) h4,⟨_,hset,?_⟩,h4,h5,h6,Nat.le_trans h7 (Nat.le_trans g3.size ks.size)⟩
   rw[List.length_append]
   exact ks.owns g2 (fun k hk hs=>by have:=(g2.lt k hk).1;unfold one at hs;omega)
  have F:=st.lay lX
  have hks:=ks.size
  have y0:=ks.cell (p:=⟨Bt,0,none⟩) h4 (g3.cell (p:=⟨Bt,0,none⟩) (show ¬(base<=Bt) by omega) x0)
  have y1:=ks.cell (p:=⟨Bt,1,none⟩) h4 (g3.cell (p:=⟨Bt,1,none⟩) (show ¬(base<=Bt) by omega) x1)
  have y2:=ks.cell (p:=⟨Bt,2,none⟩) h4 (g3.cell (p:=⟨Bt,2,none⟩) (show ¬(base<=Bt) by omega) x2)
  have y3:=ks.cell (p:=⟨Bt,3,none⟩) h4 (g3.cell (p:=⟨Bt,3,none⟩) (show ¬(base<=Bt) by omega) x3)
  have q0:=free_at st.tk 0
  have q1:=free_at st.tk 1
  have q2:=free_at st.tk 2
  have q3:=free_at st.tk 3
  have hBt':Bt<w'.heap.size:=by omega
  have hBo':Bo<w'.heap.size:=by omega
  have FF:=Lib.hid (And.intro (show LH w Bt Bo base t out (.returned (.bool true)) _ from⟨rfl,by rw[show ny t out=out++[t]from if_neg hk];exact F.1,((g3.mono (S':=fun q=>q=Bt\/q=Bo\/base<=q) (fun k _ h=> .inr (.inr h))).new ks (fun i hi hs=> .inr (.inl hs))).new F.2 (fun i hi hs=> .inl hs)⟩) g1)
  obtain⟨tk,tt,tn,ta⟩:=t
  simp only at hk ht
  have ht2:tk=1\/tk=3:=by omega
  clear F hS h1 h2 h3 g1 g2 g3 hset ks st hk ht f0 f1 f2 f3
  rcases ht2 with rfl|rfl
  ·go_enter Tryz.func225,Tryz.ntmps225
   go_wp2_with (at_builtin;refine iL rfl (.tmp 22) (.tmp 24) 269 rfl _ _ _ rfl rfl FF.out.2 ?_)
   go_ret
   exact FF.out.1
  ·go_enter Tryz.func225,Tryz.ntmps225
   go_wp2_with (at_builtin;refine iL rfl (.tmp 22) (.tmp 24) 269 rfl _ _ _ rfl rfl FF.out.2 ?_)
   go_ret
   exact FF.out.1
structure Lx where
 t:Tok
 out:List Tok
 at_:Int
def jm (s:Lx)(r:Nat):Lx:=
 if vJ s.t r=true then⟨{s.t with text:=s.t.text++l7 r},s.out,s.at_+1⟩
 else if r=32 then⟨lX,ny s.t s.out,s.at_+1⟩
 else⟨⟨mF r,l7 r,0,s.at_+1⟩,ny s.t s.out,s.at_+1⟩
def BN (l:List (Nat×Nat))(s:Lx):Lx:=l.foldl (fun s p=>jm s p.2) s
def oH (s:ByteArray):List Tok:=ny (BN (runes s) ⟨lX,[],-1⟩).t (BN (runes s) ⟨lX,[],-1⟩).out
structure LG (s:Lx)(n:Nat):Prop where
 kind:s.t.kind=0\/s.t.kind=1\/s.t.kind=3
 out:s.out.length<=n
 text:s.t.text.size<=4*n
 at1: -1<=s.at_
 at2:s.at_<=n
theorem LG.step {s:Lx}{n:Nat}(h:LG s n){r:Nat}(hr:iJ r):LG (jm s r) (n+1):=by
 obtain⟨h1,h2,h3,h4,h5⟩:=h
 have hsz:(l7 r).size<=4:=by unfold iJ at hr;rcases hr with rfl|rfl|rfl|rfl|rfl|rfl|rfl<;>decide
 have hk:mF r=0\/mF r=1\/mF r=3:=by unfold mF;split;exact .inr (.inr rfl);split;exact .inl rfl;exact .inr (.inl rfl)
 have he:(ny s.t s.out).length<=n+1:=by unfold ny;split;omega;rw[List.length_append];simp;omega
 unfold jm
 split
 ·exact⟨h1,by simp only;omega,by simp only[ByteArray.size_append];omega,by simp only;omega,by simp only;omega⟩
 ·split
  ·exact⟨.inl rfl,he,by simp only;exact Nat.zero_le _,by simp only;omega,by simp only;omega⟩
  ·exact⟨hk,he,by simp only;omega,by simp only;omega,by simp only;omega⟩
def JB (w:World)(l:List Tok)(e:Ending)(w':World):Prop:= ∃v,e= .returned (.tuple #[v, .int .i64 0, .int .i64 0])/\w'.ownsRow w.heap.size 299 4 v l.length (kZ l)/\Kept none' w w'
theorem kY.text {w:World}{Bt Bo base:Nat}{t:Tok}{out:List Tok}(h:kY w Bt Bo base t out)(x:ByteArray):kY (w.setCell ⟨Bt,1,none⟩ (.string x)) Bt Bo base {t with text:=x} out/\Kept (one Bt) w (w.setCell ⟨Bt,1,none⟩ (.string x)):=by
 obtain⟨h1,⟨v,h2,h3⟩,h4,h5,h6,h7⟩:=h
 have g2:Kept (one Bt) w (w.setCell ⟨Bt,1,none⟩ (.string x)):=Kept.setCell (p:=⟨Bt,1,none⟩) (Kept.refl (one Bt) _) (.inl rfl) _
 refine⟨⟨by have:=aS h1 1 (Value.string x);simpa using this,⟨v,g2.heap h2 (fun e=>h4 e.symm),g2.owns h3 (fun k hk hs=>?_)⟩,h4,h5,h6,Nat.le_trans h7 g2.size⟩,g2⟩
 have:=(h3.lt k hk).1
 unfold one at hs
 omega
theorem FH {s:Lx}{r:Nat}(h:vJ s.t r=true):jm s r=⟨{s.t with text:=s.t.text++l7 r},s.out,s.at_+1⟩:=if_pos h
theorem Ee {s:Lx}{r:Nat}(h:vJ s.t r=false)(h2:r=32):jm s r=⟨lX,ny s.t s.out,s.at_+1⟩:=by
 unfold jm
 rw[if_neg (by rw[h];simp),if_pos h2]
theorem Io {s:Lx}{r:Nat}(h:vJ s.t r=false)(h2:r≠32):jm s r=⟨⟨mF r,l7 r,0,s.at_+1⟩,ny s.t s.out,s.at_+1⟩:=by
 unfold jm
 rw[if_neg (by rw[h];simp),if_neg h2]
theorem JL (s:ByteArray)(hs:s.size<=400)(hg: ∀p∈runes s,iJ p.2)(w:World):Calls Tryz.prog 192 #[.string s] w (JB w (oH s)):=by
 obtain⟨W0,hW0⟩: ∃W0,(w.alloc (.cells #[.slice none 0 0] 269)).alloc (.cells (wJ lX).toArray 299)=W0:=⟨_,rfl⟩
 obtain⟨w1,hrun,hit,hk0,hs0⟩:=iC (P:=Tryz.prog) W0 9 s Tryz.underlying9
 have hlen:=fM s
 have Nl:Kept none' w W0:=by rw[<-hW0];exact((Kept.refl _ _).alloc _).alloc _
 have hsz0:W0.heap.size=w.heap.size+2:=by rw[<-hW0];simp
 have st0:kY w1 (w.heap.size+1) w.heap.size (w.heap.size+3) lX []:=by
  refine⟨hk0.heap ?_ (fun h=>h),⟨.slice none 0 0,hk0.heap ?_ (fun h=>h),World.ownsRow_nil _ _ _ _⟩,by omega,by omega,by omega,by omega⟩
  ·rw[<-hW0]
   have:=heap_alloc_new (w.alloc (.cells #[.slice none 0 0] 269)) (.cells (wJ lX).toArray 299)
   rwa[World.size_alloc]at this
  ·rw[<-hW0]
   exact((Kept.refl none' _).alloc _).heap (heap_alloc_new w (.cells #[.slice none 0 0] 269)) (fun h=>h)
 have hW0':(w.alloc (.cells #[.slice none 0 0] 269)).alloc (.cells #[.int .u8 0, .string ⟨#[]⟩, .int .i64 0, .int .i64 0] 299)=W0:=hW0
 have hW1:w1.heap.size=w.heap.size+3:=by omega
 have H:=Lib.hid (And.intro hit (And.intro (Nl.trans hk0) (And.intro st0 (And.intro hg hlen))))
 have HW:=Lib.hid hW0'
 rw[hsz0]at hrun
 rw[hsz0]at H
 clear hit hk0 hs0 st0 Nl hg hW0 hW0' hlen
 have h400: ¬((400:Int)<(s.size:Int)):=by omega
 go_enter Tryz.func192,Tryz.ntmps192
 go_wp2_with fail
 go_step3
 go_wp2_with fail
 go_step3
 rw[HW.out]
 clear hsz0 HW
 go_wp2
 clear hrun
 go_loopg [8] (runes s).length (fun k va wr=> ∃(left:List (Nat×Nat))(lx:Lx)(n:Nat),iK wr (w.heap.size+2) s left/\left.length=k/\n+left.length=(runes s).length/\(∀p∈left,iJ p.2)/\va= .int .i64 lx.at_/\BN left lx=BN (runes s) ⟨lX,[],-1⟩/\LG lx n/\
  kY wr (w.heap.size+1) w.heap.size (w.heap.size+3) lx.t lx.out/\Kept none' w wr)
 case atStart=>exact⟨runes s,⟨lX,[],-1⟩,0,H.out.1,rfl,by omega,H.out.2.2.2.1,rfl,rfl,⟨.inl rfl,Nat.le_refl _,Nat.le_refl _,by decide,by decide⟩,H.out.2.2.1,H.out.2.1⟩
 case round=>
  obtain⟨left,lx,n,hit,hk,hnl,hgl,rfl,hlex,hok,hst,hkp⟩:=hrel
  obtain⟨wo,rfl⟩: ∃wo:World,wo=wr:=⟨_,rfl⟩
  have VA:n<=400:=by have:=H.out.2.2.2.2;omega
  have hwb:w.heap.size+3<=wo.heap.size:=hst.b3
  rcases hit.next (P:=Tryz.prog) 0 with⟨rfl,hrun⟩|⟨p,left',w2,hp,hrun,hit2,hk2,hs2⟩
  ·have ce:=GN _ _ _ lx.t lx.out wo hst hok.kind (by have:=hok.out;omega)
   have x3:=cells_at hst.tk (j:=3) rfl
   have hend:oH s=ny lx.t lx.out:=by
    unfold oH
    rw[<-hlex];rfl
   have HE:=Lib.hid (And.intro hend hkp)
   clear hit hk hnl hgl hlex hok hst hkp hend H
   go_wp2_with fail
   (with_reducible refine ce.mono ?_)
   clear ce
   rintro e w4 ⟨rfl,uD,k4⟩
   obtain⟨v,hv,hown⟩:=uD.ov
   have o0:=cells_at hv (j:=0) rfl
   obtain⟨va,vc,rfl⟩:=ay hown
   have F:=Lib.hid (show JB w (oH s) (.returned (.tuple #[.slice va (ny lx.t lx.out).length vc, .int .i64 0, .int .i64 0])) w4 from
    ⟨_,rfl,by rw[HE.out.1];exact lH hown (by omega),HE.out.2.new k4 (fun i hi hs=>by omega)⟩)
   clear uD k4 hv hown
   go_wp2_with fail
   try rw[Exit.noGoto_ret]
   go_ret3
   exact F.out
  ·have hr:=hgl p (by rw[hp];simp)
   have Uy: ∀q∈left',iJ q.2:=fun q hq=>hgl q (by rw[hp];simp[hq])
   have hm:left'.length<gk:=by rw[hp]at hk;simp at hk;omega
   have FZ:n+1+left'.length=(runes s).length:=by rw[hp]at hnl;simp at hnl;omega
   have QN:BN left' (jm lx p.2)=BN (runes s) ⟨lX,[],-1⟩:=by rw[<-hlex,hp];rfl
   have hk3:Kept none' w w2:=hkp.new hk2 (fun i hi e=>by unfold one at e;omega)
   have hst2:kY w2 (w.heap.size+1) w.heap.size (w.heap.size+3) lx.t lx.out:=hst.jL hk2 (fun k hk=> .inr (by unfold one at hk;omega))
   have cg:=Il lx.t hok.kind p.2 hr w2
   have x0:=cells_at hst2.tk (j:=0) rfl
   have x1:=cells_at hst2.tk (j:=1) rfl
   have x2:=cells_at hst2.tk (j:=2) rfl
   have x3:=cells_at hst2.tk (j:=3) rfl
   have hat1:=hok.at1
   have hat2:=hok.at2
   have htx:=hok.text
   have hb2:w.heap.size+3<=w2.heap.size:=hst2.b3
   have G:=Lib.hid (And.intro hit2 (And.intro Uy (And.intro hm (And.intro FZ (And.intro QN (And.intro hk3 (And.intro hst2 (And.intro (hok.step hr) (And.intro hr hok)))))))))
   clear hit hk hnl hgl hlex hok hst hkp hit2 Uy hm FZ QN hk3 hst2 hp hk2 hs2 hr
   have haw:IntKind.i64.wrap (lx.at_+1)=lx.at_+1:=by rw[IntKind.wrap_i64];omega
   go_wp2_with fail
   (with_reducible refine cg.mono ?_)
   clear cg
   rintro e w3 ⟨rfl,k3⟩
   have x0:=k3.cell (fun h=>h) x0
   have x1:=k3.cell (fun h=>h) x1
   have x2:=k3.cell (fun h=>h) x2
   have x3:=k3.cell (fun h=>h) x3
   have qo:=G.out.2.2.2.2.2.2.1.pure k3
   have f0:=free_at qo.tk 0
   have f1:=free_at qo.tk 1
   have f2:=free_at qo.tk 2
   have f3:=free_at qo.tk 3
   have QK:=G.out.1.kept k3 (fun h=>h)
   have Du:=G.out.2.2.2.2.2.1.trans k3
   have hb3:w.heap.size+3<=w3.heap.size:=qo.b3
   have hb4:w.heap.size+1<w3.heap.size:=by omega
   have hb5:w.heap.size<w3.heap.size:=by omega
   cases hgo:vJ lx.t p.2 with
   |true=>
    have hst:=FH hgo
    have uD:=qo.text (lx.t.text++l7 p.2)
    have Z:=Lib.hid (And.intro hst (And.intro uD (And.intro (Du.new uD.2 (fun i hi hs=>by unfold one at hs;omega)) (QK.kept uD.2 (fun h=>by unfold one at h;omega)))))
    have hsz:((lx.t.text.size:Int)+((Utf8.encode (p.2:Int)).size:Int))<=9223372036854775807:=by
     have h4:(Utf8.encode (p.2:Int)).size<=4:=by
      have hr:=G.out.2.2.2.2.2.2.2.2.1
      unfold iJ at hr
      rcases hr with h|h|h|h|h|h|h<;>(rw[h];decide)
     omega
    clear hgo hst uD qo QK Du k3
    go_wp2_with fail
    go_roundg left'.length
    case rel=>exact⟨left',jm lx p.2,n+1,Z.out.2.2.2,rfl,G.out.2.2.2.1,G.out.2.1,by rw[Z.out.1],G.out.2.2.2.2.1,G.out.2.2.2.2.2.2.2.1,by rw[Z.out.1];exact Z.out.2.1.1,Z.out.2.2.1⟩
    case measure=>exact G.out.2.2.1
   |false=>
    have ce:=GN _ _ _ lx.t lx.out w3 qo G.out.2.2.2.2.2.2.2.2.2.kind (by have:=G.out.2.2.2.2.2.2.2.2.2.out;omega)
    have IT:=Lib.hid (And.intro QK Du)
    have GO:=Lib.hid hgo
    clear hgo qo QK Du k3 f0 f1 f2 f3
    go_wp2_with fail
    (with_reducible refine ce.mono ?_)
    clear ce
    rintro e w4 ⟨rfl,uD,k4⟩
    have FP:=IT.out.1.kept k4 (fun h=>by omega)
    have Dt:=IT.out.2.new k4 (fun i hi hs=>by omega)
    have hb4:w.heap.size+1<w4.heap.size:=by have:=uD.b3;omega
    by_cases h32:p.2=32
    ·have hst:=Ee GO.out h32
     have U1:(p.2:Int)=32:=by omega
     have Z:=Lib.hid (And.intro hst (And.intro uD (And.intro Dt FP)))
     clear hst uD Dt FP k4
     go_wp2_with fail
     go_roundg left'.length
     case rel=>exact⟨left',jm lx p.2,n+1,Z.out.2.2.2,rfl,G.out.2.2.2.1,G.out.2.1,by rw[Z.out.1],G.out.2.2.2.2.1,G.out.2.2.2.2.2.2.2.1,by rw[Z.out.1];exact Z.out.2.1,Z.out.2.2.1⟩
     case measure=>exact G.out.2.2.1
    ·have hst:=Io GO.out h32
     have U1: ¬(p.2:Int)=32:=by omega
     have hr:=G.out.2.2.2.2.2.2.2.2.1
     have h9i: ¬(p.2:Int)=9:=by unfold iJ at hr;omega
     have ck:=xC p.2 hr w4
     have hkz: ¬mF p.2=0:=by unfold mF;rw[if_neg h32];split<;>decide
     have gkz:(mF p.2==0)=false:=by simpa using hkz
     have e1:((p.2:Int)==32)=false:=by simpa using U1
     have e2:((p.2:Int)==9)=false:=by simpa using h9i
     obtain⟨kl,hkl⟩: ∃kl,mF p.2=kl:=⟨_,rfl⟩
     rw[hkl]at ck hst hkz gkz
     have Z:=Lib.hid (And.intro hst (And.intro uD (And.intro Dt FP)))
     clear hst uD Dt FP k4 hr hkl
     go_wp2_with fail
     (with_reducible refine ck.mono ?_)
     clear ck
     rintro e w5 ⟨rfl,k5⟩
     have wL:=Z.out.2.1.pure k5
     have y0:=cells_at wL.tk (j:=0) rfl
     have y1:=cells_at wL.tk (j:=1) rfl
     have y2:=cells_at wL.tk (j:=2) rfl
     have y3:=cells_at wL.tk (j:=3) rfl
     have q0:=free_at wL.tk 0
     have q1:=free_at wL.tk 1
     have q2:=free_at wL.tk 2
     have q3:=free_at wL.tk 3
     have hb5:w.heap.size+1<w5.heap.size:=by have:=wL.b3;omega
     have QA:=wL.lay ⟨kl,l7 p.2,0,lx.at_+1⟩
     have Y:=Lib.hid (And.intro QA (And.intro ((Z.out.2.2.1.trans k5).new QA.2 (fun i hi hs=>by unfold one at hs;omega)) ((Z.out.2.2.2.kept k5 (fun h=>h)).kept QA.2 (fun h=>by unfold one at h;omega))))
     clear wL QA k5
     go_wp2_with fail
     go_roundg left'.length
     case rel=>exact⟨left',jm lx p.2,n+1,Y.out.2.2,rfl,G.out.2.2.2.1,G.out.2.1,by rw[Z.out.1],G.out.2.2.2.2.1,G.out.2.2.2.2.2.2.2.1,by rw[Z.out.1];exact Y.out.1.1,Y.out.2.1⟩
     case measure=>exact G.out.2.2.1
def qc:Nat->Ex->Prop
 |0,_=>False
 |d+1,x=> ∀y∈x.args,qc d y
def LJ (w:World)(d:Nat)(e:Ending)(w':World):Prop:= ∃n:Int,e= .returned (.int .i64 n)/\1<=n/\n<=(d:Int)/\Kept none' w w'
theorem DX: ∀(d:Nat)(x:Ex)(a:Array Value)(B:Nat)(left:Int)(w:World),d<=100->qc d x->aC w a x->0<=left->left<=16->w.cell? ⟨B,0,none⟩=some (.func (.func 232) #[] #[.pointer (some ⟨B,0,none⟩)])->
 Calls Tryz.prog 232 #[.agg a, .int .i64 left, .pointer (some ⟨B,0,none⟩)] w (LJ w d)
 |0,x,_,_,_,_,_,h,_,_,_,_=>h.elim
 |d+1,x,a,B,left,w,hd,hx,h,hl0,hl1,hB=>by
  obtain⟨p,cap,rfl,h0,h1,h2,h3,h4,h5⟩:=h.parts
  have IH:=Lib.hid (fun y a B left w hy h hl0 hl1 hB=>DX d y a B left w (by omega) hy h hl0 hl1 hB)
  have SB:=Lib.hid (show∀(i:Nat)(y:Ex),x.args[i]?=some y->qc d y from fun i y hy=>hx y (List.mem_of_getElem? hy))
  have H5:=Lib.hid h5
  unfold maxLen at h4
  have hBl:B<w.heap.size:=by have:=block_lt_of_cell hB;simpa using this
  have HB:=Lib.hid hB
  clear h h5 hx
  go_enter Tryz.func232,Tryz.ntmps232
  go_wp2_with fail
  obtain⟨W0,hW0⟩: ∃W0,w.alloc (.cells #[.int .u8 x.op, .int .i64 x.n, .slice p x.args.length cap] 40)=W0:=⟨_,rfl⟩
  have k0:Kept none' w W0:=by rw[<-hW0];exact(Kept.refl _ _).alloc _
  rw[hW0]
  have K0:=Lib.hid k0
  clear hW0 k0 hB
  go_loopg [6,12] x.args.length (fun g vn vi wr=> ∃(k:Nat)(n:Int),k<=x.args.length/\vi= .int .i64 (k:Int)/\vn= .int .i64 n/\x.args.length-k<=g/\0<=n/\n<=(d:Int)/\Kept none' w wr)
  case atStart=>exact⟨0,0,by omega,rfl,rfl,by omega,by omega,by omega,K0.out⟩
  case round=>
   obtain⟨k,n,hkl,rfl,rfl,hg,hn1,hn2,hkp⟩:=hrel
   by_cases hlt:k<x.args.length
   ·obtain⟨y,hy⟩: ∃y,x.args[k]?=some y:=⟨_,List.getElem?_eq_getElem hlt⟩
    obtain⟨b,off,p',cap',rfl,q0,q1,q2,hy2⟩:=H5.out k y hy
    have r0:=hkp.cell (p:=⟨b,off+k*3,none⟩) (fun h=>h) q0
    have r1:=hkp.cell (p:=⟨b,off+k*3+1,none⟩) (fun h=>h) q1
    have r2:=hkp.cell (p:=⟨b,off+k*3+2,none⟩) (fun h=>h) q2
    have bB:=hkp.cell (p:=⟨B,0,none⟩) (fun h=>h) HB.out
    have hBr:B<wr.heap.size:=Nat.lt_of_lt_of_le hBl hkp.size
    have G:=Lib.hid (And.intro hg (And.intro (aC.pure hkp hy2) (And.intro hkp (SB.out k y hy))))
    clear q0 q1 q2 hy hy2 hkp hg H5
    by_cases hb:0<left
    ·have Jm:IntKind.i64.wrap (left-1)=left-1:=by rw[IntKind.wrap_i64];omega
     go_wp2_with fail
     have ka:Kept none' wr (wr.alloc (.cells #[.int .u8 y.op, .int .i64 y.n, .slice p' y.args.length cap'] 40)):=(Kept.refl _ _).alloc _
     have c:=IH.out y _ B (left-1) (wr.alloc (.cells #[.int .u8 y.op, .int .i64 y.n, .slice p' y.args.length cap'] 40)) G.out.2.2.2 (aC.pure ka G.out.2.1) (by omega) (by omega) (ka.cell (p:=⟨B,0,none⟩) (fun h=>h) bB)
     (with_reducible refine c.mono ?_)
     clear c
     rintro e w2 ⟨m,rfl,hm1,hm2,k2⟩
     have K2:=Lib.hid (G.out.2.2.1.trans (ka.trans k2))
     clear k2 ka
     by_cases hmn:n<=m
     ·have e1:max n m=m:=by omega
      go_wp2_with fail
      go_roundg (x.args.length-(k+1))
      case rel=>exact⟨k+1,m,by omega,by go_num,by first|rfl|rw[e1],Nat.le_refl _,by omega,by omega,K2.out⟩
      case measure=>have:=G.out.1;omega
     ·have e1:max n m=n:=by omega
      go_wp2_with fail
      go_roundg (x.args.length-(k+1))
      case rel=>exact⟨k+1,n,by omega,by go_num,by first|rfl|rw[e1],Nat.le_refl _,by omega,by omega,K2.out⟩
      case measure=>have:=G.out.1;omega
    ·go_wp2_with fail
     go_roundg (x.args.length-(k+1))
     case rel=>exact⟨k+1,n,by omega,by go_num,rfl,Nat.le_refl _,by omega,by omega,G.out.2.2.1.alloc _⟩
     case measure=>have:=G.out.1;omega
   ·have HK:=Lib.hid hkp
    have hnw:IntKind.i64.wrap (n+1)=n+1:=by rw[IntKind.wrap_i64];omega
    clear hkp
    go_wp2_with fail
    go_ret
    exact⟨n+1,rfl,by omega,by omega,HK.out⟩
theorem Ql (x:Ex)(a:Array Value)(w:World)(hx:qc 16 x)(h:aC w a x):Calls Tryz.prog 195 #[.agg a] w (LJ w 16):=by
 obtain⟨p,cap,rfl,h0,h1,h2,h3,h4,_⟩:=h.parts
 unfold maxLen at h4
 have k0:Kept none' w ((w.alloc (.cells #[.int .u8 x.op, .int .i64 x.n, .slice p x.args.length cap] 40)).alloc (.cells #[.func (.func 232) #[] #[.pointer (some ⟨w.heap.size+1,0,none⟩)]] 173)):=((Kept.refl _ _).alloc _).alloc _
 have bB:((w.alloc (.cells #[.int .u8 x.op, .int .i64 x.n, .slice p x.args.length cap] 40)).alloc (.cells #[.func (.func 232) #[] #[.pointer (some ⟨w.heap.size+1,0,none⟩)]] 173)).cell? ⟨w.heap.size+1,0,none⟩=some (.func (.func 232) #[] #[.pointer (some ⟨w.heap.size+1,0,none⟩)]):=by simp
 have c:=DX 16 x _ (w.heap.size+1) 16 _ (by omega) hx (h.pure k0) (by omega) (by omega) bB
 have K0:=Lib.hid k0
 clear k0 bB hx h
 go_enter Tryz.func195,Tryz.ntmps195
 go_wp2_with fail
 (with_reducible refine c.mono ?_)
 clear c
 rintro e w2 ⟨m,rfl,hm1,hm2,k2⟩
 have F:=Lib.hid (show LJ w 16 (.returned (.int .i64 m)) w2 from⟨m,rfl,hm1,hm2,K0.out.trans k2⟩)
 have e1:min m 17=m:=by omega
 clear k2
 go_wp2_with fail
 go_ret
 exact F.out
def Lm (s:ByteArray):Option Ex:=match Tz (oH s)with|some (x,[])=>some x|_=>none
def Rj (w:World)(x:Ex)(e:Ending)(w':World):Prop:=
 ∃p c D,e= .returned (.tuple #[.agg (gu x p c).toArray, .int .i64 0, .int .i64 0])/\jg w' D (gu x p c).toArray x/\(∀k,D k->w.heap.size<=k/\k<w'.heap.size)/\Kept none' w w'
theorem Qj (s:ByteArray)(hs:s.size<=400)(hg: ∀p∈runes s,iJ p.2)(x:Ex)(hx:Lm s=some x)(hd:qc 16 x)(w:World):Calls Tryz.prog 160 #[.string s] w (Rj w x):=by
 have ht:Tz (oH s)=some (x,[]):=by
  unfold Lm at hx
  split at hx
  ·rename_i e;injection hx with hx;rw[e,hx]
  ·cases hx
 have hln:=fM s
 have k0:Kept none' w (w.alloc (.cells #[.int .u8 0, .int .i64 0, .slice none 0 0] 40)):=(Kept.refl _ _).alloc _
 have t0:(w.alloc (.cells #[.int .u8 0, .int .i64 0, .slice none 0 0] 40)).heap[w.heap.size]?=some (.cells #[.int .u8 0, .int .i64 0, .slice none 0 0] 40 (0,0)):=heap_alloc_new _ _
 have ct:=JL s hs hg (w.alloc (.cells #[.int .u8 0, .int .i64 0, .slice none 0 0] 40))
 have H:=Lib.hid (And.intro k0 (And.intro t0 (And.intro ht (And.intro hd hln))))
 clear k0 t0 ht hd hx hg hln
 go_enter Tryz.func160,Tryz.ntmps160
 go_wp2_with fail
 (with_reducible refine ct.mono ?_)
 clear ct
 rintro e w1 ⟨v,rfl,hown,k1⟩
 obtain⟨va,vc,rfl⟩:=ay hown
 have FI:=H.out.1.trans k1
 have t1:=k1.heap H.out.2.1 (fun h=>h)
 obtain⟨w2,hrun,hit,hk2,hs2⟩:=iC (P:=Tryz.prog) w1 9 s Tryz.underlying9
 have H1:=Lib.hid (And.intro (FI.trans hk2) (And.intro (hk2.heap t1 (fun h=>h)) (And.intro hown (And.intro hit (And.intro hk2 hs2)))))
 have T1:=Lib.hid t1
 clear FI t1 hown hit hk2 k1
 go_wp2
 go_loopg [8] (runes s).length (fun k va wr=> ∃(left:List (Nat×Nat))(n:Nat),iK wr w1.heap.size s left/\left.length=k/\n+left.length=(runes s).length/\va= .int .i64 (n:Int)/\Kept (one w1.heap.size) w2 wr)
 case atStart=>exact⟨runes s,0,H1.out.2.2.2.1,rfl,by omega,rfl,Kept.refl _ _⟩
 case round=>
  obtain⟨left,n,hit,hk,hnl,rfl,hkp⟩:=hrel
  obtain⟨wo,rfl⟩: ∃wo:World,wo=wr:=⟨_,rfl⟩
  have VA:n<=400:=by have:=H.out.2.2.2.2;omega
  rcases hit.next (P:=Tryz.prog) 0 with⟨rfl,hrun⟩|⟨p,left',w3,hp,hrun,hit2,hk2,hs3⟩
  ·obtain⟨W0,hW0⟩: ∃W0,wo.alloc (.cells #[.slice va (oH s).length vc, .int .i64 (n:Int), .bool false, .int .i64 0] 274)=W0:=⟨_,rfl⟩
   have ka:Kept none' wo W0:=by rw[<-hW0];exact(Kept.refl _ _).alloc _
   have hs1:=H1.out.2.2.2.2.1.size
   have XO:=H1.out.2.2.2.2.2
   have hsz:=hkp.size
   have hown:W0.ownsRow (w.alloc (.cells #[.int .u8 0, .int .i64 0, .slice none 0 0] 40)).heap.size 299 4 (.slice va (oH s).length vc) (oH s).length (kZ (oH s)):=
    ka.owns (hkp.owns (H1.out.2.2.2.2.1.owns H1.out.2.2.1 (fun _ _ h=>h)) (fun k hk hs=>by have:=(H1.out.2.2.1.lt k hk).2;unfold one at hs;omega)) (fun _ _ h=>h)
   have hrd:fJ W0 wo.heap.size (oH s) (n:Int):=by
    have hR:W0.heap[wo.heap.size]?=some (.cells #[.slice va (oH s).length vc, .int .i64 (n:Int), .bool false, .int .i64 0] 274 (0,0)):=by rw[<-hW0];exact heap_alloc_new _ _
    rcases hown.2 with⟨e,h0⟩|⟨g,cap,cur,e,hbg,hg,hnc,hcm,hcs,htake⟩
    ·have:oH s=[]:=List.eq_nil_of_length_eq_zero h0
     simp only[Value.slice.injEq]at e
     obtain⟨rfl,_,rfl⟩:=e
     exact⟨none,0,hR,by omega,by unfold maxLen;omega, .inl this⟩
    ·simp only[Value.slice.injEq,true_and]at e
     obtain⟨rfl,rfl⟩:=e
     have hgl:g<wo.heap.size:=by
      have:=(H1.out.2.2.1.lt g rfl).2
      omega
     refine⟨some ⟨g,0,none⟩,vc,hR,hnc,hcm, .inr ⟨g,0,rfl,hgl,fun i t ht=>?_⟩⟩
     obtain⟨q0,q1,q2,q3⟩:=CB ht
     have hc:=hown.cells (g:=g) rfl
     have z0:=hc _ _ q0
     have z1:=hc _ _ q1
     have z2:=hc _ _ q2
     have z3:=hc _ _ q3
     rw[Addr.add_lit]at z0 z1 z2 z3
     simp only[Nat.zero_add]at z0 z1 z2 z3⊢
     exact⟨z0,z1,z2,z3⟩
   have co:=Rx wo.heap.size (n:Int) W0 (oH s) [] x hrd H.out.2.2.1
   have hT1:w.heap.size<w1.heap.size:=(Array.getElem?_eq_some_iff.1 T1.out).1
   have hw1o:w1.heap.size<wo.heap.size:=by omega
   have tT:=ka.heap (hkp.heap H1.out.2.1 (show ¬(w.heap.size=w1.heap.size) by
    have:=(Array.getElem?_eq_some_iff.1 H1.out.2.1).1
    have:=H1.out.1.size
    have h2:=H1.out.2.2.1.1
    have:=(Array.getElem?_eq_some_iff.1 T1.out).1
    omega)) (fun h=>h)
   have Nl:Kept none' w W0:=(H1.out.1.new hkp (fun i hi hs=>by unfold one at hs;have:=(Array.getElem?_eq_some_iff.1 T1.out).1;omega)).trans ka
   have hsz0:W0.heap.size=wo.heap.size+1:=by rw[<-hW0];simp
   have K0:=Lib.hid (And.intro Nl tT)
   have HW:=Lib.hid hW0
   have hT0:w.heap.size<W0.heap.size:=(Array.getElem?_eq_some_iff.1 tT).1
   clear hit hk hnl hkp ka hown hrd Nl tT hW0 hs1 XO
   go_wp2_with fail
   rw[HW.out]
   (with_reducible refine co.mono ?_)
   clear co
   rintro e w5 ⟨p,c,D,rfl,hx,hD,r5,k5⟩
   have kx:Kept none' w5 (w5.alloc (.cells (gu x p c).toArray 40)):=(Kept.refl _ _).alloc _
   obtain⟨W6,DI⟩: ∃W6,w5.alloc (.cells (gu x p c).toArray 40)=W6:=⟨_,rfl⟩
   have Gt:w5.alloc (.cells #[.int .u8 x.op, .int .i64 x.n, .slice p x.args.length c] 40)=W6:=DI
   have x6:W6.heap[w5.heap.size]?=some (.cells (gu x p c).toArray 40 (0,0)):=by rw[<-DI];exact heap_alloc_new _ _
   rw[DI]at kx
   have r6:=r5.pure kx
   obtain⟨ta,tcap,l6⟩:=r6.list
   have b6:=r6.bad
   have hR6:wo.heap.size<W6.heap.size:=r6.lt
   have hx6:=hx.kept kx (fun _ _ h=>h)
   have cd:=Ql x _ W6 H.out.2.2.2.1 hx6.at
   have t6:=kx.heap (k5.heap K0.out.2 (fun h=>by unfold one at h;omega)) (fun h=>h)
   have WI:Kept (one wo.heap.size) W0 W6:=k5.trans kx.pure
   have a0:=cells_at x6 (j:=0) rfl
   have a1:=cells_at x6 (j:=1) rfl
   have a2:=cells_at x6 (j:=2) rfl
   have UH:w5.heap.size<W6.heap.size:=(Array.getElem?_eq_some_iff.1 x6).1
   have Z:=Lib.hid (And.intro hx6 (And.intro t6 (And.intro WI (And.intro x6 (show∀k,D k->W0.heap.size<=k/\k<W6.heap.size from fun k hk=>by have:=hD k hk;have:=kx.size;omega)))))
   have Xq:=Lib.hid Gt
   rw[<-Gt]at l6 b6 a0 a1 a2 cd hR6 UH
   clear hx hD r5 k5 kx DI Gt x6 r6 hx6 t6 WI HW
   go_wp2_with fail
   (with_reducible refine cd.mono ?_)
   clear cd
   rintro e w7 ⟨m,rfl,hm1,hm2,k7⟩
   rw[Xq.out]at k7
   have hx7:=Z.out.1.kept k7 (fun _ _ h=>h)
   have t7:=k7.heap Z.out.2.1 (fun h=>h)
   have x7:=k7.heap Z.out.2.2.2.1 (fun h=>h)
   have b7:=k7.cell (p:=⟨wo.heap.size,2,none⟩) (fun h=>h) (by rw[Xq.out]at b6;exact b6)
   have a0:=cells_at x7 (j:=0) rfl
   have a1:=cells_at x7 (j:=1) rfl
   have a2:=cells_at x7 (j:=2) rfl
   have f0:=free_at t7 0
   have f1:=free_at t7 1
   have f2:=free_at t7 2
   have z0:=cells_at t7 (j:=0) rfl
   have z1:=cells_at t7 (j:=1) rfl
   have z2:=cells_at t7 (j:=2) rfl
   have hX7:w5.heap.size<w7.heap.size:=(Array.getElem?_eq_some_iff.1 x7).1
   have hT7:w.heap.size<w7.heap.size:=(Array.getElem?_eq_some_iff.1 t7).1
   obtain⟨s8,k8⟩:=gX t7 (.int .u8 x.op) (.int .i64 x.n) (.slice p x.args.length c)
   have F:Rj w x (.returned (.tuple #[.agg (gu x p c).toArray, .int .i64 0, .int .i64 0])) (((w7.setCell ⟨w.heap.size,0,none⟩ (.int .u8 x.op)).setCell ⟨w.heap.size,1,none⟩ (.int .i64 x.n)).setCell ⟨w.heap.size,2,none⟩ (.slice p x.args.length c)):=by
    have h0:=K0.out.1.size
    have h7:=k7.size
    have h8:=k8.size
    refine⟨p,c,D,rfl,hx7.kept k8 (fun k hk hs=>by have:=Z.out.2.2.2.2 k hk;unfold one at hs;omega),fun k hk=>by have:=Z.out.2.2.2.2 k hk;omega,((K0.out.1.new Z.out.2.2.1 (fun i hi hs=>by unfold one at hs;omega)).trans k7).new k8 (fun i hi hs=>by unfold one at hs;omega)⟩
   have hm16: ¬(16<m):=by omega
   have FF:=Lib.hid (And.intro F s8)
   clear F s8 k8 hx7 t7 x7 k7 l6 b6
   go_wp2_with fail
   obtain⟨WF,ji⟩: ∃WF,(((w7.setCell ⟨w.heap.size,0,none⟩ (.int .u8 x.op)).setCell ⟨w.heap.size,1,none⟩ (.int .i64 x.n)).setCell ⟨w.heap.size,2,none⟩ (.slice p x.args.length c))=WF:=⟨_,rfl⟩
   obtain⟨F,s5⟩:=FF.out
   rw[ji]at s5 F⊢
   have q0:=cells_at s5 (j:=0) rfl
   have q1:=cells_at s5 (j:=1) rfl
   have q2:=cells_at s5 (j:=2) rfl
   refine bodyPost_ret (v:= .tuple #[.agg (gu x p c).toArray, .int .i64 0, .int .i64 0]) (by simp[results,Tryz.results160,go_sem,q0,q1,q2]) rfl F
  ·have hm:left'.length<gk:=by rw[hp]at hk;simp at hk;omega
   have FZ:n+1+left'.length=(runes s).length:=by rw[hp]at hnl;simp at hnl;omega
   have hnw:IntKind.i64.wrap ((n:Int)+1)=((n+1:Nat):Int):=wrapN (n:=n+1) (by omega)
   have G:=Lib.hid (And.intro hit2 (And.intro hm (And.intro FZ (hkp.trans hk2))))
   clear hit hk hnl hkp hit2 hm FZ hp hk2 hs3
   go_wp2
   go_roundg left'.length
   case rel=>exact⟨left',n+1,G.out.1,rfl,G.out.2.2.1,by go_num,G.out.2.2.2⟩
   case measure=>exact G.out.2.1
end Go.Proofs.YtglbkodmmogomaaGreatDoor
