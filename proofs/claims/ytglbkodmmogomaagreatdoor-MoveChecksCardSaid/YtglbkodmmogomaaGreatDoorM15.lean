/- expr's reader: tokens in memory, next, is. -/
import Derived.Test.YtglbkodmmogomaaGreatDoorM12
set_option linter.unusedVariables false
set_option linter.unusedSimpArgs false
set_option maxHeartbeats 4000000
set_option maxRecDepth 100000
namespace Go.Proofs.YtglbkodmmogomaaGreatDoor
open Go Go.RowKit
attribute [local irreducible] bH
theorem Ro (a b:ByteArray):(a.toList==b.toList)=decide (a=b):=by rw[<-beq_toListBytes,xO]
structure Tok where
 kind:Int
 text:ByteArray
 n:Int
 at_:Int
def jh (s:ByteArray):List Tok->Option (List Tok)
 |[]=>none
 |t::r=>if t.kind=0\/t.kind=2\/t.text≠s then none else some r
theorem uK {s:ByteArray}{t:Tok}{r:List Tok}(h:t.kind=0\/t.kind=2\/t.text≠s):jh s (t::r)=none:=if_pos h
theorem yj {s:ByteArray}{t:Tok}{r:List Tok}(h: ¬(t.kind=0\/t.kind=2\/t.text≠s)):jh s (t::r)=some r:=if_neg h
structure Et (w:World)(b o:Nat)(t:Tok):Prop where
 c0:w.cell? ⟨b,o,none⟩=some (.int .u8 t.kind)
 c1:w.cell? ⟨b,o+1,none⟩=some (.string t.text)
 c2:w.cell? ⟨b,o+2,none⟩=some (.int .i64 t.n)
 c3:w.cell? ⟨b,o+3,none⟩=some (.int .i64 t.at_)
structure fJ (w:World)(R:Nat)(l:List Tok)(e:Int):Prop where
 obj: ∃ta cap,w.heap[R]?=some (.cells #[.slice ta l.length cap, .int .i64 e, .bool false, .int .i64 0] 274 (0,0))/\l.length<=cap/\cap<=maxLen/\
  (l=[]\/ ∃b off,ta=some ⟨b,off,none⟩/\b<R/\ ∀(i:Nat)(t:Tok),l[i]?=some t->Et w b (off+i*4) t)
theorem Et.kept {w w':World}{S:Nat->Prop}{b o:Nat}{t:Tok}(h:Et w b o t)(hk:Kept S w w')(hb: ¬S b):Et w' b o t:=
 ⟨hk.cell (p:=⟨b,o,none⟩) hb h.c0,hk.cell (p:=⟨b,o+1,none⟩) hb h.c1,hk.cell (p:=⟨b,o+2,none⟩) hb h.c2,hk.cell (p:=⟨b,o+3,none⟩) hb h.c3⟩
theorem fJ.pure {w w':World}{R:Nat}{l:List Tok}{e:Int}(h:fJ w R l e)(hk:Kept none' w w'):fJ w' R l e:=by
 obtain⟨ta,cap,h1,h2,h3,h4⟩:=h.obj
 refine⟨ta,cap,hk.heap h1 (fun h=>h),h2,h3,?_⟩
 rcases h4 with h4|⟨b,off,hb,hne,h4⟩
 ·exact .inl h4
 ·exact .inr ⟨b,off,hb,hne,fun i t ht=>(h4 i t ht).kept hk (fun h=>h)⟩
theorem fJ.lt {w:World}{R:Nat}{l:List Tok}{e:Int}(h:fJ w R l e):R<w.heap.size:=by
 obtain⟨ta,cap,h1,_⟩:=h.obj
 exact(Array.getElem?_eq_some_iff.1 h1).1
theorem fJ.jL {w w':World}{S:Nat->Prop}{R:Nat}{l:List Tok}{e:Int}(h:fJ w R l e)(hk:Kept S w w')(hS: ∀k,S k->R<k):fJ w' R l e:=by
 obtain⟨ta,cap,h1,h2,h3,h4⟩:=h.obj
 refine⟨ta,cap,hk.heap h1 (fun h=>by have:=hS R h;omega),h2,h3,?_⟩
 rcases h4 with h4|⟨b,off,hb,hne,h4⟩
 ·exact .inl h4
 ·exact .inr ⟨b,off,hb,hne,fun i t ht=>(h4 i t ht).kept hk (fun h=>by have:=hS b h;omega)⟩
abbrev Bq (t:Tok):Value:= .agg #[.int .u8 t.kind, .string t.text, .int .i64 t.n, .int .i64 t.at_]
def En (l:List Tok)(e:Int):Tok:=match l with|t::_=>t|[]=>⟨0,vg,0,e⟩
theorem next_any (R:Nat)(l:List Tok)(e:Int)(w:World)(h:fJ w R l e):Calls Tryz.prog 231 #[.pointer (some ⟨R,0,none⟩)] w fun e' w'=>e'= .returned (Bq (En l e))/\Kept none' w w':=by
 obtain⟨ta,cap,h1,h2,h3,h4⟩:=h.obj
 have x0:w.cell? ⟨R,0,none⟩=some (.slice ta l.length cap):=cells_at h1 rfl
 have x1:w.cell? ⟨R,1,none⟩=some (.int .i64 e):=cells_at h1 rfl
 have hl:=h.lt
 unfold maxLen at h3
 clear h1
 cases l with
 |nil=>
  clear h4
  go_enter Tryz.func231,Tryz.ntmps231
  go_wp2_with fail
  refine bodyPost_ret (v:=Bq ⟨0,vg,0,e⟩) (by simp[results,Tryz.results231,go_sem];rfl) rfl ⟨rfl,(Kept.refl _ _).alloc _⟩
 |cons t r=>
  obtain⟨b,off,rfl,hne,hc⟩:=h4.resolve_left (by simp)
  obtain⟨c0,c1,c2,c3⟩:=hc 0 t rfl
  rw[Nat.zero_mul,Nat.add_zero]at c0 c1 c2 c3
  have hb:b<w.heap.size:=by have:=block_lt_of_cell c0;simpa using this
  have hlen: ¬((r.length:Int)+1=0):=by omega
  clear hc h4 h
  go_enter Tryz.func231,Tryz.ntmps231
  go_wp2_with fail
  refine bodyPost_ret (v:=Bq t) (by simp[results,Tryz.results231,go_sem]) rfl ⟨rfl,(Kept.refl _ _).alloc _⟩
def uP (w:World)(R:Nat)(e:Int)(o:Option (List Tok))(l:List Tok)(e':Ending)(w':World):Prop:=
 Kept (one R) w w'/\match o with|some l'=>e'= .returned (.bool true)/\fJ w' R l' e|none=>e'= .returned (.bool false)/\fJ w' R l e
theorem oV (R:Nat)(l:List Tok)(e:Int)(s:ByteArray)(w:World)(h:fJ w R l e):Calls Tryz.prog 258 #[.pointer (some ⟨R,0,none⟩), .string s] w (uP w R e (jh s l) l):=by
 have cn:=next_any R l e w h
 obtain⟨ta,cap,h1,h2,h3,h4⟩:=h.obj
 have x0:w.cell? ⟨R,0,none⟩=some (.slice ta l.length cap):=cells_at h1 rfl
 have x2:w.cell? ⟨R,2,none⟩=some (.bool false):=cells_at h1 rfl
 have f0:=free_at h1 0
 have hl:=h.lt
 unfold maxLen at h3
 have H:=Lib.hid (And.intro h h1)
 clear h h1
 cases l with
 |nil=>
  clear h4
  unfold En at cn
  go_enter Tryz.func258,Tryz.ntmps258
  go_wp2_with fail
  (with_reducible refine cn.mono ?_)
  clear cn
  rintro e' w2 ⟨rfl,k2⟩
  have x2:=k2.cell (p:=⟨R,2,none⟩) (fun h=>h) x2
  have hl2:R<w2.heap.size:=Nat.lt_of_lt_of_le hl k2.size
  have F:=Lib.hid (show∀w',Kept none' w2 w'->uP w R e (jh s []) [] (.returned (.bool false)) w' from fun w' hk=>⟨(k2.trans hk).pure,rfl,H.out.1.pure (k2.trans hk)⟩)
  clear k2 f0 x0
  go_wp2_with fail
  go_ret
  exact F.out _ ((Kept.refl _ _).alloc _)
 |cons t r=>
  obtain⟨b,off,rfl,hne,hc⟩:=h4.resolve_left (by simp)
  have H4:=Lib.hid hc
  clear h4 hc
  simp only[En,Bq]at cn
  obtain⟨tk,tt,tn,ta⟩:=t
  simp only at cn
  by_cases h0:tk=0
  ·subst h0
   have e1:jh s (⟨0,tt,tn,ta⟩::r)=none:=uK (.inl rfl)
   have F:=Lib.hid (show∀w',Kept none' w w'->uP w R e (jh s (⟨0,tt,tn,ta⟩::r)) (⟨0,tt,tn,ta⟩::r) (.returned (.bool false)) w' from fun w' hk=>⟨hk.pure,by rw[e1];exact⟨rfl,H.out.1.pure hk⟩⟩)
   clear e1
   go_enter Tryz.func258,Tryz.ntmps258
   go_wp2_with fail
   (with_reducible refine cn.mono ?_)
   clear cn
   rintro e' w2 ⟨rfl,k2⟩
   have x2:=k2.cell (p:=⟨R,2,none⟩) (fun h=>h) x2
   have hl2:R<w2.heap.size:=Nat.lt_of_lt_of_le hl k2.size
   have K2:=Lib.hid k2
   clear k2 f0 x0
   go_wp2_with fail
   go_ret
   exact F.out _ (K2.out.trans ((Kept.refl _ _).alloc _))
  ·have g0:(tk==0)=false:=by simpa using h0
   by_cases h1:tk=2
   ·subst h1
    have e1:jh s (⟨2,tt,tn,ta⟩::r)=none:=uK (.inr (.inl rfl))
    have F:=Lib.hid (show∀w',Kept none' w w'->uP w R e (jh s (⟨2,tt,tn,ta⟩::r)) (⟨2,tt,tn,ta⟩::r) (.returned (.bool false)) w' from fun w' hk=>⟨hk.pure,by rw[e1];exact⟨rfl,H.out.1.pure hk⟩⟩)
    clear e1
    go_enter Tryz.func258,Tryz.ntmps258
    go_wp2_with fail
    (with_reducible refine cn.mono ?_)
    clear cn
    rintro e' w2 ⟨rfl,k2⟩
    have x2:=k2.cell (p:=⟨R,2,none⟩) (fun h=>h) x2
    have hl2:R<w2.heap.size:=Nat.lt_of_lt_of_le hl k2.size
    have K2:=Lib.hid k2
    clear k2 f0 x0
    go_wp2_with fail
    go_ret
    exact F.out _ (K2.out.trans ((Kept.refl _ _).alloc _))
   ·have g1:(tk==2)=false:=by simpa using h1
    by_cases ht:tt=s
    ·subst ht
     have e1:jh tt (⟨tk,tt,tn,ta⟩::r)=some r:=yj (by simp[h0,h1])
     rw[e1]
     clear e1
     have HT:=Lib.hid (And.intro h0 h1)
     go_enter Tryz.func258,Tryz.ntmps258
     go_wp2_with fail
     (with_reducible refine cn.mono ?_)
     clear cn
     rintro e' w2 ⟨rfl,k2⟩
     have x2:=k2.cell (p:=⟨R,2,none⟩) (fun h=>h) x2
     have x0:=k2.cell (p:=⟨R,0,none⟩) (fun h=>h) x0
     have hl2:R<w2.heap.size:=Nat.lt_of_lt_of_le hl k2.size
     have f0:w2.frozen? ⟨R,0,none⟩=false:=free_at (k2.heap H.out.2 (fun h=>h)) 0
     have K2:=Lib.hid k2
     have hcap:1<=cap:=by simp at h2;omega
     have hn1:(1:Int)<=(r.length:Int)+1:=by omega
     clear k2
     have fin: ∀(ta':Option Addr)(cap':Nat),(r=[]\/ta'=some ⟨b,off+4,none⟩)->r.length<=cap'->cap'<=maxLen->
      uP w R e (some r) (⟨tk,tt,tn,ta⟩::r) (.returned (.bool true)) ((w2.setCell ⟨R,0,none⟩ (.slice ta' r.length cap')).alloc (.cells #[.int .u8 tk, .string tt, .int .i64 tn, .int .i64 ta] 299)):=by
      intro ta' cap' q1 q2 q3
      have ks:Kept (one R) w2 (w2.setCell ⟨R,0,none⟩ (.slice ta' r.length cap')):=Kept.setCell (p:=⟨R,0,none⟩) (Kept.refl (one R) _) (.inl rfl) _
      have ka:Kept none' (w2.setCell ⟨R,0,none⟩ (.slice ta' r.length cap')) ((w2.setCell ⟨R,0,none⟩ (.slice ta' r.length cap')).alloc (.cells #[.int .u8 tk, .string tt, .int .i64 tn, .int .i64 ta] 299)):=(Kept.refl _ _).alloc _
      refine⟨(K2.out.pure.trans ks).trans ka.pure,rfl,⟨ta',cap',?_,q2,q3,?_⟩⟩
      ·have:=aS (K2.out.heap H.out.2 (fun h=>h)) 0 (.slice ta' r.length cap')
       exact ka.heap this (fun h=>h)
      ·rcases q1 with q1|q1
       ·exact .inl q1
       ·refine .inr ⟨b,off+4,q1,hne,fun i t ht=>?_⟩
        have:=H4.out (i+1) t (by simpa using ht)
        rw[show off+(i+1)*4=off+4+i*4 by omega]at this
        exact(((this.kept K2.out (fun h=>h)).kept ks (fun h=>by unfold one at h;omega))).kept ka (fun h=>h)
     have FIN:=Lib.hid fin
     have hrl:r.length+1<=cap:=by simpa using h2
     clear fin
     by_cases hc1:cap=1
     ·subst hc1
      have hr:r=[]:=List.eq_nil_of_length_eq_zero (by omega)
      subst hr
      go_wp2_with fail
      go_ret
      exact FIN.out _ _ (.inl (by trivial)) (Nat.le_refl _) (by unfold maxLen;omega)
     ·have hc2: ¬(cap-1=0):=by omega
      go_wp2_with fail
      go_ret
      exact FIN.out _ _ (.inr rfl) (by omega) (by unfold maxLen;omega)
    ·have g2:(tt.toList==s.toList)=false:=by rw[Ro,decide_eq_false ht]
     have e1:jh s (⟨tk,tt,tn,ta⟩::r)=none:=uK (.inr (.inr ht))
     have F:=Lib.hid (show∀w',Kept none' w w'->uP w R e (jh s (⟨tk,tt,tn,ta⟩::r)) (⟨tk,tt,tn,ta⟩::r) (.returned (.bool false)) w' from fun w' hk=>⟨hk.pure,by rw[e1];exact⟨rfl,H.out.1.pure hk⟩⟩)
     clear e1
     go_enter Tryz.func258,Tryz.ntmps258
     go_wp2_with fail
     (with_reducible refine cn.mono ?_)
     clear cn
     rintro e' w2 ⟨rfl,k2⟩
     have x2:=k2.cell (p:=⟨R,2,none⟩) (fun h=>h) x2
     have hl2:R<w2.heap.size:=Nat.lt_of_lt_of_le hl k2.size
     have K2:=Lib.hid k2
     clear k2 f0 x0
     go_wp2_with fail
     go_ret
     exact F.out _ (K2.out.trans ((Kept.refl _ _).alloc _))
abbrev nU:=ByteArray×Int
def wO (l:List nU):List Value:=l.flatMap fun s=>[.string s.1, .int .u8 s.2]
def firstT:List nU->List Tok->Nat->Option (Nat×Int×List Tok)
 |[],_,_=>none
 |s::l,ts,k=>match jh s.1 ts with|some r=>some (k,s.2,r)|none=>firstT l ts (k+1)
def Vb (w:World)(sv:Value)(l:List nU):Prop:= ∃b,sv= .slice (some ⟨b,0,none⟩) l.length l.length/\ ∀(i:Nat)(s:nU),l[i]?=some s->w.cell? ⟨b,i*2,none⟩=some (.string s.1)/\w.cell? ⟨b,i*2+1,none⟩=some (.int .u8 s.2)
theorem OQ (R B:Nat)(l:List Tok)(e:Int)(s:ByteArray)(op:Int)(w:World)(h:fJ w R l e)(hB:w.cell? ⟨B,0,none⟩=some (.pointer (some ⟨R,0,none⟩))):
 Calls Tryz.prog 257 #[.agg #[.string s, .int .u8 op], .pointer (some ⟨B,0,none⟩)] w (uP w R e (jh s l) l):=by
 have k1:Kept none' w (w.alloc (.cells #[.string s, .int .u8 op] 305)):=(Kept.refl _ _).alloc _
 have hBl:B<w.heap.size:=by have:=block_lt_of_cell hB;simpa using this
 have ci:=oV R l e s _ (h.pure k1)
 have K1:=Lib.hid k1
 clear k1 h
 go_enter Tryz.func257,Tryz.ntmps257
 go_wp2_with fail
 (with_reducible refine ci.mono ?_)
 clear ci
 rintro e' w2 ⟨k2,h2⟩
 have K2:=Lib.hid (K1.out.pure.trans k2)
 cases hi:jh s l with
 |some l'=>
  rw[hi]at h2
  obtain⟨rfl,h2⟩:=h2
  have F:=Lib.hid (show uP w R e (jh s l) l (.returned (.bool true)) w2 from⟨K2.out,by rw[hi];exact⟨rfl,h2⟩⟩)
  clear h2 k2 hi
  go_wp2_with fail
  go_ret
  exact F.out
 |none=>
  rw[hi]at h2
  obtain⟨rfl,h2⟩:=h2
  have F:=Lib.hid (show uP w R e (jh s l) l (.returned (.bool false)) w2 from⟨K2.out,by rw[hi];exact⟨rfl,h2⟩⟩)
  clear h2 k2 hi
  go_wp2_with fail
  go_ret
  exact F.out
def Hq (w:World)(R:Nat)(e:Int)(o:Option (Nat×Int×List Tok))(l:List Tok)(e':Ending)(w':World):Prop:=
 Kept (one R) w w'/\match o with|some r=>e'= .returned (.int .i64 (r.1:Int))/\fJ w' R r.2.2 e|none=>e'= .returned (.int .i64 (-1))/\fJ w' R l e
theorem IE {l:List nU}{ts:List Tok}{k:Nat}{s:nU}(h:l[k]?=some s):firstT (l.drop k) ts k=match jh s.1 ts with|some r=>some (k,s.2,r)|none=>firstT (l.drop (k+1)) ts (k+1):=by
 obtain⟨hk,e⟩:=List.getElem?_eq_some_iff.1 h
 rw[List.drop_eq_getElem_cons hk,e]
 rfl
theorem Iy (R B:Nat)(l:List Tok)(e:Int)(sg:List nU)(sv:Value)(hsg:sg.length<=10)(w:World)(h:fJ w R l e)(hB:w.cell? ⟨B,0,none⟩=some (.pointer (some ⟨R,0,none⟩)))(hBR:B≠R)
 (hs:Vb w sv sg) (hsR: ∀b,sv= .slice (some ⟨b,0,none⟩) sg.length sg.length->b≠R):
 Calls Tryz.prog 256 #[sv, .func (.func 257) #[] #[.pointer (some ⟨B,0,none⟩)]] w (Hq w R e (firstT sg l 0) l):=by
 obtain⟨sb,rfl,hsc⟩:=hs
 have hsb:sb≠R:=hsR sb rfl
 have H:=Lib.hid (And.intro h (And.intro hB hsc))
 clear h hB hsc hsR
 go_enter Tryz.func256,Tryz.ntmps256
 go_wp2_with fail
 go_loopg [8] sg.length (fun g vi wr=> ∃k:Nat,k<=sg.length/\vi= .int .i64 (k:Int)/\sg.length-k<=g/\firstT sg l 0=firstT (sg.drop k) l k/\fJ wr R l e/\Kept (one R) w wr)
 case atStart=>exact⟨0,by omega,rfl,by omega,rfl,H.out.1,Kept.refl _ _⟩
 case round=>
  obtain⟨k,hkl,rfl,hg,hf,hrd,hkp⟩:=hrel
  obtain⟨wo,rfl⟩: ∃wo:World,wo=wr:=⟨_,rfl⟩
  by_cases hlt:k<sg.length
  ·obtain⟨s,hs⟩: ∃s,sg[k]?=some s:=⟨_,List.getElem?_eq_getElem hlt⟩
   obtain⟨x0,x1⟩:=H.out.2.2 k s hs
   have x0:=hkp.cell (p:=⟨sb,k*2,none⟩) hsb x0
   have x1:=hkp.cell (p:=⟨sb,k*2+1,none⟩) hsb x1
   have xB:=hkp.cell (p:=⟨B,0,none⟩) hBR H.out.2.1
   have cr:=OQ R B l e s.1 s.2 wo hrd xB
   rw[IE hs]at hf
   have G:=Lib.hid (And.intro hg (And.intro hf hkp))
   clear hg hf hkp hs hrd
   go_wp2_with fail
   (with_reducible refine cr.mono ?_)
   clear cr
   rintro e' w2 ⟨k2,h2⟩
   have K2:=Lib.hid (G.out.2.2.trans k2)
   cases hi:jh s.1 l with
   |some l'=>
    rw[hi]at h2
    obtain⟨rfl,h2⟩:=h2
    have F:=Lib.hid (show Hq w R e (firstT sg l 0) l (.returned (.int .i64 (k:Int))) w2 from⟨K2.out,by rw[G.out.2.1,hi];exact⟨rfl,h2⟩⟩)
    clear h2 k2 hi
    go_wp2_with fail
    go_ret
    exact F.out
   |none=>
    rw[hi]at h2
    obtain⟨rfl,h2⟩:=h2
    have F:=Lib.hid (And.intro h2 (show firstT sg l 0=firstT (sg.drop (k+1)) l (k+1) by rw[G.out.2.1,hi]))
    clear h2 k2 hi
    go_wp2_with fail
    go_roundg (sg.length-(k+1))
    case rel=>exact⟨k+1,by omega,by go_num,Nat.le_refl _,F.out.2,F.out.1,K2.out⟩
    case measure=>have:=G.out.1;omega
  ·have hke:k=sg.length:=by omega
   subst hke
   rw[List.drop_of_length_le (Nat.le_refl _)]at hf
   have F:=Lib.hid (show Hq w R e (firstT sg l 0) l (.returned (.int .i64 (-1))) wo from⟨hkp,by rw[hf];exact⟨rfl,hrd⟩⟩)
   clear hkp hf hrd hg
   go_wp2_with fail
   go_ret
   exact F.out
def jg (w:World)(D:Nat->Prop)(a:Array Value)(x:Ex):Prop:= ∀(S:Nat->Prop)(w':World),Kept S w w'->(∀k,D k-> ¬S k)->aC w' a x
theorem jg.at {w:World}{D:Nat->Prop}{a:Array Value}{x:Ex}(h:jg w D a x):aC w a x:=h none' w (Kept.refl _ _) (fun _ _ h=>h)
theorem jg.kept {w w':World}{S D:Nat->Prop}{a:Array Value}{x:Ex}(h:jg w D a x)(hk:Kept S w w')(hS: ∀k,D k-> ¬S k):jg w' D a x:=fun S2 w2 h2 hd=>
 h (fun k=>S k\/S2 k) w2 ((hk.mono (fun _ _ h=> .inl h)).trans (h2.mono (fun _ _ h=> .inr h))) (fun k hk=>by rintro(h|h);exact hS k hk h;exact hd k hk h)
theorem jg.leaf (w:World){op:Int}(h0:0<=op)(h1:op<=255):jg w none' #[.int .u8 op, .int .i64 0, .slice none 0 0] (.mk op 0 []):=
 fun _ w' _ _=> .mk h0 h1 nH (Reads.nil w' 3) rfl (by simp)
abbrev gu (x:Ex)(p:Option Addr)(c:Nat):List Value:=[.int .u8 x.op, .int .i64 x.n, .slice p x.args.length c]
theorem jg.two {w:World}{D E:Nat->Prop}{x y:Ex}{p q:Option Addr}{c d:Nat}(hx:jg w D (gu x p c).toArray x)(hy:jg w E (gu y q d).toArray y){op:Int}(h0:0<=op)(h1:op<=255):
 jg (w.alloc (.cells (gu x p c++gu y q d).toArray 40)) (fun k=>D k\/E k\/k=w.heap.size) #[.int .u8 op, .int .i64 0, .slice (some ⟨w.heap.size,0,none⟩) 2 2] (.mk op 0 [x,y]):=by
 intro S w' hk hS
 have hl:=Reads.lit w (gu x p c++gu y q d) 40 3 2 rfl (by unfold maxLen;omega)
 have ka:Kept none' w (w.alloc (.cells (gu x p c++gu y q d).toArray 40)):=(Kept.refl _ _).alloc _
 have kw:Kept S w w':=ka.pure.trans hk
 refine .mk h0 h1 nH (hl.kept hk (fun b hb hs=>?_)) rfl (fun i u hu=>?_)
 ·have:w.heap.size=b:=by simpa[Value.blk]using hb
  exact hS b (.inr (.inr this.symm)) hs
 ·match i,hu with
  |0,hu=>cases hu;exact hx S w' kw (fun k hk=>hS k (.inl hk))
  |1,hu=>cases hu;exact hy S w' kw (fun k hk=>hS k (.inr (.inl hk)))
def mQ (w:World)(R:Nat)(e:Int)(x:Ex)(l':List Tok)(en:Ending)(w':World):Prop:=
 ∃p c D,en= .returned (.agg (gu x p c).toArray)/\jg w' D (gu x p c).toArray x/\(∀k,D k->w.heap.size<=k/\k<w'.heap.size)/\fJ w' R l' e/\Kept (one R) w w'
def D8 (F:FuncId)(R:Nat)(e:Int)(pl:List Tok->Option (Ex×List Tok)):Prop:=
 ∀(w:World)(l l':List Tok)(x:Ex),fJ w R l e->pl l=some (x,l')->Calls Tryz.prog F #[.pointer (some ⟨R,0,none⟩)] w (mQ w R e x l')
abbrev keyS:ByteArray:=⟨#[107,101,121]⟩
abbrev Bh:ByteArray:=⟨#[118,97,108]⟩
abbrev G8:ByteArray:=⟨#[97,99,99]⟩
def vH (l:List Tok):Option (Ex×List Tok):=
 match l with
 |[]=>none
 |t::r=>if t.kind=0\/t.kind=2 then none else if t.text=keyS then some (.mk 2 0 [],r)else if t.text=Bh then some (.mk 3 0 [],r)else if t.text=G8 then some (.mk 4 0 [],r)else none
theorem gX {w:World}{b E:Nat}{x0 x1 x2:Value}(h:w.heap[b]?=some (.cells #[x0,x1,x2] E (0,0)))(y0 y1 y2:Value):
 (((w.setCell ⟨b,0,none⟩ y0).setCell ⟨b,1,none⟩ y1).setCell ⟨b,2,none⟩ y2).heap[b]?=some (.cells #[y0,y1,y2] E (0,0))/\Kept (one b) w (((w.setCell ⟨b,0,none⟩ y0).setCell ⟨b,1,none⟩ y1).setCell ⟨b,2,none⟩ y2):=by
 refine⟨?_,?_⟩
 ·have:=aS (aS (aS h 0 y0) 1 y1) 2 y2
  simpa using this
 ·exact Kept.setCell (p:=⟨b,2,none⟩) (Kept.setCell (p:=⟨b,1,none⟩) (Kept.setCell (p:=⟨b,0,none⟩) (Kept.refl (one b) _) (.inl rfl) _) (.inl rfl) _) (.inl rfl) _
theorem fJ.bad {w:World}{R:Nat}{l:List Tok}{e:Int}(h:fJ w R l e):w.cell? ⟨R,2,none⟩=some (.bool false):=by
 obtain⟨ta,cap,h1,_⟩:=h.obj
 exact cells_at h1 rfl
theorem fJ.list {w:World}{R:Nat}{l:List Tok}{e:Int}(h:fJ w R l e): ∃ta cap,w.cell? ⟨R,0,none⟩=some (.slice ta l.length cap):=by
 obtain⟨ta,cap,h1,_⟩:=h.obj
 exact⟨ta,cap,cells_at h1 rfl⟩
theorem uP.no {w w':World}{R:Nat}{e:Int}{l:List Tok}{s:ByteArray}{en:Ending}(h:uP w R e (jh s l) l en w')(hn:jh s l=none):en= .returned (.bool false)/\fJ w' R l e/\Kept (one R) w w':=by
 rw[hn]at h;exact⟨h.2.1,h.2.2,h.1⟩
theorem uP.yes {w w':World}{R:Nat}{e:Int}{l l':List Tok}{s:ByteArray}{en:Ending}(h:uP w R e (jh s l) l en w')(hn:jh s l=some l'):en= .returned (.bool true)/\fJ w' R l' e/\Kept (one R) w w':=by
 rw[hn]at h;exact⟨h.2.1,h.2.2,h.1⟩
theorem mQ.BO {w w5:World}{R:Nat}{e op:Int}{r:List Tok}(h0:0<=op)(h1:op<=255)(hR:R<w.heap.size)(hk:Kept (one R) w w5)(hr:fJ w5 R r e){x0 x1 x2:Value}(hT:w5.heap[w.heap.size]?=some (.cells #[x0,x1,x2] 40 (0,0))):
 mQ w R e (.mk op 0 []) r (.returned (.agg #[.int .u8 op, .int .i64 0, .slice none 0 0])) (((w5.setCell ⟨w.heap.size,0,none⟩ (.int .u8 op)).setCell ⟨w.heap.size,1,none⟩ (.int .i64 0)).setCell ⟨w.heap.size,2,none⟩ (.slice none 0 0)):=by
 obtain⟨_,k3⟩:=gX hT (.int .u8 op) (.int .i64 0) (.slice none 0 0)
 exact⟨none,0,none',rfl,jg.leaf _ h0 h1,fun k h=>h.elim,hr.jL k3 (fun k hk=>by unfold one at hk;omega),hk.new k3 (fun i hi hs=>by unfold one at hs;omega)⟩
theorem OT (R:Nat)(e:Int):D8 283 R e vH:=by
 intro w l l' x h hl
 cases l with
 |nil=>cases hl
 |cons t r=>
  unfold vH at hl
  simp only at hl
  have hk: ¬(t.kind=0\/t.kind=2):=fun h=>by rw[if_pos h]at hl;cases hl
  rw[if_neg hk]at hl
  have hlt:=h.lt
  have kA:Kept none' w (w.alloc (.cells #[.int .u8 0, .int .i64 0, .slice none 0 0] 40)):=(Kept.refl _ _).alloc _
  have tA:(w.alloc (.cells #[.int .u8 0, .int .i64 0, .slice none 0 0] 40)).heap[w.heap.size]?=some (.cells #[.int .u8 0, .int .i64 0, .slice none 0 0] 40 (0,0)):=heap_alloc_new _ _
  have cn:=next_any R (t::r) e _ (h.pure kA)
  obtain⟨tk,tt,tn,ta⟩:=t
  simp only[En,Bq]at cn hl hk
  have g0:(tk==2)=false:=by simp;omega
  have H:=Lib.hid (And.intro kA (And.intro tA (And.intro h hlt)))
  clear kA tA h
  go_enter Tryz.func283,Tryz.ntmps283
  go_wp2_with fail
  (with_reducible refine cn.mono ?_)
  clear cn
  rintro e' w2 ⟨rfl,k2⟩
  obtain⟨W3,hW3⟩: ∃W3,w2.alloc (.cells #[.int .u8 tk, .string tt, .int .i64 tn, .int .i64 ta] 299)=W3:=⟨_,rfl⟩
  have k3:Kept none' w W3:=by rw[<-hW3];exact(H.out.1.trans k2).alloc _
  have t3:W3.heap[w.heap.size]?=some (.cells #[.int .u8 0, .int .i64 0, .slice none 0 0] 40 (0,0)):=by rw[<-hW3];exact((Kept.refl none' _).alloc _).heap (k2.heap H.out.2.1 (fun h=>h)) (fun h=>h)
  have n3:W3.cell? ⟨w2.heap.size,0,none⟩=some (.int .u8 tk):=by rw[<-hW3];simp
  have r3:=H.out.2.2.1.pure k3
  have b3:=r3.bad
  have ck:=oV R (⟨tk,tt,tn,ta⟩::r) e keyS W3 r3
  have hl3:=hlt
  have hs3:w.heap.size<W3.heap.size:=(Array.getElem?_eq_some_iff.1 t3).1
  have hs4:w2.heap.size<W3.heap.size:=by rw[<-hW3];simp
  have hR3:R<W3.heap.size:=by omega
  have K3:=Lib.hid (And.intro k3 (And.intro t3 r3))
  clear k3 t3 r3 H k2
  go_wp2_with fail
  have cq:=ck
  clear ck
  have KQ:=Lib.hid (And.intro (show Kept (one R) w W3 from K3.out.1.pure) K3.out.2.1)
  by_cases e0:tt=keyS
  ·have hy:jh keyS (⟨tk,tt,tn,ta⟩::r)=some r:=yj (by simp[e0];omega)
   have hx:x= .mk 2 0 []/\l'=r:=by
    rw[if_pos e0]at hl
    injection hl with hl;injection hl with h1 h2;exact⟨h1.symm,h2.symm⟩
   obtain⟨rfl,rfl⟩:=hx
   (with_reducible refine cq.mono ?_)
   clear cq
   rintro e' w5 hq
   obtain⟨rfl,r5,k5⟩:=hq.yes hy
   have t5:=k5.heap KQ.out.2 (fun h=>by unfold one at h;omega)
   have f0:=free_at t5 0
   have f1:=free_at t5 1
   have f2:=free_at t5 2
   have z0:=cells_at t5 (j:=0) rfl
   have z1:=cells_at t5 (j:=1) rfl
   have z2:=cells_at t5 (j:=2) rfl
   have F:=mQ.BO (w:=w) (R:=R) (e:=e) (op:=2) (r:=l') (by decide) (by decide) hlt (KQ.out.1.trans k5) r5 t5
   have s5:=(gX t5 (.int .u8 2) (.int .i64 0) (.slice none 0 0)).1
   have hs5:w.heap.size<w5.heap.size:=(Array.getElem?_eq_some_iff.1 t5).1
   clear hq r5 k5 t5 hy hl
   go_wp2_with fail
   obtain⟨WF,ji⟩: ∃WF,(((w5.setCell ⟨w.heap.size,0,none⟩ (.int .u8 2)).setCell ⟨w.heap.size,1,none⟩ (.int .i64 0)).setCell ⟨w.heap.size,2,none⟩ (.slice none 0 0))=WF:=⟨_,rfl⟩
   rw[ji]at s5 F⊢
   have q0:=cells_at s5 (j:=0) rfl
   have q1:=cells_at s5 (j:=1) rfl
   have q2:=cells_at s5 (j:=2) rfl
   refine bodyPost_ret (v:= .agg #[.int .u8 2, .int .i64 0, .slice none 0 0]) (by simp[results,Tryz.results283,go_sem,q0,q1,q2]) rfl F
  ·have hn:jh keyS (⟨tk,tt,tn,ta⟩::r)=none:=uK (.inr (.inr e0))
   (with_reducible refine cq.mono ?_)
   clear cq
   rintro e' w6 hq
   obtain⟨rfl,r5,k5⟩:=hq.no hn
   have kq:=KQ.out.1.trans k5
   have t5:=k5.heap KQ.out.2 (fun h=>by unfold one at h;omega)
   clear KQ
   have KQ:=Lib.hid (And.intro kq t5)
   have cq:=oV R (⟨tk,tt,tn,ta⟩::r) e Bh w6 r5
   clear hq kq t5 r5 k5 hn
   go_wp2_with fail
   by_cases e1:tt=Bh
   ·have hy:jh Bh (⟨tk,tt,tn,ta⟩::r)=some r:=yj (by simp[e1];omega)
    have hx:x= .mk 3 0 []/\l'=r:=by
     rw[if_neg e0]at hl;rw[if_pos e1]at hl
     injection hl with hl;injection hl with h1 h2;exact⟨h1.symm,h2.symm⟩
    obtain⟨rfl,rfl⟩:=hx
    (with_reducible refine cq.mono ?_)
    clear cq
    rintro e' w5 hq
    obtain⟨rfl,r5,k5⟩:=hq.yes hy
    have t5:=k5.heap KQ.out.2 (fun h=>by unfold one at h;omega)
    have f0:=free_at t5 0
    have f1:=free_at t5 1
    have f2:=free_at t5 2
    have z0:=cells_at t5 (j:=0) rfl
    have z1:=cells_at t5 (j:=1) rfl
    have z2:=cells_at t5 (j:=2) rfl
    have F:=mQ.BO (w:=w) (R:=R) (e:=e) (op:=3) (r:=l') (by decide) (by decide) hlt (KQ.out.1.trans k5) r5 t5
    have s5:=(gX t5 (.int .u8 3) (.int .i64 0) (.slice none 0 0)).1
    have hs5:w.heap.size<w5.heap.size:=(Array.getElem?_eq_some_iff.1 t5).1
    clear hq r5 k5 t5 hy hl
    go_wp2_with fail
    obtain⟨WF,ji⟩: ∃WF,(((w5.setCell ⟨w.heap.size,0,none⟩ (.int .u8 3)).setCell ⟨w.heap.size,1,none⟩ (.int .i64 0)).setCell ⟨w.heap.size,2,none⟩ (.slice none 0 0))=WF:=⟨_,rfl⟩
    rw[ji]at s5 F⊢
    have q0:=cells_at s5 (j:=0) rfl
    have q1:=cells_at s5 (j:=1) rfl
    have q2:=cells_at s5 (j:=2) rfl
    refine bodyPost_ret (v:= .agg #[.int .u8 3, .int .i64 0, .slice none 0 0]) (by simp[results,Tryz.results283,go_sem,q0,q1,q2]) rfl F
   ·have hn:jh Bh (⟨tk,tt,tn,ta⟩::r)=none:=uK (.inr (.inr e1))
    (with_reducible refine cq.mono ?_)
    clear cq
    rintro e' w7 hq
    obtain⟨rfl,r5,k5⟩:=hq.no hn
    have kq:=KQ.out.1.trans k5
    have t5:=k5.heap KQ.out.2 (fun h=>by unfold one at h;omega)
    clear KQ
    have KQ:=Lib.hid (And.intro kq t5)
    have cq:=oV R (⟨tk,tt,tn,ta⟩::r) e G8 w7 r5
    clear hq kq t5 r5 k5 hn
    go_wp2_with fail
    by_cases e2:tt=G8
    ·have hy:jh G8 (⟨tk,tt,tn,ta⟩::r)=some r:=yj (by simp[e2];omega)
     have hx:x= .mk 4 0 []/\l'=r:=by
      rw[if_neg e0]at hl;rw[if_neg e1]at hl;rw[if_pos e2]at hl
      injection hl with hl;injection hl with h1 h2;exact⟨h1.symm,h2.symm⟩
     obtain⟨rfl,rfl⟩:=hx
     (with_reducible refine cq.mono ?_)
     clear cq
     rintro e' w5 hq
     obtain⟨rfl,r5,k5⟩:=hq.yes hy
     have t5:=k5.heap KQ.out.2 (fun h=>by unfold one at h;omega)
     have f0:=free_at t5 0
     have f1:=free_at t5 1
     have f2:=free_at t5 2
     have z0:=cells_at t5 (j:=0) rfl
     have z1:=cells_at t5 (j:=1) rfl
     have z2:=cells_at t5 (j:=2) rfl
     have F:=mQ.BO (w:=w) (R:=R) (e:=e) (op:=4) (r:=l') (by decide) (by decide) hlt (KQ.out.1.trans k5) r5 t5
     have s5:=(gX t5 (.int .u8 4) (.int .i64 0) (.slice none 0 0)).1
     have hs5:w.heap.size<w5.heap.size:=(Array.getElem?_eq_some_iff.1 t5).1
     clear hq r5 k5 t5 hy hl
     go_wp2_with fail
     obtain⟨WF,ji⟩: ∃WF,(((w5.setCell ⟨w.heap.size,0,none⟩ (.int .u8 4)).setCell ⟨w.heap.size,1,none⟩ (.int .i64 0)).setCell ⟨w.heap.size,2,none⟩ (.slice none 0 0))=WF:=⟨_,rfl⟩
     rw[ji]at s5 F⊢
     have q0:=cells_at s5 (j:=0) rfl
     have q1:=cells_at s5 (j:=1) rfl
     have q2:=cells_at s5 (j:=2) rfl
     refine bodyPost_ret (v:= .agg #[.int .u8 4, .int .i64 0, .slice none 0 0]) (by simp[results,Tryz.results283,go_sem,q0,q1,q2]) rfl F
    ·rw[if_neg e0,if_neg e1,if_neg e2]at hl
     cases hl
end Go.Proofs.YtglbkodmmogomaaGreatDoor
