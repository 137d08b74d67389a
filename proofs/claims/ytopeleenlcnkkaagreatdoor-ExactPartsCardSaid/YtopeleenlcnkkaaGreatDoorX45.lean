/- exact.run: a course, walked. -/
import Derived.Test.YtopeleenlcnkkaaGreatDoorX44
set_option linter.unusedVariables false
set_option linter.unusedSimpArgs false
set_option maxHeartbeats 4000000
set_option maxRecDepth 100000
namespace Go.Proofs.YtopeleenlcnkkaaGreatDoor
open Go Go.RowKit
attribute [local irreducible] bU dL H2.cZ
def xG (wj w:World)(r:Except Int (Now×List Rec))(e:Ending)(w':World):Prop:=
 match r with
 | .error er=>e= .returned (.tuple #[.agg #[.int .i64 0, .slice none 0 0], .pointer none, .slice none 0 0, .int .i64 er])/\er≠0/\Kept none' w w'
 | .ok r=> ∃nv bi mi pm B V,e= .returned (.tuple #[.agg #[.int .i64 r.1.1.par,nv], .pointer (some ⟨bi,0,none⟩), .slice (some ⟨B,0,none⟩) 2 2, .int .i64 0])/\bZ wj #[.int .i64 r.1.1.par,nv] r.1.1/\bK r.1.1=true/\dF r.1.1.nodes r.1.2/\
    w'.heap[bi]?=some (.cells #[.int .i64 r.1.1.par,nv, .map (some mi)] 101 (0,0))/\bV w' (fun q=> ¬bP B V q) mi r.1.2 pm/\ ¬bP B V bi/\ ¬bP B V mi/\w.heap.size<=bi/\w.heap.size<=mi/\oV w.heap.size r.1.2 pm/\bY w' w.heap.size B 78 V (eF r.2)/\w.heap.size<=B/\Kept none' w w'/\r.2.length<=3840
theorem jG {w W:World}{B:Nat}{a b:Value}(h:W.heap[B]?=some (.cells #[a,b] 24 (0,0)))(hk:Kept none' w W)(hB:w.heap.size<=B)(p v:Value):
 ((W.setCell ⟨B,0,none⟩ p).setCell ⟨B,1,none⟩ v).cell? ⟨B,0,none⟩=some p/\((W.setCell ⟨B,0,none⟩ p).setCell ⟨B,1,none⟩ v).cell? ⟨B,1,none⟩=some v/\Kept none' w ((W.setCell ⟨B,0,none⟩ p).setCell ⟨B,1,none⟩ v):=by
 have h3:=aK (aK h 0 p) 1 v
 exact⟨cells_at h3 (j:=0) rfl,cells_at h3 (j:=1) rfl,(hk.setCell (p:=⟨B,0,none⟩) (.inr hB) _).setCell (p:=⟨B,1,none⟩) (.inr hB) _⟩
theorem PE {first:Jb}{ts:List Turn}{l:List (Int×Int)}{e:Int}(h:e<0\/(l.length:Int)<e\/bM e 0 ts=false):gG first ts l e= .error 2:=by unfold gG;rw[if_pos h]
theorem XL {first:Jb}{ts:List Turn}{l:List (Int×Int)}{e er:Int}(h: ¬(e<0\/(l.length:Int)<e\/bM e 0 ts=false))(hl:bJ first []= .error er):gG first ts l e= .error er:=by unfold gG;rw[if_neg h,hl]
theorem run_go {first:Jb}{ts:List Turn}{l:List (Int×Int)}{e:Int}{Ts:Tabs}(h: ¬(e<0\/(l.length:Int)<e\/bM e 0 ts=false))(hl:bJ first []= .ok Ts):gG first ts l e=lT (l.take e.toNat) 0 ts (first,Ts) []:=by unfold gG;rw[if_neg h,hl]
theorem O6 {e a:Int}{ts:List Turn}{k:Nat}{t:Turn}(h:ts[k]?=some t):bM e a (ts.drop k)=(decide (a<=t.1)&&decide (t.1<=e)&&bM e t.1 (ts.drop (k+1))):=by
 rw[vw h];rfl
theorem X0 {B q:Nat}(h:bP B [.slice none 0 0, .slice none 0 0] q):q=B:=by
 rcases h with h|⟨i,v,hv,hq⟩
 ·exact h
 ·have:v= .slice none 0 0:=by have:=List.mem_of_getElem? hv;simpa using this
  subst this
  cases hq
theorem aaP {at_:Int}{ts Pv:List Turn}{s s2:Now}{o:List Rec}(h:cu at_ ts s= .ok (s2,Pv)):lT [] at_ ts s o= .ok (s2,o):=by unfold lT;rw[h]
theorem YP {at_ er:Int}{ts:List Turn}{s:Now}{o:List Rec}(h:cu at_ ts s= .error er):lT [] at_ ts s o= .error er:=by unfold lT;rw[h]
theorem YO {l:List (Int×Int)}{k:Nat}{y:Int×Int}(h:l[k]?=some y)(ts:List Turn)(s:Now)(o:List Rec):
 lT (l.drop k) k ts s o=match cu k ts s with
  | .error e=> .error e
  | .ok r=>lT (l.drop (k+1)) ((k+1:Nat):Int) r.2 (r.1.1,(fU r.1.1.nodes r.1.2 y.1 y.2).2) (o++(fU r.1.1.nodes r.1.2 y.1 y.2).1):=by
 rw[vw h]
 rfl
def aah (wj w:World)(n8 Be Bt Bj Bd B:Nat)(Lp:List (Int×Int))(R:Except Int (Now×List Rec))(k:Nat)(wq:World):Prop:=
 (∃V ts s o tv nv bi mi pm,lT (Lp.drop k) k ts s o=R/\o.length<=64*k/\lJ wj w wq n8 Be Bt Bj Bd B V ts s o tv nv bi mi pm)\/
 ∃er,R= .error er/\er≠0/\wq.heap[Be]?=some (.cells #[.int .i64 er] 28 (0,0))/\Kept none' w wq/\wq.heap[n8]?=some (.cells #[.int .i64 0, .slice none 0 0] 24 (0,0))
theorem Rk {wj w W1 wr W2 w3 W5:World}{first:Jb}{fv tv:Value}{ts:List Turn}{l:List (Int×Int)}{n:Nat}{p:Option Addr}{er:Int}(hsz:w.heap.size+1+1<W1.heap.size)(kj:Kept none' wj w)(hjb:bZ wj #[.int .i64 first.par,fv] first)(htu:dB wj tv ts)(kA:Kept none' w W1)
 (a1:W1.heap[w.heap.size+1]?=some (.cells #[tv] 76 (0,0))) (a2:W1.heap[w.heap.size+1+1]?=some (.cells #[.int .i64 0, .slice none 0 0] 24 (0,0))) (hgood: ¬((n:Int)<0\/(l.length:Int)<n\/bM n 0 ts=false)) (k12:Kept none' W1 W2)
 (gJ:W2.heap[wr.heap.size]?=some (.cells #[.int .i64 first.par,fv] 24 (0,0))) (hw:W1.heap.size<=wr.heap.size) (hq:fA W2 fv first [] (.returned (.tuple #[.pointer p, .int .i64 er])) w3)
 (nZ:((w3.alloc (.cells #[.pointer p] 35)).alloc (.cells #[.int .i64 er] 28)).alloc (.cells #[.slice none 0 0, .slice none 0 0] 78)=W5):
 aah wj w (w.heap.size+1+1) (w3.heap.size+1) (w.heap.size+1) wr.heap.size w3.heap.size (w3.heap.size+1+1) (l.take n) (gG first ts l n) 0 W5/\Four w.heap.size (w3.heap.size+1) (w.heap.size+1) wr.heap.size w3.heap.size/\wr.heap.size<w3.heap.size/\w.heap.size+1+1<wr.heap.size:=by
 have MQ:Kept none' w3 W5:=by rw[<-nZ];exact(((Kept.refl _ _).alloc _).alloc _).alloc _
 have gD:W5.heap[w3.heap.size]?=some (.cells #[.pointer p] 35 (0,0)):=by rw[<-nZ];exact(((Kept.refl none' _).alloc _).alloc _).heap (heap_alloc_new w3 _) (fun h=>h)
 have gE:W5.heap[w3.heap.size+1]?=some (.cells #[.int .i64 er] 28 (0,0)):=by
  rw[<-nZ]
  have:=((Kept.refl none' _).alloc (.cells #[.slice none 0 0, .slice none 0 0] 78)).heap (heap_alloc_new (w3.alloc (.cells #[.pointer p] 35)) (.cells #[.int .i64 er] 28)) (fun h=>h)
  rwa[World.size_alloc]at this
 have gB:W5.heap[w3.heap.size+1+1]?=some (.cells #[.slice none 0 0, .slice none 0 0] 78 (0,0)):=by
  rw[<-nZ]
  have:=heap_alloc_new ((w3.alloc (.cells #[.pointer p] 35)).alloc (.cells #[.int .i64 er] 28)) (.cells #[.slice none 0 0, .slice none 0 0] 78)
  rwa[World.size_alloc,World.size_alloc]at this
 have s2:wr.heap.size<W2.heap.size:=(Array.getElem?_eq_some_iff.1 gJ).1
 have YG:Kept none' W2 w3:=by
  unfold fA at hq
  split at hq
  ·obtain⟨b,m,pm,_,_,_,_,_,_,_,_,k⟩:=hq;exact k
  ·exact hq.2.2
 have s3:=YG.size
 have k2:=k12.trans YG
 have k5:=k2.trans MQ
 refine⟨?_,⟨by omega,by omega,by omega,by omega,by omega,by omega,by omega,by omega,by omega,by omega⟩,by omega,by omega⟩
 unfold fA at hq
 cases hl:bJ first []with
 |error e'=>
  rw[hl]at hq
  obtain⟨he,hne,-⟩:=hq
  injection he with he
  injection he with he
  simp only[Array.mk.injEq,List.cons.injEq,Value.pointer.injEq,Value.int.injEq,and_true,true_and]at he
  obtain⟨rfl,rfl⟩:=he
  exact .inr ⟨er,XL hgood hl,hne,gE,kA.trans k5,k5.heap a2 (fun h=>h)⟩
 |ok Ts=>
  rw[hl]at hq
  obtain⟨bi,mi,pm,he,hob,hbi,hnn,hpar,Qc,htx,hnt,-⟩:=hq
  injection he with he
  injection he with he
  simp only[Array.mk.injEq,List.cons.injEq,Value.pointer.injEq,Value.int.injEq,and_true,true_and]at he
  obtain⟨rfl,rfl⟩:=he
  obtain⟨hok,hT⟩:=xX hl
  have hbl:bi<w3.heap.size:=(Array.getElem?_eq_some_iff.1 hob).1
  have hml:mi<w3.heap.size:=by obtain⟨l,h1,_⟩:=htx.at_.map;exact h1.lt
  have nF: ∀q,W2.heap.size<=q->q<w3.heap.size-> ¬xw (w.heap.size+1+1) (w3.heap.size+1) (w.heap.size+1) wr.heap.size w3.heap.size (w3.heap.size+1+1) [.slice none 0 0, .slice none 0 0] q:=fun q h1 h2 h=>by
   rcases h with((h|h|h|h)|h)|h
   ·omega
   ·omega
   ·omega
   ·omega
   ·omega
   ·have:=X0 h;omega
  have h0:w.heap.size<=W2.heap.size:=(kA.trans k12).size
  refine .inl ⟨[.slice none 0 0, .slice none 0 0],ts,(first,Ts),[],tv,fv,bi,mi,pm,?_,by simp,⟨⟨kj,kA.trans k5,gE,k5.heap a1 (fun h=>h),(YG.trans MQ).heap gJ (fun h=>h),gD,MQ.heap hob (fun h=>h),htu,hjb,hok,hT,(htx.mono (fun q hq hlt=>nF q hq hlt)).pure MQ,nF _ hbi hbl,nF _ Qc hml,by omega,by omega,fun q T hq=>Nat.le_trans h0 (hnt q T hq)⟩,by rw[Ri];exact U6 gB,k5.heap a2 (fun h=>h)⟩⟩
  rw[List.drop_zero,run_go hgood hl,Int.toNat_natCast]
  rfl
theorem run_any (first:Jb)(fv tv lv:Value)(ts:List Turn)(L:List Rec)(end_:Int)(wj w:World)(kj:Kept none' wj w)(hj:bZ wj #[.int .i64 first.par,fv] first)(ht:dB wj tv ts)(hl:Reads w 3 lv (recs L))(hL: ∀r∈L,aU r)(hlen:L.length<=60):
 Calls Tryz.prog 69 #[.agg #[.int .i64 first.par,fv],tv,lv, .int .i64 end_] w (xG wj w (gG first ts (L.map dI) end_)):=by
 obtain⟨la,Yh,rfl,l1,l2,l3⟩:=hl.recAt
 unfold maxLen at l2
 obtain⟨na,bW,hfv,-⟩:=hj.lM.at
 have HT:=ht
 have KJ:=Lib.hid kj
 obtain⟨ta,nP,Em,t1,t2,t3⟩:=ht
 subst hfv Em
 unfold maxLen at t2
 have kA:Kept none' w (((w.alloc (.cells #[.int .i64 first.par, .slice na first.nodes.length bW] 24)).alloc (.cells #[.slice ta ts.length nP] 76)).alloc (.cells #[.int .i64 0, .slice none 0 0] 24)):=(((Kept.refl _ _).alloc _).alloc _).alloc _
 have a0:(((w.alloc (.cells #[.int .i64 first.par, .slice na first.nodes.length bW] 24)).alloc (.cells #[.slice ta ts.length nP] 76)).alloc (.cells #[.int .i64 0, .slice none 0 0] 24)).heap[w.heap.size]?=some (.cells #[.int .i64 first.par, .slice na first.nodes.length bW] 24 (0,0)):=
  (((Kept.refl none' _).alloc _).alloc _).heap (heap_alloc_new w _) (fun h=>h)
 have a1:(((w.alloc (.cells #[.int .i64 first.par, .slice na first.nodes.length bW] 24)).alloc (.cells #[.slice ta ts.length nP] 76)).alloc (.cells #[.int .i64 0, .slice none 0 0] 24)).heap[w.heap.size+1]?=some (.cells #[.slice ta ts.length nP] 76 (0,0)):=by
  have:=((Kept.refl none' _).alloc (.cells #[.int .i64 0, .slice none 0 0] 24)).heap (heap_alloc_new (w.alloc (.cells #[.int .i64 first.par, .slice na first.nodes.length bW] 24)) (.cells #[.slice ta ts.length nP] 76)) (fun h=>h)
  rwa[World.size_alloc]at this
 have a2:(((w.alloc (.cells #[.int .i64 first.par, .slice na first.nodes.length bW] 24)).alloc (.cells #[.slice ta ts.length nP] 76)).alloc (.cells #[.int .i64 0, .slice none 0 0] 24)).heap[w.heap.size+1+1]?=some (.cells #[.int .i64 0, .slice none 0 0] 24 (0,0)):=by
  have:=heap_alloc_new ((w.alloc (.cells #[.int .i64 first.par, .slice na first.nodes.length bW] 24)).alloc (.cells #[.slice ta ts.length nP] 76)) (.cells #[.int .i64 0, .slice none 0 0] 24)
  rwa[World.size_alloc,World.size_alloc]at this
 obtain⟨W1,hW1⟩: ∃W1,((w.alloc (.cells #[.int .i64 first.par, .slice na first.nodes.length bW] 24)).alloc (.cells #[.slice ta ts.length nP] 76)).alloc (.cells #[.int .i64 0, .slice none 0 0] 24)=W1:=⟨_,rfl⟩
 rw[hW1]at kA a0 a1 a2
 have hsz:w.heap.size+1+1<W1.heap.size:=(Array.getElem?_eq_some_iff.1 a2).1
 have H:=Lib.hid (And.intro hj (And.intro HT (And.intro l3 (And.intro hL (And.intro hlen (And.intro kA (And.intro a0 (And.intro a1 a2))))))))
 have HX:=Lib.hid t3
 have hgo: ∀er,0=er->True:=fun _ _=>trivial
 have c80:=cells_at a2 (j:=0) (v:= .int .i64 0) rfl
 have c81:=cells_at a2 (j:=1) (v:= .slice none 0 0) rfl
 have f80:=free_at a2 0
 have f81:=free_at a2 1
 have c1:=cells_at a1 (j:=0) (v:= .slice ta ts.length nP) rfl
 clear hj HT hl l3 hL hlen kA a0 a1 a2 t3 hgo
 go_enter Tryz.func69,Tryz.ntmps69
 by_cases hb:end_<0\/(L.length:Int)<end_
 ·obtain⟨q0,q1,kE⟩:=jG (w:=w) H.out.2.2.2.2.2.2.2.2 H.out.2.2.2.2.2.1 (by omega) (.int .i64 0) (.slice none 0 0)
  have F:=Lib.hid (show xG wj w (gG first ts (L.map dI) end_) (.returned (.tuple #[.agg #[.int .i64 0, .slice none 0 0], .pointer none, .slice none 0 0, .int .i64 2])) ((W1.setCell ⟨w.heap.size+1+1,0,none⟩ (.int .i64 0)).setCell ⟨w.heap.size+1+1,1,none⟩ (.slice none 0 0))from by
   rw[PE (by rw[List.length_map];exact hb.imp id .inl)]
   exact⟨rfl,by decide,kE⟩)
  have Q:=Lib.hid (And.intro q0 q1)
  clear kE q0 q1
  by_cases h1:end_<0
  ·clear hb
   go_wp2_with fail
   refine bodyPost_ret (v:= .tuple #[.agg #[.int .i64 0, .slice none 0 0], .pointer none, .slice none 0 0, .int .i64 2]) (by simp[results,Tryz.results69,go_sem,Q.out.1,Q.out.2]) rfl F.out
  ·have h2:(L.length:Int)<end_:=hb.resolve_left h1
   clear hb
   go_wp2_with fail
   refine bodyPost_ret (v:= .tuple #[.agg #[.int .i64 0, .slice none 0 0], .pointer none, .slice none 0 0, .int .i64 2]) (by simp[results,Tryz.results69,go_sem,Q.out.1,Q.out.2]) rfl F.out
 ·obtain⟨n,rfl⟩:=Int.eq_ofNat_of_zero_le (show 0<=end_ by omega)
  have VG:n<=L.length:=by omega
  have h1: ¬((n:Int)<0):=by omega
  have h2: ¬((L.length:Int)<(n:Int)):=by omega
  clear hb c80 c81 f80 f81
  go_wp2_with fail
  clear c1
  go_loopg [12,36] ts.length (fun g vl vi wr=> ∃(k:Nat)(a:Int),k<=ts.length/\vi= .int .i64 (k:Int)/\vl= .int .i64 a/\ts.length-k<=g/\bM n 0 ts=bM n a (ts.drop k)/\Kept none' W1 wr)
  case atStart=>exact⟨0,0,by omega,rfl,rfl,by omega,rfl,Kept.refl _ _⟩
  case round=>
   obtain⟨k,a,hkl,rfl,rfl,hg,hcut,hkp⟩:=hrel
   have kw:=H.out.2.2.2.2.2.1.trans hkp
   by_cases hlt:k<ts.length
   ·obtain⟨t,ht⟩: ∃t,ts[k]?=some t:=⟨_,List.getElem?_eq_getElem hlt⟩
    obtain⟨bs,L6,rfl,hcs⟩:=HX.out.resolve_left (fun h=>by rw[h]at hlt;simp at hlt)
    obtain⟨va,d0,d1,d2,hjt⟩:=hcs k t ht
    have hjt:bZ wj #[.int .i64 t.2.par,va] t.2:=hjt
    obtain⟨oZ,cap2,hva,-⟩:=hjt.lM.at
    subst hva
    have y0:=(KJ.out.trans kw).cell (fun h=>h) d0
    have y1:=(KJ.out.trans kw).cell (fun h=>h) d1
    have y2:=(KJ.out.trans kw).cell (fun h=>h) d2
    have ka:Kept none' wr (wr.alloc (.cells #[.int .i64 t.1, .int .i64 t.2.par, .slice oZ t.2.nodes.length cap2] 75)):=(Kept.refl _ _).alloc _
    have a2:=(hkp.trans ka).heap H.out.2.2.2.2.2.2.2.2 (fun h=>h)
    rw[O6 ht]at hcut
    have x0:=cells_at a2 (j:=0) (v:= .int .i64 0) rfl
    have x1:=cells_at a2 (j:=1) (v:= .slice none 0 0) rfl
    have g0:=free_at a2 0
    have g1:=free_at a2 1
    by_cases hbad:t.1<a\/(n:Int)<t.1
    ·obtain⟨q0,q1,kE⟩:=jG (w:=w) a2 (kw.trans ka) (by omega) (.int .i64 0) (.slice none 0 0)
     have F:=Lib.hid (show xG wj w (gG first ts (L.map dI) n) (.returned (.tuple #[.agg #[.int .i64 0, .slice none 0 0], .pointer none, .slice none 0 0, .int .i64 2])) (((wr.alloc (.cells #[.int .i64 t.1, .int .i64 t.2.par, .slice oZ t.2.nodes.length cap2] 75)).setCell ⟨w.heap.size+1+1,0,none⟩ (.int .i64 0)).setCell ⟨w.heap.size+1+1,1,none⟩ (.slice none 0 0))from by
      rw[PE (.inr (.inr (by rw[hcut];rcases hbad with h|h<;>simp<;>intros<;>omega)))]
      exact⟨rfl,by decide,kE⟩)
     have Q:=Lib.hid (And.intro q0 q1)
     clear q0 q1 kE hcut hkp kw hcs d0 d1 d2 hjt ht ka a2 hg
     by_cases h3:t.1<a
     ·clear hbad
      go_wp2_with fail
      refine bodyPost_ret (v:= .tuple #[.agg #[.int .i64 0, .slice none 0 0], .pointer none, .slice none 0 0, .int .i64 2]) (by simp[results,Tryz.results69,go_sem,Q.out.1,Q.out.2]) rfl F.out
     ·have h4:(n:Int)<t.1:=hbad.resolve_left h3
      clear hbad
      go_wp2_with fail
      refine bodyPost_ret (v:= .tuple #[.agg #[.int .i64 0, .slice none 0 0], .pointer none, .slice none 0 0, .int .i64 2]) (by simp[results,Tryz.results69,go_sem,Q.out.1,Q.out.2]) rfl F.out
    ·have h3: ¬t.1<a:=fun h=>hbad (.inl h)
     have h4: ¬(n:Int)<t.1:=fun h=>hbad (.inr h)
     have F:=Lib.hid (And.intro (show bM n 0 ts=bM n t.1 (ts.drop (k+1))from by
      rw[hcut];simp;intros;omega) (And.intro hg (hkp.trans ka)))
     clear hbad hcut hkp kw hcs d0 d1 d2 hjt ht ka a2 hg x0 x1 g0 g1
     go_wp2_with fail
     go_roundg (ts.length-(k+1))
     case rel=>exact⟨k+1,t.1,by omega,by go_num,rfl,Nat.le_refl _,F.out.1,F.out.2.2⟩
     case measure=>have:=F.out.2.1;omega
   ·obtain⟨wz,rfl⟩: ∃wz:World,wz=wr:=⟨_,rfl⟩
    have hkt:k=ts.length:=by omega
    subst hkt
    have hok:bM n 0 ts=true:=by rw[hcut,List.drop_length];rfl
    have hgood: ¬((n:Int)<0\/((L.map dI).length:Int)<n\/bM n 0 ts=false):=by
     rw[List.length_map,hok]
     rintro(h|h|h)
     ·omega
     ·omega
     ·cases h
    have b0:=hkp.heap H.out.2.2.2.2.2.2.1 (fun h=>h)
    have c0:=cells_at b0 (j:=0) (v:= .int .i64 first.par) rfl
    have c1:=cells_at b0 (j:=1) (v:= .slice na first.nodes.length bW) rfl
    have kB:Kept none' wz (wz.alloc (.cells #[.int .i64 first.par, .slice na first.nodes.length bW] 24)):=(Kept.refl _ _).alloc _
    have gJ:=heap_alloc_new wz (.cells #[.int .i64 first.par, .slice na first.nodes.length bW] 24)
    obtain⟨W2,hW2⟩: ∃W2,wz.alloc (.cells #[.int .i64 first.par, .slice na first.nodes.length bW] 24)=W2:=⟨_,rfl⟩
    rw[hW2]at kB gJ
    have cn:=X5 first _ W2 (H.out.1.pure (KJ.out.trans (kw.trans kB)))
    have m0:=cells_at gJ (j:=0) (v:= .int .i64 first.par) rfl
    have m1:=cells_at gJ (j:=1) (v:= .slice na first.nodes.length bW) rfl
    have MZ:W1.heap.size<=wz.heap.size:=hkp.size
    have KK:=Lib.hid (And.intro hgood (And.intro (hkp.trans kB) (And.intro gJ MZ)))
    clear hcut hg hkp kw hok hgood b0 kB gJ hlt hkl MZ
    go_wp2_with fail
    try rw[hW2]
    clear hW2 c0 c1 m0 m1
    (with_reducible refine cn.mono ?_)
    clear cn
    intro e w3 hq
    obtain⟨p,er,rfl⟩:=hq.tuple
    have LQ:=Lib.hid hq
    clear hq
    have hmk:=afo
    obtain⟨W5,nZ⟩: ∃W5,((w3.alloc (.cells #[.pointer p] 35)).alloc (.cells #[.int .i64 er] 28)).alloc (.cells #[.slice none 0 0, .slice none 0 0] 78)=W5:=⟨_,rfl⟩
    have HW5:=Lib.hid nZ
    have hsl:=fun W:World=>UK (w:=W) (a:=la) (n:=L.length) (cap:=Yh) (k:=n) l1 VG
    clear nZ
    go_wp2_with fail
    rw[HW5.out]
    have MS:=Lib.hid (Rk hsz KJ.out H.out.1 H.out.2.1 H.out.2.2.2.2.2.1 H.out.2.2.2.2.2.2.2.1 H.out.2.2.2.2.2.2.2.2 KK.out.1 KK.out.2.1 KK.out.2.2.1 KK.out.2.2.2 LQ.out HW5.out)
    obtain⟨R,hR⟩: ∃R,gG first ts (L.map dI) n=R:=⟨_,rfl⟩
    have HR:=Lib.hid hR
    rw[hR]at MS⊢
    clear hR hmk hsl HW5 LQ KK
    go_loopg [66] n (fun g vi wq=> ∃k:Nat,k<=n/\vi= .int .i64 (k:Int)/\n-k<=g/\aah wj w (w.heap.size+1+1) (w3.heap.size+1) (w.heap.size+1) wz.heap.size w3.heap.size (w3.heap.size+1+1) ((L.map dI).take n) R k wq)
    case atStart=>exact⟨0,by omega,rfl,by omega,MS.out.1⟩
    case round=>
     obtain⟨k,hkn,rfl,hg,hst⟩:=hrel
     obtain⟨wm,rfl⟩: ∃wm:World,wm=wr:=⟨_,rfl⟩
     have VR: ¬four (w3.heap.size+1) (w.heap.size+1) wz.heap.size w3.heap.size (w.heap.size+1+1):=fun h=>by
      have:=MS.out.2.2.1
      have:=MS.out.2.2.2
      rcases h with h|h|h|h<;>omega
     rcases hst with⟨V,ts',s,o,tv,nv,bi,mi,pm,hgo,ho,hc⟩|⟨er,hR,hne,he,hk0,h8⟩
     ·by_cases hlt:k<n
      ·obtain⟨r,hrk⟩: ∃r,L[k]?=some r:=⟨_,List.getElem?_eq_getElem (by omega)⟩
       obtain⟨lb,yR,rfl,hlc⟩:=H.out.2.2.1.resolve_left (fun h=>by rw[h]at VG;simp at VG;omega)
       obtain⟨c0,c1,c2⟩:=(hlc k r hrk).pure hc.st.kept
       have hro:=H.out.2.2.2.1 r (List.mem_of_getElem? hrk)
       have ka:Kept none' wm (wm.alloc (.cells #[.int .i64 r.pos, .int .i64 r.key, .int .i64 r.val] 86)):=(Kept.refl _ _).alloc _
       have rB:=heap_alloc_new wm (.cells #[.int .i64 r.pos, .int .i64 r.key, .int .i64 r.val] 86)
       have hfl: ∀q,four (w3.heap.size+1) (w.heap.size+1) wz.heap.size w3.heap.size q->q<wm.heap.size:=fun q hq=>hc.st.Qm hq
       obtain⟨W6,nJ⟩: ∃W6,wm.alloc (.cells #[.int .i64 r.pos, .int .i64 r.key, .int .i64 r.val] 86)=W6:=⟨_,rfl⟩
       rw[nJ]at ka rB
       have hc6:=hc.pure ka
       have ct:=Lc (k:Int) wj w _ _ _ _ _ ts' s tv nv bi mi pm W6 MS.out.2.1 (fun q hq=> .inl (.inl hq)) (fun q hq=>hc6.lt hq) hc6.st
       have y0:=YO (l:=(L.map dI).take n) (k:=k) (y:=dI r) (by rw[List.getElem?_take,if_pos hlt,List.getElem?_map,hrk];rfl) ts' s o
       have G:=Lib.hid (And.intro hg (And.intro hgo (And.intro ho (And.intro hc6 (And.intro hro (And.intro rB (And.intro hfl y0)))))))
       clear hg hgo ho hc hc6 hro rB hfl y0 hrk hlc ka
       go_wp2_with fail
       try rw[nJ]
       clear nJ c0 c1 c2
       (with_reducible refine ct.mono ?_)
       clear ct
       rintro e w7 ⟨rfl,k7,hor⟩
       rcases hor with⟨Pv,s2,tv2,Vb,CG,PX,DR,Nw,hst2⟩|⟨er,Ny,hne2,he2,hk2⟩
       ·have hc2:=G.out.2.2.2.1.turned VR k7 hst2
        have hnb:dP w7 Vb s2.1.nodes:=hst2.jb.lM.pure (hst2.kj.trans hst2.kept)
        have cf:=GL (fun q=> ¬xw (w.heap.size+1+1) (w3.heap.size+1) (w.heap.size+1) wz.heap.size w3.heap.size (w3.heap.size+1+1) V q) s2.1 CG PX s2.2 DR r.key r.val w7 ⟨⟨Vb,hst2.i,hnb⟩,hst2.jb.r64,hst2.tabs.at_⟩ hst2.tabs hst2.ok hnb.jr hst2.tk G.out.2.2.2.2.1.key G.out.2.2.2.2.1.val
        have fo:=uZ hst2.ok hnb.jr hst2.tk G.out.2.2.2.2.1.key G.out.2.2.2.2.1.val
        have hstep:=G.out.2.2.2.2.2.2.2
        rw[Nw]at hstep
        have hstep:_=lT (((L.map dI).take n).drop (k+1)) ((k+1:Nat):Int) Pv (s2.1,(fU s2.1.nodes s2.2 r.key r.val).2) (o++(fU s2.1.nodes s2.2 r.key r.val).1):=hstep
        rw[G.out.2.1]at hstep
        have UY:=k7.heap G.out.2.2.2.2.2.1 (fun h=>by have:=G.out.2.2.2.2.2.2.1 _ h;omega)
        have m0:=cells_at UY (j:=0) (v:= .int .i64 r.pos) rfl
        have m1:=cells_at UY (j:=1) (v:= .int .i64 r.key) rfl
        have m2:=cells_at UY (j:=2) (v:= .int .i64 r.val) rfl
        have cE:=cells_at hst2.e (j:=0) (v:= .int .i64 0) rfl
        have cD:=cells_at hst2.d (j:=0) (v:= .pointer (some ⟨CG,0,none⟩)) rfl
        have hwm7:wm.heap.size<w7.heap.size:=(Array.getElem?_eq_some_iff.1 UY).1
        have GG:=Lib.hid (And.intro G.out.1 (And.intro G.out.2.2.1 (And.intro hc2 (And.intro fo hstep))))
        clear hst2 Nw k7 hnb fo hstep UY hc2
        go_wp2_with fail
        (with_reducible refine cf.mono ?_)
        clear cf m0 m1 m2 cE cD
        rintro e w8 ⟨v8,rfl,ZA,hb8,-,k8,hx8⟩
        have fo:=GG.out.2.2.2.1
        have hstep:=GG.out.2.2.2.2
        obtain⟨T2,O,hO,hT2⟩: ∃T2 O,(fU s2.1.nodes s2.2 r.key r.val).1=O/\(fU s2.1.nodes s2.2 r.key r.val).2=T2:=⟨_,_,rfl,rfl⟩
        rw[hO,hT2]at fo hstep
        rw[hO]at ZA
        rw[hT2]at hx8
        have hc3:=GG.out.2.2.1.fed k8 hx8 fo.1
        have YC:=ZA
        obtain⟨oa,Dc,rfl,o1,o2,o3⟩:=ZA.recAt
        unfold maxLen at o2
        have acG: ∀b,Value.blk (.slice oa O.length Dc)=some b-> ¬bP (w3.heap.size+1+1) V b/\b<w8.heap.size:=fun b hb=>⟨fun h=>by have:=GG.out.2.2.1.out.lt h;have:=hb8 b hb;omega,YC.WY (by omega) hb⟩
        have Z:=Lib.hid (And.intro hc3 (And.intro YC (And.intro acG (And.intro fo hstep))))
        clear hc3 YC acG fo hstep k8 hx8 hb8 o3 hO hT2 ZA
        go_wp2_with fail
        go_loopg [83] O.length (fun g vi wq=> ∃(m:Nat)(V:List Value),m<=O.length/\vi= .int .i64 (m:Int)/\O.length-m<=g/\lJ wj w wq (w.heap.size+1+1) (w3.heap.size+1) (w.heap.size+1) wz.heap.size w3.heap.size (w3.heap.size+1+1) V Pv (s2.1,T2) (o++O.take m) tv2 Vb CG PX DR/\
         Reads wq 3 (.slice oa O.length Dc) (recs O)/\ ∀b,Value.blk (.slice oa O.length Dc)=some b-> ¬bP (w3.heap.size+1+1) V b/\b<wq.heap.size)
        case atStart=>exact⟨0,V,by omega,rfl,by omega,by rw[List.take_zero,List.append_nil];exact Z.out.1,Z.out.2.1,Z.out.2.2.1⟩
        case round=>
         obtain⟨wq,rfl⟩: ∃wq:World,wq=wr:=⟨_,rfl⟩
         obtain⟨m,V,hml,rfl,hgm,hcq,hrd,hbl⟩:=hrel
         by_cases hmt:m<O.length
         ·obtain⟨q,hq⟩: ∃q,O[m]?=some q:=⟨_,List.getElem?_eq_getElem hmt⟩
          obtain⟨oa',adF,eo,-,-,o3⟩:=hrd.recAt
          injection eo with eo1 _ eo2
          subst eo1 eo2
          obtain⟨ob,afn,rfl,hoc⟩:=o3.resolve_left (fun h=>by rw[h]at hmt;simp at hmt)
          obtain⟨d0,d1,d2⟩:=hoc m q hq
          have ka:Kept none' wq (wq.alloc (.cells #[.int .i64 q.pos, .int .i64 q.key, .int .i64 q.val] 44)):=(Kept.refl _ _).alloc _
          have sB:=heap_alloc_new wq (.cells #[.int .i64 q.pos, .int .i64 q.key, .int .i64 q.val] 44)
          obtain⟨W9,Nu⟩: ∃W9,wq.alloc (.cells #[.int .i64 q.pos, .int .i64 q.key, .int .i64 q.val] 44)=W9:=⟨_,rfl⟩
          rw[Nu]at ka sB
          have sN:=hcq.pure ka
          obtain⟨ph,Aj⟩: ∃ph,partOf q.key=ph:=⟨_,rfl⟩
          have hp2:ph<2:=by rw[<-Aj];exact rZ q.key
          have hgt:(eF (o++O.take m))[ph]?=some (jy ph (o++O.take m)):=by rw[<-Aj];exact DU _ _
          have hpu:=BM (o++O.take m) q
          rw[Aj]at hpu
          obtain⟨l,hl⟩: ∃l,jy ph (o++O.take m)=l:=⟨_,rfl⟩
          have hll:l.length<=100000:=by
           have h1:=Gz ph (o++O.take m)
           rw[hl,List.length_append,List.length_take]at h1
           have:=GG.out.2.1;have:=Z.out.2.2.2.1.2.2.2;have:=H.out.2.2.2.2.1;omega
          rw[hl]at hgt hpu
          obtain⟨v,hv⟩: ∃v,V[ph]?=some v:=⟨_,List.getElem?_eq_getElem (by rw[sN.out.len];exact(List.getElem?_eq_some_iff.1 hgt).1)⟩
          obtain⟨va,vc,VB⟩:=ay (sN.out.own _ _ _ hv hgt)
          subst VB
          have hd1:=sN.out.pure (Kept.refl none' W9).drew
          have hbase:w.heap.size<=W9.drew.heap.size:=sN.st.kept.size
          obtain⟨a,cap,w10,g1,g2,g3,g4,g5,g6⟩:=hd1.push hbase hv hgt hll (q.key,q.val)
          rw[hpu,List.append_assoc,show O.take m++[q]=O.take (m+1) by rw[List.take_add_one,hq];rfl]at g4
          have yX: ∀o,W9.drew.alloc o=(W9.alloc o).drew:=fun o=>rfl
          have yV:W9.drew.heap.size=W9.heap.size:=rfl
          rw[yX,yV]at g1
          dsimp only at g1
          have y:W9.cell? ⟨w3.heap.size+1+1,ph,none⟩=some (.slice va l.length vc):=cells_at sN.out.blk (by simpa using hv)
          have hno: ¬(Value.slice va l.length vc).ownBlock=some (w3.heap.size+1+1):=fun e=>sN.out.ne _ _ _ hv e rfl
          have Nc: ¬(Value.slice va l.length vc).ownBlock=some wq.heap.size:=fun e=>by have:=hcq.out.lt (q:=wq.heap.size) (.inr ⟨_,_,hv,e⟩);omega
          have kg:Kept (fun q=>(Value.slice va l.length vc).ownBlock=some q) W9 w10:=g2.aQ
          have k10:Kept (bP (w3.heap.size+1+1) V) W9 (w10.setCell ⟨w3.heap.size+1+1,ph,none⟩ (.slice a (l.length+1) cap)):=g5.aQ
          have ws:=cells_at g3 (j:=ph) (v:= .slice va l.length vc) (by simpa using hv)
          have wf:=free_at g3 ph
          have hgb:w.heap.size<=w3.heap.size+1+1:=by have:=MS.out.2.2.1;have:=MS.out.2.2.2;omega
          have Nr:=sN.told hgb k10 g4 (fun q hq=>(g6 q hq).imp id (fun h=>h))
          have F:=Lib.hid (And.intro hgm (And.intro Nr (And.intro ((hrd.pure ka).kept k10 (fun b hb=>(hbl b hb).1)) (fun b hb=>(⟨fun hs=>(g6 b hs).elim (hbl b hb).1 (fun h=>by have:=(hbl b hb).2;have:=ka.size;omega),Nat.lt_of_lt_of_le (Nat.lt_of_lt_of_le (hbl b hb).2 ka.size) k10.size⟩: ¬bP (w3.heap.size+1+1) (V.set ph (.slice a (l.length+1) cap)) b/\b<(w10.setCell ⟨w3.heap.size+1+1,ph,none⟩ (.slice a (l.length+1) cap)).heap.size)))))
          have Y:=Lib.hid (And.intro sB (And.intro y (And.intro hno (And.intro Nc kg))))
          have G1:=Lib.hid g1
          have hpI:(ph:Int)<2:=by omega
          have cp:=LU q.key W9
          rw[Aj]at cp
          clear hgm hcq hrd hbl hoc ka sN hgt hpu hl hll hv hd1 hbase g1 g2 g3 g4 g5 g6 yX y hno Nc kg k10 hgb Nr o3 Aj
          have z0:=cells_at sB (j:=0) (v:= .int .i64 q.pos) rfl
          have z1:=cells_at sB (j:=1) (v:= .int .i64 q.key) rfl
          have z2:=cells_at sB (j:=2) (v:= .int .i64 q.val) rfl
          go_wp2_with fail
          try rw[Nu]
          clear Nu d0 d1 d2 yV
          (with_reducible refine cp.mono ?_)
          clear cp
          rintro e w11 ⟨rfl,rfl⟩
          go_wp2_with fail
          clear z0 z1 z2 sB
          refine H2.gI [0,1,2,3,4,5,6,7,8,9,10,11,12,13,14] (fun W=>Kept (fun q=>(Value.slice va l.length vc).ownBlock=some q) W9 W) (by kernel_rfl) (by kernel_rfl) rfl (Kept.refl _ _).drew ?_
          simp only[List.map_cons,List.map_nil,List.getElem?_toArray,List.getElem?_cons_zero,List.getElem?_cons_succ,Option.getD_some]
          iterate 11 (first|(apply H2.fB rfl rfl;(intro W;go_simp;rfl);go_frame)|(apply H2.l7 rfl rfl rfl;(intro W hW;have oW:=hW.cell (p:=⟨w3.heap.size+1+1,ph,none⟩) Y.out.2.2.1 Y.out.2.1;have xW:=hW.heap Y.out.1 Y.out.2.2.2.1;have m0:=cells_at xW (j:=0) rfl;have m1:=cells_at xW (j:=1) rfl;have m2:=cells_at xW (j:=2) rfl;clear xW;go_simp;rfl);go_frame))
          apply H2.l9 rfl rfl rfl
          intro K hK
          go_wp2_with fail
          refine hK _ _ (fun _=>(Kept.refl _ _).drew.alloc _) ?_
          clear hK
          apply H2.l9 rfl rfl rfl
          intro K hK
          have ZG:=G1.out
          have he1: ∀(b:Act),b.tmps[95]?=some (Value.slice va l.length vc)->b.eval (.tmp 95)=Value.slice va l.length vc:=fun b hb=>by simp[Act.eval,Array.getD_eq_getD_getElem?,hb]
          have he2: ∀(b:Act),b.tmps[101]?=some (Value.slice (some ⟨W9.heap.size,0,none⟩) 1 1)->b.eval (.tmp 101)=Value.slice (some ⟨W9.heap.size,0,none⟩) 1 1:=fun b hb=>by simp[Act.eval,Array.getD_eq_getD_getElem?,hb]
          refine xI (.tmp 95) (.tmp 101) 78 rfl (.slice va l.length vc) (.slice (some ⟨W9.heap.size,0,none⟩) 1 1) (.slice a (l.length+1) cap) (he1 _ (by simp)) (he2 _ (by simp)) ZG ?_
          refine hK _ _ (fun _=>Y.out.2.2.2.2) ?_
          clear hK
          go_frame
          apply H2.fB rfl rfl
          ·intro W;go_simp;rfl
          go_frame
          apply H2.jH rfl rfl rfl
          intro K2 hK2
          go_wp2_with fail
          apply H2.oC
          clear ws wf
          go_wp2_with fail
          go_roundg (O.length-(m+1))
          case rel=>exact⟨m+1,_,by omega,by go_num,Nat.le_refl _,F.out.2.1,F.out.2.2.1,F.out.2.2.2⟩
          case measure=>have:=F.out.1;omega
         ·have hn2:O.take m=O:=List.take_of_length_le (by omega)
          rw[hn2]at hcq
          have F:=Lib.hid hcq
          clear hgm hcq hrd hbl
          go_wp2_with fail
          go_roundg (n-(k+1))
          case rel=>exact⟨k+1,by omega,by go_num,Nat.le_refl _, .inl ⟨V,Pv,(s2.1,T2),o++O,tv2,Vb,CG,PX,DR,Z.out.2.2.2.2.symm,by rw[List.length_append];have:=GG.out.2.1;have:=Z.out.2.2.2.1.2.2.2;omega,F.out⟩⟩
          case measure=>have:=GG.out.1;omega
       ·have cE:=cells_at he2 (j:=0) (v:= .int .i64 er) rfl
        have TE:=Lib.hid (And.intro he2 (And.intro (k7.heap G.out.2.2.2.1.res VR) (And.intro hk2 (And.intro (show R= .error er by rw[<-G.out.2.1,G.out.2.2.2.2.2.2.2,Ny]) hne2))))
        obtain⟨wE,rfl⟩: ∃wE:World,wE=w7:=⟨_,rfl⟩
        clear k7 he2 hk2 Ny
        go_wp2_with fail
        clear cE hne2
        (with_reducible refine(vN _ _ _ _ _ er wE TE.out.1 TE.out.2.2.2.2).mono ?_)
        rintro e wF ⟨rfl,kF⟩
        have gE:=kF.heap TE.out.1 (fun h=>h)
        have g8:=kF.heap TE.out.2.1 (fun h=>h)
        have cE:=cells_at gE (j:=0) (v:= .int .i64 er) rfl
        have x0:=cells_at g8 (j:=0) (v:= .int .i64 0) rfl
        have x1:=cells_at g8 (j:=1) (v:= .slice none 0 0) rfl
        have f0:=free_at g8 0
        have f1:=free_at g8 1
        have hne:=TE.out.2.2.2.2
        have xZ: ¬w3.heap.size+1=w.heap.size+1+1:=by have:=MS.out.2.2.1;have:=MS.out.2.2.2;omega
        obtain⟨q0,q1,kE⟩:=jG (w:=w) g8 (TE.out.2.2.1.trans kF) (by omega) (.int .i64 0) (.slice none 0 0)
        have F:=Lib.hid (show xG wj w R (.returned (.tuple #[.agg #[.int .i64 0, .slice none 0 0], .pointer none, .slice none 0 0, .int .i64 er])) ((wF.setCell ⟨w.heap.size+1+1,0,none⟩ (.int .i64 0)).setCell ⟨w.heap.size+1+1,1,none⟩ (.slice none 0 0)).drew from by
         rw[TE.out.2.2.2.1]
         exact⟨rfl,hne,kE.drew⟩)
        have kS:Kept (one (w.heap.size+1+1)) wF ((wF.setCell ⟨w.heap.size+1+1,0,none⟩ (.int .i64 0)).setCell ⟨w.heap.size+1+1,1,none⟩ (.slice none 0 0)):=((Kept.refl (one (w.heap.size+1+1)) _).setCell (p:=⟨w.heap.size+1+1,0,none⟩) (.inl rfl) _).setCell (p:=⟨w.heap.size+1+1,1,none⟩) (.inl rfl) _
        have Q:=Lib.hid (And.intro q0 (And.intro q1 kS))
        clear q0 q1 kE kS kF gE g8
        go_wp2_with fail
        refine ak [0,1,2,3,4,5] (fun W=>Kept (one (w.heap.size+1+1)) wF W) (by kernel_rfl) (by kernel_rfl) rfl (Kept.refl _ _).drew ?_
        simp only[List.map_cons,List.map_nil,List.getElem?_toArray,List.getElem?_cons_zero,List.getElem?_cons_succ,Option.getD_some]
        iterate 2 (apply aj rfl rfl;(intro W hW;have cW:=hW.cell (p:=⟨w3.heap.size+1,0,none⟩) xZ cE;go_simp;rfl);go_frame)
        apply aA rfl rfl
        intro K hK
        go_wp2_with fail
        refine hK _ _ (fun _=>Q.out.2.2.drew) ?_
        clear hK
        iterate 3 (apply aj rfl rfl;(intro W hW;go_simp;rfl);go_frame)
        refine aG (fun _=>Q.out.2.2.drew) ?_
        go_wp2_with fail
        refine bodyPost_ret (v:= .tuple #[.agg #[.int .i64 0, .slice none 0 0], .pointer none, .slice none 0 0, .int .i64 er]) (by have q0:((wF.setCell ⟨w.heap.size+1+1,0,none⟩ (.int .i64 0)).setCell ⟨w.heap.size+1+1,1,none⟩ (.slice none 0 0)).drew.cell? ⟨w.heap.size+1+1,0,none⟩=_:=Q.out.1;have q1:((wF.setCell ⟨w.heap.size+1+1,0,none⟩ (.int .i64 0)).setCell ⟨w.heap.size+1+1,1,none⟩ (.slice none 0 0)).drew.cell? ⟨w.heap.size+1+1,1,none⟩=_:=Q.out.2.1;simp[results,Tryz.results69,go_sem,q0,q1]) rfl (by rw[HR.out];exact F.out)
      ·have hkn2:k=n:=by omega
       subst hkn2
       have ct:=Lc (k:Int) wj w _ _ _ _ _ ts' s tv nv bi mi pm wm MS.out.2.1 (fun q hq=> .inl (.inl hq)) (fun q hq=>hc.lt hq) hc.st
       have hdr:((L.map dI).take k).drop k=[]:=List.drop_eq_nil_of_le (by rw[List.length_take];omega)
       rw[hdr]at hgo
       have G:=Lib.hid (And.intro hgo (And.intro ho hc))
       clear hgo ho hc hdr hg
       go_wp2_with fail
       (with_reducible refine ct.mono ?_)
       clear ct
       rintro e w7 ⟨rfl,k7,hor⟩
       obtain⟨hgo,ho,hc⟩:=G.out
       rcases hor with⟨Pv,s2,tv2,Vb,CG,PX,DR,Nw,hst2⟩|⟨er,Ny,hne2,he2,hk2⟩
       ·skip
        have h5:=hst2.i
        have gJ:=hst2.j
        have gD:=hst2.d
        have g8:=k7.heap hc.res VR
        obtain⟨oZ,vY,Nb,-⟩:=hst2.jb.lM.at
        subst Nb
        have y0:=cells_at gJ (j:=0) (v:= .int .i64 s2.1.par) rfl
        have y1:=cells_at gJ (j:=1) (v:= .slice oZ s2.1.nodes.length vY) rfl
        have y2:=cells_at gD (j:=0) (v:= .pointer (some ⟨CG,0,none⟩)) rfl
        have cE:=cells_at hst2.e (j:=0) (v:= .int .i64 0) rfl
        have x0:=cells_at g8 (j:=0) (v:= .int .i64 0) rfl
        have x1:=cells_at g8 (j:=1) (v:= .slice none 0 0) rfl
        have f0:=free_at g8 0
        have f1:=free_at g8 1
        have aco: ¬wz.heap.size=w.heap.size+1+1:=by have:=MS.out.2.2.2;omega
        have afF: ¬w3.heap.size=w.heap.size+1+1:=by have:=MS.out.2.2.1;have:=MS.out.2.2.2;omega
        obtain⟨q0,q1,kE⟩:=jG (w:=w) g8 hst2.kept (by omega) (.int .i64 s2.1.par) (.slice oZ s2.1.nodes.length vY)
        have kS:Kept (one (w.heap.size+1+1)) w7 ((w7.setCell ⟨w.heap.size+1+1,0,none⟩ (.int .i64 s2.1.par)).setCell ⟨w.heap.size+1+1,1,none⟩ (.slice oZ s2.1.nodes.length vY)):=((Kept.refl (one (w.heap.size+1+1)) _).setCell (p:=⟨w.heap.size+1+1,0,none⟩) (.inl rfl) _).setCell (p:=⟨w.heap.size+1+1,1,none⟩) (.inl rfl) _
        have hc2:=hc.turned VR k7 hst2
        have n8o:=Gq hc2.out hc2.res (by decide) (by decide)
        have F:=Lib.hid (show xG wj w R (.returned (.tuple #[.agg #[.int .i64 s2.1.par, .slice oZ s2.1.nodes.length vY], .pointer (some ⟨CG,0,none⟩), .slice (some ⟨w3.heap.size+1+1,0,none⟩) 2 2, .int .i64 0])) ((w7.setCell ⟨w.heap.size+1+1,0,none⟩ (.int .i64 s2.1.par)).setCell ⟨w.heap.size+1+1,1,none⟩ (.slice oZ s2.1.nodes.length vY)).drew from by
         rw[<-hgo,aaP Nw]
         have afI: ¬PX=w.heap.size+1+1:=fun h=>hst2.tabs.at_.abA _ _ _ (h▸hc2.res)
         have afO: ¬CG=w.heap.size+1+1:=fun h=>by
          have e:=hst2.i
          rw[h,hc2.res]at e
          injection e with e
          injection e with _ e _
          exact absurd e (by decide)
         exact⟨_,CG,PX,DR,_,V,rfl,hst2.jb,hst2.ok,hst2.tk,kS.drew.heap hst2.i afO,((hst2.tabs.Ef (fun q (hq:q=_) hn=>hn (.inl (.inr hq))) afI kS).mono (fun q hq _ ho=>hq (.inr ho))).pure (Kept.refl none' _).drew,fun ho=>hst2.nb (.inr ho),fun ho=>hst2.nm (.inr ho),hst2.lb,hst2.lm,hst2.nt,hc2.out.fH kS.drew (fun q hq (h:q=_)=>n8o (h▸hq)),by have:=MS.out.2.2.1;have:=MS.out.2.2.2;omega,kE.drew,by show o.length<=3840;have:=H.out.2.2.2.2.1;omega⟩)
        have Q:=Lib.hid (And.intro q0 (And.intro q1 kS))
        clear q0 q1 kE kS h5 gJ gD g8 hc hc2 hst2 k7 hgo Nw n8o ho
        go_wp2_with fail
        refine ak [0,1,2,3,4,5,6] (fun W=>Kept (one (w.heap.size+1+1)) w7 W) (by kernel_rfl) (by kernel_rfl) rfl (Kept.refl _ _).drew ?_
        simp only[List.map_cons,List.map_nil,List.getElem?_toArray,List.getElem?_cons_zero,List.getElem?_cons_succ,Option.getD_some]
        iterate 3 (apply aj rfl rfl;(intro W hW;have cW0:=hW.cell (p:=⟨wz.heap.size,0,none⟩) aco y0;have cW1:=hW.cell (p:=⟨wz.heap.size,1,none⟩) aco y1;have cW2:=hW.cell (p:=⟨w3.heap.size,0,none⟩) afF y2;go_simp;rfl);go_frame)
        apply aA rfl rfl
        intro K hK
        go_wp2_with fail
        refine hK _ _ (fun _=>Q.out.2.2.drew) ?_
        clear hK
        iterate 3 (apply aj rfl rfl;(intro W hW;go_simp;rfl);go_frame)
        refine aG (fun _=>Q.out.2.2.drew) ?_
        go_wp2_with fail
        refine bodyPost_ret (v:= .tuple #[.agg #[.int .i64 s2.1.par, .slice oZ s2.1.nodes.length vY], .pointer (some ⟨CG,0,none⟩), .slice (some ⟨w3.heap.size+1+1,0,none⟩) 2 2, .int .i64 0]) (by have q0:((w7.setCell ⟨w.heap.size+1+1,0,none⟩ (.int .i64 s2.1.par)).setCell ⟨w.heap.size+1+1,1,none⟩ (.slice oZ s2.1.nodes.length vY)).drew.cell? ⟨w.heap.size+1+1,0,none⟩=_:=Q.out.1;have q1:((w7.setCell ⟨w.heap.size+1+1,0,none⟩ (.int .i64 s2.1.par)).setCell ⟨w.heap.size+1+1,1,none⟩ (.slice oZ s2.1.nodes.length vY)).drew.cell? ⟨w.heap.size+1+1,1,none⟩=_:=Q.out.2.1;simp[results,Tryz.results69,go_sem,q0,q1]) rfl (by rw[HR.out];exact F.out)
       ·have TE:=Lib.hid (And.intro he2 (And.intro (k7.heap hc.res VR) (And.intro hk2 (And.intro (show R= .error er by rw[<-hgo,YP Ny]) hne2))))
        obtain⟨wE,rfl⟩: ∃wE:World,wE=w7:=⟨_,rfl⟩
        clear k7 he2 hk2 Ny hne2 hgo ho hc G
        obtain⟨wF,hwF⟩: ∃wF:World,wF=wE:=⟨_,rfl⟩
        have kF:Kept none' wE wF:=by rw[hwF];exact Kept.refl _ _
        rw[<-hwF]
        clear hwF
        have gE:=kF.heap TE.out.1 (fun h=>h)
        have g8:=kF.heap TE.out.2.1 (fun h=>h)
        have cE:=cells_at gE (j:=0) (v:= .int .i64 er) rfl
        have x0:=cells_at g8 (j:=0) (v:= .int .i64 0) rfl
        have x1:=cells_at g8 (j:=1) (v:= .slice none 0 0) rfl
        have f0:=free_at g8 0
        have f1:=free_at g8 1
        have hne:=TE.out.2.2.2.2
        have xZ: ¬w3.heap.size+1=w.heap.size+1+1:=by have:=MS.out.2.2.1;have:=MS.out.2.2.2;omega
        obtain⟨q0,q1,kE⟩:=jG (w:=w) g8 (TE.out.2.2.1.trans kF) (by omega) (.int .i64 0) (.slice none 0 0)
        have F:=Lib.hid (show xG wj w R (.returned (.tuple #[.agg #[.int .i64 0, .slice none 0 0], .pointer none, .slice none 0 0, .int .i64 er])) ((wF.setCell ⟨w.heap.size+1+1,0,none⟩ (.int .i64 0)).setCell ⟨w.heap.size+1+1,1,none⟩ (.slice none 0 0)).drew from by
         rw[TE.out.2.2.2.1]
         exact⟨rfl,hne,kE.drew⟩)
        have kS:Kept (one (w.heap.size+1+1)) wF ((wF.setCell ⟨w.heap.size+1+1,0,none⟩ (.int .i64 0)).setCell ⟨w.heap.size+1+1,1,none⟩ (.slice none 0 0)):=((Kept.refl (one (w.heap.size+1+1)) _).setCell (p:=⟨w.heap.size+1+1,0,none⟩) (.inl rfl) _).setCell (p:=⟨w.heap.size+1+1,1,none⟩) (.inl rfl) _
        have Q:=Lib.hid (And.intro q0 (And.intro q1 kS))
        clear q0 q1 kE kS kF gE g8
        go_wp2_with fail
        refine ak [0,1,2,3,4,5] (fun W=>Kept (one (w.heap.size+1+1)) wF W) (by kernel_rfl) (by kernel_rfl) rfl (Kept.refl _ _).drew ?_
        simp only[List.map_cons,List.map_nil,List.getElem?_toArray,List.getElem?_cons_zero,List.getElem?_cons_succ,Option.getD_some]
        iterate 2 (apply aj rfl rfl;(intro W hW;have cW:=hW.cell (p:=⟨w3.heap.size+1,0,none⟩) xZ cE;go_simp;rfl);go_frame)
        apply aA rfl rfl
        intro K hK
        go_wp2_with fail
        refine hK _ _ (fun _=>Q.out.2.2.drew) ?_
        clear hK
        iterate 3 (apply aj rfl rfl;(intro W hW;go_simp;rfl);go_frame)
        refine aG (fun _=>Q.out.2.2.drew) ?_
        go_wp2_with fail
        refine bodyPost_ret (v:= .tuple #[.agg #[.int .i64 0, .slice none 0 0], .pointer none, .slice none 0 0, .int .i64 er]) (by have q0:((wF.setCell ⟨w.heap.size+1+1,0,none⟩ (.int .i64 0)).setCell ⟨w.heap.size+1+1,1,none⟩ (.slice none 0 0)).drew.cell? ⟨w.heap.size+1+1,0,none⟩=_:=Q.out.1;have q1:((wF.setCell ⟨w.heap.size+1+1,0,none⟩ (.int .i64 0)).setCell ⟨w.heap.size+1+1,1,none⟩ (.slice none 0 0)).drew.cell? ⟨w.heap.size+1+1,1,none⟩=_:=Q.out.2.1;simp[results,Tryz.results69,go_sem,q0,q1]) rfl (by rw[HR.out];exact F.out)
     ·have TE:=Lib.hid (And.intro he (And.intro h8 (And.intro hk0 (And.intro hR hne))))
      by_cases hlt:k<n
      ·obtain⟨r,hrk⟩: ∃r,L[k]?=some r:=⟨_,List.getElem?_eq_getElem (by omega)⟩
       obtain⟨lb,yR,rfl,hlc⟩:=H.out.2.2.1.resolve_left (fun h=>by rw[h]at VG;simp at VG;omega)
       obtain⟨c0,c1,c2⟩:=(hlc k r hrk).pure hk0
       have ka:Kept none' wm (wm.alloc (.cells #[.int .i64 r.pos, .int .i64 r.key, .int .i64 r.val] 86)):=(Kept.refl _ _).alloc _
       obtain⟨W6,nJ⟩: ∃W6,wm.alloc (.cells #[.int .i64 r.pos, .int .i64 r.key, .int .i64 r.val] 86)=W6:=⟨_,rfl⟩
       rw[nJ]at ka
       have ct:=vN (k:Int) _ (w.heap.size+1) wz.heap.size w3.heap.size er W6 (ka.heap he (fun h=>h)) hne
       have KA:=Lib.hid ka
       clear hrk hlc ka he h8 hk0 hR hne hg
       go_wp2_with fail
       try rw[nJ]
       clear nJ c0 c1 c2
       (with_reducible refine ct.mono ?_)
       clear ct
       rintro e wE ⟨rfl,k7⟩
       have TE:=Lib.hid (And.intro ((KA.out.trans k7).heap TE.out.1 (fun h=>h)) (And.intro ((KA.out.trans k7).heap TE.out.2.1 (fun h=>h)) (And.intro (TE.out.2.2.1.trans (KA.out.trans k7)) TE.out.2.2.2)))
       have cE:=cells_at TE.out.1 (j:=0) (v:= .int .i64 er) rfl
       have hne2:=TE.out.2.2.2.2
       clear k7
       go_wp2_with fail
       clear cE hne2
       (with_reducible refine(vN _ _ _ _ _ er wE TE.out.1 TE.out.2.2.2.2).mono ?_)
       rintro e wF ⟨rfl,kF⟩
       have gE:=kF.heap TE.out.1 (fun h=>h)
       have g8:=kF.heap TE.out.2.1 (fun h=>h)
       have cE:=cells_at gE (j:=0) (v:= .int .i64 er) rfl
       have x0:=cells_at g8 (j:=0) (v:= .int .i64 0) rfl
       have x1:=cells_at g8 (j:=1) (v:= .slice none 0 0) rfl
       have f0:=free_at g8 0
       have f1:=free_at g8 1
       have hne:=TE.out.2.2.2.2
       have xZ: ¬w3.heap.size+1=w.heap.size+1+1:=by have:=MS.out.2.2.1;have:=MS.out.2.2.2;omega
       obtain⟨q0,q1,kE⟩:=jG (w:=w) g8 (TE.out.2.2.1.trans kF) (by omega) (.int .i64 0) (.slice none 0 0)
       have F:=Lib.hid (show xG wj w R (.returned (.tuple #[.agg #[.int .i64 0, .slice none 0 0], .pointer none, .slice none 0 0, .int .i64 er])) ((wF.setCell ⟨w.heap.size+1+1,0,none⟩ (.int .i64 0)).setCell ⟨w.heap.size+1+1,1,none⟩ (.slice none 0 0)).drew from by
        rw[TE.out.2.2.2.1]
        exact⟨rfl,hne,kE.drew⟩)
       have kS:Kept (one (w.heap.size+1+1)) wF ((wF.setCell ⟨w.heap.size+1+1,0,none⟩ (.int .i64 0)).setCell ⟨w.heap.size+1+1,1,none⟩ (.slice none 0 0)):=((Kept.refl (one (w.heap.size+1+1)) _).setCell (p:=⟨w.heap.size+1+1,0,none⟩) (.inl rfl) _).setCell (p:=⟨w.heap.size+1+1,1,none⟩) (.inl rfl) _
       have Q:=Lib.hid (And.intro q0 (And.intro q1 kS))
       clear q0 q1 kE kS kF gE g8
       go_wp2_with fail
       refine ak [0,1,2,3,4,5] (fun W=>Kept (one (w.heap.size+1+1)) wF W) (by kernel_rfl) (by kernel_rfl) rfl (Kept.refl _ _).drew ?_
       simp only[List.map_cons,List.map_nil,List.getElem?_toArray,List.getElem?_cons_zero,List.getElem?_cons_succ,Option.getD_some]
       iterate 2 (apply aj rfl rfl;(intro W hW;have cW:=hW.cell (p:=⟨w3.heap.size+1,0,none⟩) xZ cE;go_simp;rfl);go_frame)
       apply aA rfl rfl
       intro K hK
       go_wp2_with fail
       refine hK _ _ (fun _=>Q.out.2.2.drew) ?_
       clear hK
       iterate 3 (apply aj rfl rfl;(intro W hW;go_simp;rfl);go_frame)
       refine aG (fun _=>Q.out.2.2.drew) ?_
       go_wp2_with fail
       refine bodyPost_ret (v:= .tuple #[.agg #[.int .i64 0, .slice none 0 0], .pointer none, .slice none 0 0, .int .i64 er]) (by have q0:((wF.setCell ⟨w.heap.size+1+1,0,none⟩ (.int .i64 0)).setCell ⟨w.heap.size+1+1,1,none⟩ (.slice none 0 0)).drew.cell? ⟨w.heap.size+1+1,0,none⟩=_:=Q.out.1;have q1:((wF.setCell ⟨w.heap.size+1+1,0,none⟩ (.int .i64 0)).setCell ⟨w.heap.size+1+1,1,none⟩ (.slice none 0 0)).drew.cell? ⟨w.heap.size+1+1,1,none⟩=_:=Q.out.2.1;simp[results,Tryz.results69,go_sem,q0,q1]) rfl (by rw[HR.out];exact F.out)
      ·have hkn2:k=n:=by omega
       subst hkn2
       obtain⟨wE,rfl⟩: ∃wE:World,wE=wm:=⟨_,rfl⟩
       clear he h8 hk0 hR hne hg
       go_wp2_with fail
       (with_reducible refine(vN _ _ _ _ _ er wE TE.out.1 TE.out.2.2.2.2).mono ?_)
       rintro e wF ⟨rfl,kF⟩
       have gE:=kF.heap TE.out.1 (fun h=>h)
       have g8:=kF.heap TE.out.2.1 (fun h=>h)
       have cE:=cells_at gE (j:=0) (v:= .int .i64 er) rfl
       have x0:=cells_at g8 (j:=0) (v:= .int .i64 0) rfl
       have x1:=cells_at g8 (j:=1) (v:= .slice none 0 0) rfl
       have f0:=free_at g8 0
       have f1:=free_at g8 1
       have hne:=TE.out.2.2.2.2
       have xZ: ¬w3.heap.size+1=w.heap.size+1+1:=by have:=MS.out.2.2.1;have:=MS.out.2.2.2;omega
       obtain⟨q0,q1,kE⟩:=jG (w:=w) g8 (TE.out.2.2.1.trans kF) (by omega) (.int .i64 0) (.slice none 0 0)
       have F:=Lib.hid (show xG wj w R (.returned (.tuple #[.agg #[.int .i64 0, .slice none 0 0], .pointer none, .slice none 0 0, .int .i64 er])) ((wF.setCell ⟨w.heap.size+1+1,0,none⟩ (.int .i64 0)).setCell ⟨w.heap.size+1+1,1,none⟩ (.slice none 0 0)).drew from by
        rw[TE.out.2.2.2.1]
        exact⟨rfl,hne,kE.drew⟩)
       have kS:Kept (one (w.heap.size+1+1)) wF ((wF.setCell ⟨w.heap.size+1+1,0,none⟩ (.int .i64 0)).setCell ⟨w.heap.size+1+1,1,none⟩ (.slice none 0 0)):=((Kept.refl (one (w.heap.size+1+1)) _).setCell (p:=⟨w.heap.size+1+1,0,none⟩) (.inl rfl) _).setCell (p:=⟨w.heap.size+1+1,1,none⟩) (.inl rfl) _
       have Q:=Lib.hid (And.intro q0 (And.intro q1 kS))
       clear q0 q1 kE kS kF gE g8
       go_wp2_with fail
       refine ak [0,1,2,3,4,5] (fun W=>Kept (one (w.heap.size+1+1)) wF W) (by kernel_rfl) (by kernel_rfl) rfl (Kept.refl _ _).drew ?_
       simp only[List.map_cons,List.map_nil,List.getElem?_toArray,List.getElem?_cons_zero,List.getElem?_cons_succ,Option.getD_some]
       iterate 2 (apply aj rfl rfl;(intro W hW;have cW:=hW.cell (p:=⟨w3.heap.size+1,0,none⟩) xZ cE;go_simp;rfl);go_frame)
       apply aA rfl rfl
       intro K hK
       go_wp2_with fail
       refine hK _ _ (fun _=>Q.out.2.2.drew) ?_
       clear hK
       iterate 3 (apply aj rfl rfl;(intro W hW;go_simp;rfl);go_frame)
       refine aG (fun _=>Q.out.2.2.drew) ?_
       go_wp2_with fail
       refine bodyPost_ret (v:= .tuple #[.agg #[.int .i64 0, .slice none 0 0], .pointer none, .slice none 0 0, .int .i64 er]) (by have q0:((wF.setCell ⟨w.heap.size+1+1,0,none⟩ (.int .i64 0)).setCell ⟨w.heap.size+1+1,1,none⟩ (.slice none 0 0)).drew.cell? ⟨w.heap.size+1+1,0,none⟩=_:=Q.out.1;have q1:((wF.setCell ⟨w.heap.size+1+1,0,none⟩ (.int .i64 0)).setCell ⟨w.heap.size+1+1,1,none⟩ (.slice none 0 0)).drew.cell? ⟨w.heap.size+1+1,1,none⟩=_:=Q.out.2.1;simp[results,Tryz.results69,go_sem,q0,q1]) rfl (by rw[HR.out];exact F.out)
end Go.Proofs.YtopeleenlcnkkaaGreatDoor
