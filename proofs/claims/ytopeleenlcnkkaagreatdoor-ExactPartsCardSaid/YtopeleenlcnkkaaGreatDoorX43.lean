/- move.Carry: what is carried. -/
import Derived.Test.YtopeleenlcnkkaaGreatDoorX42
set_option linter.unusedVariables false
set_option linter.unusedSimpArgs false
set_option maxHeartbeats 4000000
set_option maxRecDepth 100000
namespace Go.Proofs.YtopeleenlcnkkaaGreatDoor
section
open Go Go.RowKit
attribute [local irreducible] bU dL H2.cZ
theorem Rz {l:List St}{k:Nat}{s:St}(h:l[k]?=some s):gW (l.take (k+1))=gW (l.take k)++if nI s.2=[]then[]else[s]:=by
 unfold gW
 rw[List.take_add_one,h,Option.toList_some,List.filter_append]
 by_cases e:nI s.2=[]
 ·simp[e]
 ·simp[e]
theorem Yl (l:List St):(gW l).length<=l.length:=by unfold gW;exact List.length_filter_le _ _
theorem SE {a b:Jb}{l:List St}(h:(dJ a b l).2=0): ∃Ts,bJ a l= .ok Ts:=by
 unfold dJ at h
 cases e:bJ a l with
 |ok Ts=>exact⟨Ts,rfl⟩
 |error er=>rw[e]at h;exact absurd h (Ye e)
theorem DK (w:World):Calls Tryz.prog 21 #[.pointer none] w fun e w'=>e= .returned (.slice none 0 0)/\w'=w:=by
 go_enter Tryz.func21,Tryz.ntmps21
 go_wp2_with fail
 go_ret
 exact⟨rfl,rfl⟩
def AX (w:World)(r:Except Int (List St))(e:Ending)(w':World):Prop:=
 match r with
 | .ok x=> ∃v,e= .returned (.tuple #[v, .int .i64 0])/\Reads w' 2 v (gX x)/\Kept none' w w'
 | .error er=>e= .returned (.tuple #[.slice none 0 0, .int .i64 er])/\er≠0/\Kept none' w w'
theorem WS (a b:Jb)(va vb sv:Value)(l:List St)(w:World)(ha:bZ w #[.int .i64 a.par,va] a)(hb:bZ w #[.int .i64 b.par,vb] b)(hs:Reads w 2 sv (gX l))(hsz: ∀s∈l,s.1.size<=maxLen/\s.2.size<=maxLen)(hl1000:l.length<=1000):
 Calls Tryz.prog 17 #[.agg #[.int .i64 a.par,va], .agg #[.int .i64 b.par,vb],sv] w (AX w (jA a b l)):=by
 obtain⟨na,bW,hva,-⟩:=ha.lM.at
 obtain⟨mb,nU,hvb,-⟩:=hb.lM.at
 obtain⟨sa,scap,hsv,s1,s2,s3⟩:=hs.yI
 subst hva hvb hsv
 unfold maxLen at s2
 have kA:Kept none' w ((w.alloc (.cells #[.int .i64 a.par, .slice na a.nodes.length bW] 24)).alloc (.cells #[.int .i64 b.par, .slice mb b.nodes.length nU] 24)):=((Kept.refl _ _).alloc _).alloc _
 have t0:((w.alloc (.cells #[.int .i64 a.par, .slice na a.nodes.length bW] 24)).alloc (.cells #[.int .i64 b.par, .slice mb b.nodes.length nU] 24)).heap[w.heap.size]?=some (.cells #[.int .i64 a.par, .slice na a.nodes.length bW] 24 (0,0)):=((Kept.refl none' _).alloc _).heap (heap_alloc_new w _) (fun h=>h)
 have t1:((w.alloc (.cells #[.int .i64 a.par, .slice na a.nodes.length bW] 24)).alloc (.cells #[.int .i64 b.par, .slice mb b.nodes.length nU] 24)).heap[w.heap.size+1]?=some (.cells #[.int .i64 b.par, .slice mb b.nodes.length nU] 24 (0,0)):=by
  have:=heap_alloc_new (w.alloc (.cells #[.int .i64 a.par, .slice na a.nodes.length bW] 24)) (.cells #[.int .i64 b.par, .slice mb b.nodes.length nU] 24)
  rwa[World.size_alloc]at this
 obtain⟨W1,hW1⟩: ∃W1,((w.alloc (.cells #[.int .i64 a.par, .slice na a.nodes.length bW] 24)).alloc (.cells #[.int .i64 b.par, .slice mb b.nodes.length nU] 24))=W1:=⟨_,rfl⟩
 rw[hW1]at kA t0 t1
 have cc:=check_any a b _ _ _ l W1 (ha.pure kA) (hb.pure kA) (hs.pure kA) hsz
 have H:=Lib.hid (And.intro hb (And.intro hsz (And.intro kA (And.intro t1 s3))))
 have HW:=Lib.hid hW1
 clear ha hb hs hsz kA t0 t1 hW1 s3
 go_enter Tryz.func17,Tryz.ntmps17
 go_wp2_with fail
 rw[HW.out]
 clear HW
 (with_reducible refine cc.mono ?_)
 clear cc
 rintro e w2 ⟨rfl,k2⟩
 by_cases hz:(dJ a b l).2=0
 ·have HZ:=Lib.hid hz
  have hload:=SE hz
  obtain⟨Ts,hload⟩:=hload
  have EACH:=Lib.hid (D7 hload)
  rw[hz]
  have K2:=Lib.hid k2
  clear hload hz k2
  go_wp2_with fail
  go_loopg [10,29] l.length (fun g vo vi wr=> ∃(k:Nat),k<=l.length/\vi= .int .i64 (k:Int)/\l.length-k<=g/\wr.ownsRow W1.heap.size 33 2 vo (gW (l.take k)).length (gX (gW (l.take k)))/\Kept none' W1 wr)
  case atStart=>exact⟨0,by omega,rfl,by omega,World.ownsRow_nil _ _ _ _,K2.out⟩
  case round=>
   obtain⟨k,hkl,rfl,hg,hown,hkp⟩:=hrel
   obtain⟨wo,rfl⟩: ∃wo:World,wo=wr:=⟨_,rfl⟩
   obtain⟨oa,oc,rfl⟩:=ay hown
   by_cases hlt:k<l.length
   ·obtain⟨s,hs⟩: ∃s,l[k]?=some s:=⟨_,List.getElem?_eq_getElem hlt⟩
    obtain⟨bs,L6,rfl,hcs⟩:=H.out.2.2.2.2.resolve_left (fun h=>by rw[h]at hlt;simp at hlt)
    have kw:=H.out.2.2.1.trans hkp
    have y0:=kw.cell (fun h=>h) (hcs k s hs).1
    have y1:=kw.cell (fun h=>h) (hcs k s hs).2
    obtain⟨_,T,rest,htk⟩:=EACH.out s (List.mem_of_getElem? hs)
    have Qi:nI s.2=T:=by unfold nI;rw[htk]
    have Ai:=H.out.2.1 s (List.mem_of_getElem? hs)
    have hsn:=Rz hs
    rw[Qi]at hsn
    have ka:Kept none' wo (wo.alloc (.cells #[.string s.1, .string s.2] 33)):=(Kept.refl _ _).alloc _
    have sB:(wo.alloc (.cells #[.string s.1, .string s.2] 33)).heap[wo.heap.size]?=some (.cells #[.string s.1, .string s.2] 33 (0,0)):=heap_alloc_new _ _
    obtain⟨W4,eX⟩: ∃W4,wo.alloc (.cells #[.string s.1, .string s.2] 33)=W4:=⟨_,rfl⟩
    rw[eX]at ka sB
    have z0:=cells_at sB (j:=0) (v:= .string s.1) rfl
    have z1:=cells_at sB (j:=1) (v:= .string s.2) rfl
    have ct:=take_any s.2 Ai.2 W4
    unfold gK at ct
    rw[htk]at ct
    dsimp only at ct
    have hle:=Yl (l.take k)
    have G:=Lib.hid (And.intro hg (And.intro (hkp.trans ka) (And.intro (ka.owns hown (fun _ _ h=>h)) (And.intro sB hsn))))
    clear hg hkp ka sB htk Qi Ai hsn kw hcs hs hown
    go_wp2_with fail
    try rw[eX]
    clear eX y0 y1 z0 z1
    (with_reducible refine ct.mono ?_)
    clear ct
    rintro e w5 ⟨tb,tm,rfl,tT,k5⟩
    have ck:=uJ _ tb tm T w5 tT
    have K5:=Lib.hid k5
    clear tT k5
    go_wp2_with fail
    (with_reducible refine ck.mono ?_)
    clear ck
    rintro e w6 ⟨v6,rfl,hk6,-,k6⟩
    obtain⟨v6a,v6c,rfl⟩:=ay hk6
    have hkl2:(aP T).length=T.length:=by unfold aP;rw[List.length_map]
    rw[hkl2]
    have qL:=K5.out.trans k6
    have BI:=qL.heap G.out.2.2.2.1 (fun h=>h)
    have z0:=cells_at BI (j:=0) (v:= .string s.1) rfl
    have z1:=cells_at BI (j:=1) (v:= .string s.2) rfl
    have afx:wo.heap.size<w6.heap.size:=(Array.getElem?_eq_some_iff.1 BI).1
    have hown6:=qL.owns G.out.2.2.1 (fun _ _ h=>h)
    have Ac:=G.out.2.1.trans qL
    clear hk6 hkl2 k6 qL BI
    by_cases hT0:T=[]
    ·have hTl:T.length=0:=by rw[hT0];rfl
     rw[hTl]
     have F:=Lib.hid (show w6.ownsRow W1.heap.size 33 2 (.slice oa (gW (l.take k)).length oc) (gW (l.take (k+1))).length (gX (gW (l.take (k+1))))/\Kept none' W1 w6 from by
      rw[G.out.2.2.2.2,if_pos hT0,List.append_nil];exact⟨hown6,Ac⟩)
     clear hT0 hTl hown6 Ac z0 z1
     go_wp2_with fail
     go_roundg (l.length-(k+1))
     case rel=>exact⟨k+1,by omega,by go_num,Nat.le_refl _,F.out.1,F.out.2⟩
     case measure=>have:=G.out.1;omega
    ·have hTl:0<T.length:=Nat.pos_of_ne_zero (fun h=>hT0 (List.eq_nil_of_length_eq_zero h))
     obtain⟨v7,w7,g1,g2,g3,a7,c7,rfl⟩:=PK hown6 s Ac.size (by rw[List.length_take]at hle;omega)
     have Z:=Lib.hid (And.intro g1 (show w7.ownsRow W1.heap.size 33 2 (.slice a7 ((gW (l.take k)).length+1) c7) (gW (l.take (k+1))).length (gX (gW (l.take (k+1))))/\Kept none' W1 w7 from by
      rw[G.out.2.2.2.2,if_neg hT0,List.length_append,List.length_singleton]
      exact⟨g2,Ac.new g3 (fun i hi hs=>by have:=(hown6.lt i hs).1;omega)⟩))
     clear g1 g2 g3 hown6 Ac hT0
     go_wp2_with (at_builtin;refine gZ rfl (.tmp 43) (.tmp 45) 25 rfl _ _ _ rfl rfl Z.out.1 ?_)
     go_roundg (l.length-(k+1))
     case rel=>exact⟨k+1,by omega,by go_num,Nat.le_refl _,Z.out.2.1,Z.out.2.2⟩
     case measure=>have:=G.out.1;omega
   ·have e1:k=l.length:=by omega
    subst e1
    rw[List.take_of_length_le (Nat.le_refl _)]at hown
    rw[List.take_of_length_le (Nat.le_refl _)]
    have kw:=H.out.2.2.1.trans hkp
    have t1:=hkp.heap H.out.2.2.2.1 (fun h=>h)
    have r0:=cells_at t1 (j:=0) (v:= .int .i64 b.par) rfl
    have r1:=cells_at t1 (j:=1) (v:= .slice mb b.nodes.length nU) rfl
    have hsz1:w.heap.size+1<wo.heap.size:=(Array.getElem?_eq_some_iff.1 t1).1
    have cl:=MH b _ _ (gW l) wo (H.out.1.pure kw) (Reads.aZ hown) (fun s hs=>H.out.2.1 s ((List.mem_filter.1 hs).1))
    have G:=Lib.hid kw
    clear hown hkp hg hlt kw t1
    go_wp2_with fail
    (with_reducible refine cl.mono ?_)
    clear cl r0 r1
    intro e w3 hq
    unfold mM at hq
    cases hl:bJ b (gW l)with
    |error er=>
     rw[hl]at hq
     obtain⟨rfl,hne,k3⟩:=hq
     have cs:=DK w3
     have F:=Lib.hid (show AX w (jA a b l) (.returned (.tuple #[.slice none 0 0, .int .i64 er])) w3 from by
      unfold jA
      rw[if_neg (by rw[HZ.out];simp),hl]
      exact⟨rfl,hne,G.out.trans k3⟩)
     clear hl k3
     go_wp2_with fail
     (with_reducible refine cs.mono ?_)
     clear cs
     rintro e w4 ⟨rfl,rfl⟩
     go_wp2_with fail
     go_ret2
     exact F.out
    |ok Us=>
     rw[hl]at hq
     obtain⟨bi,mi,pm,rfl,hi,-,-,k3⟩:=hq
     obtain⟨hok,hT⟩:=xX hl
     have hsm:=xg hok
     have cs:=yH b bi mi Us pm w3 hi hT.len (by omega)
     have HL:=Lib.hid (And.intro hl (G.out.trans k3))
     clear hl k3 hi hok hT hsm
     go_wp2_with fail
     (with_reducible refine cs.mono ?_)
     clear cs
     rintro e w4 ⟨v4,rfl,hv4,-,k4⟩
     have F:=Lib.hid (show AX w (jA a b l) (.returned (.tuple #[v4, .int .i64 0])) w4 from by
      unfold jA
      rw[if_neg (by rw[HZ.out];simp),HL.out.1]
      exact⟨_,rfl,hv4,HL.out.2.trans k4⟩)
     obtain⟨v4a,v4c,rfl,-⟩:=hv4.yI
     clear hv4 k4
     go_wp2_with fail
     go_ret2
     exact F.out
 ·have F:=Lib.hid (show AX w (jA a b l) (.returned (.tuple #[.slice none 0 0, .int .i64 (dJ a b l).2])) w2 from by
   unfold jA
   rw[if_pos hz]
   exact⟨rfl,hz,H.out.2.2.1.trans k2⟩)
  obtain⟨er,her⟩: ∃er,(dJ a b l).2=er:=⟨_,rfl⟩
  rw[her]at hz F⊢
  clear k2 her
  go_wp2_with fail
  go_ret2
  exact F.out
end
section
open Go Go.RowKit
def dB (w:World)(v:Value)(ts:List Turn):Prop:=
 ∃a cap,v= .slice a ts.length cap/\ts.length<=cap/\cap<=maxLen/\
  (ts=[]\/ ∃b off,a=some ⟨b,off,none⟩/\ ∀(i:Nat)(t:Turn),ts[i]?=some t-> ∃va,w.cell? ⟨b,off+i*3,none⟩=some (.int .i64 t.1)/\w.cell? ⟨b,off+i*3+1,none⟩=some (.int .i64 t.2.par)/\w.cell? ⟨b,off+i*3+2,none⟩=some va/\bZ w #[.int .i64 t.2.par,va] t.2)
theorem dB.nil (w:World):dB w (.slice none 0 0) []:=⟨none,0,rfl,Nat.le_refl _,Nat.zero_le _, .inl rfl⟩
theorem dB.pure {w w':World}{v:Value}{ts:List Turn}(h:dB w v ts)(hk:Kept none' w w'):dB w' v ts:=by
 obtain⟨a,cap,rfl,h1,h2,h3⟩:=h
 refine⟨a,cap,rfl,h1,h2,?_⟩
 rcases h3 with h3|⟨b,off,rfl,h3⟩
 ·exact .inl h3
 ·refine .inr ⟨b,off,rfl,fun i t ht=>?_⟩
  obtain⟨va,c0,c1,c2,hj⟩:=h3 i t ht
  exact⟨va,hk.cell (fun h=>h) c0,hk.cell (fun h=>h) c1,hk.cell (fun h=>h) c2,hj.pure hk⟩
theorem dB.cons {w:World}{v:Value}{t:Turn}{ts:List Turn}(h:dB w v (t::ts)):
 ∃b off cap va,v= .slice (some ⟨b,off,none⟩) (ts.length+1) cap/\ts.length+1<=cap/\cap<=maxLen/\w.cell? ⟨b,off,none⟩=some (.int .i64 t.1)/\w.cell? ⟨b,off+1,none⟩=some (.int .i64 t.2.par)/\w.cell? ⟨b,off+2,none⟩=some va/\bZ w #[.int .i64 t.2.par,va] t.2/\
  ∀p c,ts.length<=c->c<=maxLen->(ts=[]\/p=some ⟨b,off+3,none⟩)->dB w (.slice p ts.length c) ts:=by
 obtain⟨a,cap,rfl,h1,h2,h3⟩:=h
 rcases h3 with h3|⟨b,off,rfl,h3⟩
 ·cases h3
 ·obtain⟨va,c0,c1,c2,hj⟩:=h3 0 t rfl
  simp only[Nat.zero_mul,Nat.add_zero]at c0 c1 c2
  refine⟨b,off,cap,va,by rw[List.length_cons],by simpa using h1,h2,c0,c1,c2,hj,fun p c hc1 hc2 hp=>⟨p,c,rfl,hc1,hc2,?_⟩⟩
  rcases hp with hp|rfl
  ·exact .inl hp
  ·refine .inr ⟨b,off+3,rfl,fun i u hu=>?_⟩
   obtain⟨vb,d0,d1,d2,hk⟩:=h3 (i+1) u (by simpa using hu)
   have e:off+(i+1)*3=off+3+i*3:=by omega
   rw[e]at d0 d1 d2
   exact⟨vb,d0,d1,d2,hk⟩
theorem dP.uids {w:World}{v:Value}{L:List JN}(h:dP w v L): ∀d∈L,d.uid.size<=maxLen:=fun d hd=>by
 obtain⟨cs,h1,h2,h3⟩:=h
 obtain⟨i,hi⟩:=List.getElem?_of_mem hd
 obtain⟨pi,ci,p,c,_,_,_,_,_,_,_,h⟩:=h3 i d hi
 exact h
theorem XA {T:Tab}(h:dR T):(strOf (bf (pz T))).size<=maxLen:=by
 obtain⟨h1,h2⟩:=rows_ok h.key h.cell
 have hl:=h.len
 have h3: ∀n∈pz T,aI n:=by
  intro n hn
  unfold pz at hn
  rcases List.mem_cons.1 hn with rfl|hn
  ·exact .small (by omega) (by omega)
  ·exact h1 n hn
 have h4:=qU h3
 rw[DJ]
 unfold pz at h4⊢
 rw[List.length_cons]at h4
 unfold maxLen
 omega
theorem wP {nodes:List JN}{Ts:Tabs}(hT:dF nodes Ts)(hu: ∀d∈nodes,d.uid.size<=maxLen): ∀s∈aS nodes Ts,s.1.size<=maxLen/\s.2.size<=maxLen:=fun s hs=>by
 obtain⟨i,d,T,hd,ZO,rfl⟩:=DZ hs
 refine⟨hu d (List.mem_of_getElem? hd),?_⟩
 cases hst:stateful d.kind with
 |false=>rw[hT.not i d hd hst]at ZO;cases ZO
 |true=>
  obtain⟨U,hU,hok,_⟩:=hT.has i d hd hst
  rw[hU]at ZO
  cases ZO
  exact XA hok
theorem UJ (nodes:List JN)(Ts:Tabs):(aS nodes Ts).length<=nodes.length:=by
 unfold aS
 refine Nat.le_trans (List.length_filterMap_le _ _) ?_
 rw[List.length_zip];omega
end
end Go.Proofs.YtopeleenlcnkkaaGreatDoor
