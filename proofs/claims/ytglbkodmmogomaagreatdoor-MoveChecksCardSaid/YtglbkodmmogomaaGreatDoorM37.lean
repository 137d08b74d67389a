/- move.Carry: what is carried. -/
import Derived.Test.YtglbkodmmogomaaGreatDoorM36
set_option linter.unusedVariables false
set_option linter.unusedSimpArgs false
set_option maxHeartbeats 4000000
set_option maxRecDepth 100000
namespace Go.Proofs.YtglbkodmmogomaaGreatDoor
section
open Go Go.RowKit
attribute [local irreducible] bH dP H2.bW
theorem KN {l:List St}{k:Nat}{s:St}(h:l[k]?=some s):fQ (l.take (k+1))=fQ (l.take k)++if bY s.2=[]then[]else[s]:=by
 unfold fQ
 rw[List.take_add_one,h,Option.toList_some,List.filter_append]
 by_cases e:bY s.2=[]
 ·simp[e]
 ·simp[e]
theorem Pv (l:List St):(fQ l).length<=l.length:=by unfold fQ;exact List.length_filter_le _ _
theorem AV {a b:Jb}{l:List St}(h:(aN a b l).2=0): ∃Ts,dH a l= .ok Ts:=by
 unfold aN at h
 cases e:dH a l with
 |ok Ts=>exact⟨Ts,rfl⟩
 |error er=>rw[e]at h;exact absurd h (FC e)
theorem JY (w:World):Calls Tryz.prog 29 #[.pointer none] w fun e w'=>e= .returned (.slice none 0 0)/\w'=w:=by
 go_enter Tryz.func29,Tryz.ntmps29
 go_wp2_with fail
 go_ret
 exact⟨rfl,rfl⟩
def kR (w:World)(r:Except Int (List St))(e:Ending)(w':World):Prop:=
 match r with
 | .ok x=> ∃v,e= .returned (.tuple #[v, .int .i64 0])/\Reads w' 2 v (dK x)/\Kept none' w w'
 | .error er=>e= .returned (.tuple #[.slice none 0 0, .int .i64 er])/\er≠0/\Kept none' w w'
theorem Oi (a b:Jb)(va vb sv:Value)(l:List St)(w:World)(ha:fA w #[.int .i64 a.par,va] a)(hb:fA w #[.int .i64 b.par,vb] b)(hs:Reads w 2 sv (dK l))(hsz: ∀s∈l,s.1.size<=maxLen/\s.2.size<=maxLen)(hl1000:l.length<=1000):
 Calls Tryz.prog 12 #[.agg #[.int .i64 a.par,va], .agg #[.int .i64 b.par,vb],sv] w (kR w (iW a b l)):=by
 obtain⟨na,dU,hva,-⟩:=ha.uI.at
 obtain⟨mb,dQ,hvb,-⟩:=hb.uI.at
 obtain⟨sa,scap,hsv,s1,s2,s3⟩:=hs.mV
 subst hva hvb hsv
 unfold maxLen at s2
 have kA:Kept none' w ((w.alloc (.cells #[.int .i64 a.par, .slice na a.nodes.length dU] 24)).alloc (.cells #[.int .i64 b.par, .slice mb b.nodes.length dQ] 24)):=((Kept.refl _ _).alloc _).alloc _
 have t0:((w.alloc (.cells #[.int .i64 a.par, .slice na a.nodes.length dU] 24)).alloc (.cells #[.int .i64 b.par, .slice mb b.nodes.length dQ] 24)).heap[w.heap.size]?=some (.cells #[.int .i64 a.par, .slice na a.nodes.length dU] 24 (0,0)):=((Kept.refl none' _).alloc _).heap (heap_alloc_new w _) (fun h=>h)
 have t1:((w.alloc (.cells #[.int .i64 a.par, .slice na a.nodes.length dU] 24)).alloc (.cells #[.int .i64 b.par, .slice mb b.nodes.length dQ] 24)).heap[w.heap.size+1]?=some (.cells #[.int .i64 b.par, .slice mb b.nodes.length dQ] 24 (0,0)):=by
  have:=heap_alloc_new (w.alloc (.cells #[.int .i64 a.par, .slice na a.nodes.length dU] 24)) (.cells #[.int .i64 b.par, .slice mb b.nodes.length dQ] 24)
  rwa[World.size_alloc]at this
 obtain⟨W1,hW1⟩: ∃W1,((w.alloc (.cells #[.int .i64 a.par, .slice na a.nodes.length dU] 24)).alloc (.cells #[.int .i64 b.par, .slice mb b.nodes.length dQ] 24))=W1:=⟨_,rfl⟩
 rw[hW1]at kA t0 t1
 have cc:=check_any a b _ _ _ l W1 (ha.pure kA) (hb.pure kA) (hs.pure kA) hsz
 have H:=Lib.hid (And.intro hb (And.intro hsz (And.intro kA (And.intro t1 s3))))
 have HW:=Lib.hid hW1
 clear ha hb hs hsz kA t0 t1 hW1 s3
 go_enter Tryz.func12,Tryz.ntmps12
 go_wp2_with fail
 rw[HW.out]
 clear HW
 (with_reducible refine cc.mono ?_)
 clear cc
 rintro e w2 ⟨rfl,k2⟩
 by_cases hz:(aN a b l).2=0
 ·have HZ:=Lib.hid hz
  have hload:=AV hz
  obtain⟨Ts,hload⟩:=hload
  have EACH:=Lib.hid (oC hload)
  rw[hz]
  have K2:=Lib.hid k2
  clear hload hz k2
  go_wp2_with fail
  go_loopg [10,29] l.length (fun g vo vi wr=> ∃(k:Nat),k<=l.length/\vi= .int .i64 (k:Int)/\l.length-k<=g/\wr.ownsRow W1.heap.size 35 2 vo (fQ (l.take k)).length (dK (fQ (l.take k)))/\Kept none' W1 wr)
  case atStart=>exact⟨0,by omega,rfl,by omega,World.ownsRow_nil _ _ _ _,K2.out⟩
  case round=>
   obtain⟨k,hkl,rfl,hg,hown,hkp⟩:=hrel
   obtain⟨wo,rfl⟩: ∃wo:World,wo=wr:=⟨_,rfl⟩
   obtain⟨oa,oc,rfl⟩:=ay hown
   by_cases hlt:k<l.length
   ·obtain⟨s,hs⟩: ∃s,l[k]?=some s:=⟨_,List.getElem?_eq_getElem hlt⟩
    obtain⟨bs,BG,rfl,hcs⟩:=H.out.2.2.2.2.resolve_left (fun h=>by rw[h]at hlt;simp at hlt)
    have kw:=H.out.2.2.1.trans hkp
    have y0:=kw.cell (fun h=>h) (hcs k s hs).1
    have y1:=kw.cell (fun h=>h) (hcs k s hs).2
    obtain⟨_,T,rest,htk⟩:=EACH.out s (List.mem_of_getElem? hs)
    have uM:bY s.2=T:=by unfold bY;rw[htk]
    have lM:=H.out.2.1 s (List.mem_of_getElem? hs)
    have hsn:=KN hs
    rw[uM]at hsn
    have ka:Kept none' wo (wo.alloc (.cells #[.string s.1, .string s.2] 35)):=(Kept.refl _ _).alloc _
    have sB:(wo.alloc (.cells #[.string s.1, .string s.2] 35)).heap[wo.heap.size]?=some (.cells #[.string s.1, .string s.2] 35 (0,0)):=heap_alloc_new _ _
    obtain⟨W4,gJ⟩: ∃W4,wo.alloc (.cells #[.string s.1, .string s.2] 35)=W4:=⟨_,rfl⟩
    rw[gJ]at ka sB
    have z0:=cells_at sB (j:=0) (v:= .string s.1) rfl
    have z1:=cells_at sB (j:=1) (v:= .string s.2) rfl
    have ct:=take_any s.2 lM.2 W4
    unfold fC at ct
    rw[htk]at ct
    dsimp only at ct
    have hle:=Pv (l.take k)
    have G:=Lib.hid (And.intro hg (And.intro (hkp.trans ka) (And.intro (ka.owns hown (fun _ _ h=>h)) (And.intro sB hsn))))
    clear hg hkp ka sB htk uM lM hsn kw hcs hs hown
    go_wp2_with fail
    try rw[gJ]
    clear gJ y0 y1 z0 z1
    (with_reducible refine ct.mono ?_)
    clear ct
    rintro e w5 ⟨tb,tm,rfl,tT,k5⟩
    have ck:=rP _ tb tm T w5 tT
    have K5:=Lib.hid k5
    clear tT k5
    go_wp2_with fail
    (with_reducible refine ck.mono ?_)
    clear ck
    rintro e w6 ⟨v6,rfl,hk6,-,k6⟩
    obtain⟨v6a,v6c,rfl⟩:=ay hk6
    have hkl2:(aQ T).length=T.length:=by unfold aQ;rw[List.length_map]
    rw[hkl2]
    have sV:=K5.out.trans k6
    have yE:=sV.heap G.out.2.2.2.1 (fun h=>h)
    have z0:=cells_at yE (j:=0) (v:= .string s.1) rfl
    have z1:=cells_at yE (j:=1) (v:= .string s.2) rfl
    have XL:wo.heap.size<w6.heap.size:=(Array.getElem?_eq_some_iff.1 yE).1
    have hown6:=sV.owns G.out.2.2.1 (fun _ _ h=>h)
    have rO:=G.out.2.1.trans sV
    clear hk6 hkl2 k6 sV yE
    by_cases hT0:T=[]
    ·have hTl:T.length=0:=by rw[hT0];rfl
     rw[hTl]
     have F:=Lib.hid (show w6.ownsRow W1.heap.size 35 2 (.slice oa (fQ (l.take k)).length oc) (fQ (l.take (k+1))).length (dK (fQ (l.take (k+1))))/\Kept none' W1 w6 from by
      rw[G.out.2.2.2.2,if_pos hT0,List.append_nil];exact⟨hown6,rO⟩)
     clear hT0 hTl hown6 rO z0 z1
     go_wp2_with fail
     go_roundg (l.length-(k+1))
     case rel=>exact⟨k+1,by omega,by go_num,Nat.le_refl _,F.out.1,F.out.2⟩
     case measure=>have:=G.out.1;omega
    ·have hTl:0<T.length:=Nat.pos_of_ne_zero (fun h=>hT0 (List.eq_nil_of_length_eq_zero h))
     obtain⟨v7,w7,g1,g2,g3,a7,c7,rfl⟩:=BA hown6 s rO.size (by rw[List.length_take]at hle;omega)
     have Z:=Lib.hid (And.intro g1 (show w7.ownsRow W1.heap.size 35 2 (.slice a7 ((fQ (l.take k)).length+1) c7) (fQ (l.take (k+1))).length (dK (fQ (l.take (k+1))))/\Kept none' W1 w7 from by
      rw[G.out.2.2.2.2,if_neg hT0,List.length_append,List.length_singleton]
      exact⟨g2,rO.new g3 (fun i hi hs=>by have:=(hown6.lt i hs).1;omega)⟩))
     clear g1 g2 g3 hown6 rO hT0
     go_wp2_with (at_builtin;refine iL rfl (.tmp 43) (.tmp 45) 25 rfl _ _ _ rfl rfl Z.out.1 ?_)
     go_roundg (l.length-(k+1))
     case rel=>exact⟨k+1,by omega,by go_num,Nat.le_refl _,Z.out.2.1,Z.out.2.2⟩
     case measure=>have:=G.out.1;omega
   ·have e1:k=l.length:=by omega
    subst e1
    rw[List.take_of_length_le (Nat.le_refl _)]at hown
    rw[List.take_of_length_le (Nat.le_refl _)]
    have kw:=H.out.2.2.1.trans hkp
    have t1:=hkp.heap H.out.2.2.2.1 (fun h=>h)
    have r0:=cells_at t1 (j:=0) (v:= .int .i64 b.par) rfl
    have r1:=cells_at t1 (j:=1) (v:= .slice mb b.nodes.length dQ) rfl
    have hsz1:w.heap.size+1<wo.heap.size:=(Array.getElem?_eq_some_iff.1 t1).1
    have cl:=Fz b _ _ (fQ l) wo (H.out.1.pure kw) (Reads.bQ hown) (fun s hs=>H.out.2.1 s ((List.mem_filter.1 hs).1))
    have G:=Lib.hid kw
    clear hown hkp hg hlt kw t1
    go_wp2_with fail
    (with_reducible refine cl.mono ?_)
    clear cl r0 r1
    intro e w3 hq
    unfold kF at hq
    cases hl:dH b (fQ l)with
    |error er=>
     rw[hl]at hq
     obtain⟨rfl,hne,k3⟩:=hq
     have cs:=JY w3
     have F:=Lib.hid (show kR w (iW a b l) (.returned (.tuple #[.slice none 0 0, .int .i64 er])) w3 from by
      unfold iW
      rw[if_neg (by rw[HZ.out];simp),hl]
      exact⟨rfl,hne,G.out.trans k3⟩)
     clear hl k3
     go_wp2_with fail
     (with_reducible refine cs.mono ?_)
     clear cs
     rintro e w4 ⟨rfl,rfl⟩
     go_wp2_with fail
     go_ret2
     exact F.out
    |ok Us=>
     rw[hl]at hq
     obtain⟨bi,mi,pm,rfl,hi,-,-,k3⟩:=hq
     obtain⟨hok,hT⟩:=RH hl
     have hsm:=Iw hok
     have cs:=JZ b bi mi Us pm w3 hi hT.len (by omega)
     have HL:=Lib.hid (And.intro hl (G.out.trans k3))
     clear hl k3 hi hok hT hsm
     go_wp2_with fail
     (with_reducible refine cs.mono ?_)
     clear cs
     rintro e w4 ⟨v4,rfl,hv4,-,k4⟩
     have F:=Lib.hid (show kR w (iW a b l) (.returned (.tuple #[v4, .int .i64 0])) w4 from by
      unfold iW
      rw[if_neg (by rw[HZ.out];simp),HL.out.1]
      exact⟨_,rfl,hv4,HL.out.2.trans k4⟩)
     obtain⟨VX,VW,rfl,-⟩:=hv4.mV
     clear hv4 k4
     go_wp2_with fail
     go_ret2
     exact F.out
 ·have F:=Lib.hid (show kR w (iW a b l) (.returned (.tuple #[.slice none 0 0, .int .i64 (aN a b l).2])) w2 from by
   unfold iW
   rw[if_pos hz]
   exact⟨rfl,hz,H.out.2.2.1.trans k2⟩)
  obtain⟨er,her⟩: ∃er,(aN a b l).2=er:=⟨_,rfl⟩
  rw[her]at hz F⊢
  clear k2 her
  go_wp2_with fail
  go_ret2
  exact F.out
end
section
open Go Go.RowKit
theorem zC {k n:Int}{T:Tab}:dD k n T=true↔stateful k=true/\ ∀p∈T,aT k n p.2=true:=by
 unfold dD
 rw[Bool.and_eq_true,List.all_eq_true]
theorem Ll {k n m:Int}{T:Tab}(h:dD k n T=true)(hT:T≠[]):dD k m T=!(decide (k=7)&&decide (m<=(jK T:Int))):=by
 obtain⟨hs,hc⟩:=zC.1 h
 rw[Bool.eq_iff_iff,Bool.not_eq_true',zC]
 have hcell: ∀p∈T,aT k m p.2=true↔ ¬(k=7/\m<=(p.2.2.length:Int)):=by
  intro p hp
  have h1:=hc p hp
  have e1:=bM k n p.2
  have e2:=bM k m p.2
  rw[h1]at e1
  constructor
  ·intro h2 h3
   rw[h2]at e2
   exact absurd (e2.2 (.inr ⟨h3.1, .inr (.inr h3.2)⟩)) (by decide)
  ·intro h3
   cases h2:aT k m p.2 with
   |true=>rfl
   |false=>
    exfalso
    have h4:=e2.1 h2
    have h5: ¬((k=6/\0<p.2.2.length)\/(k=7/\(p.2.1≠0\/p.2.2.length<1\/n<=(p.2.2.length:Int)))):=fun hh=>absurd (e1.2 hh) (by decide)
    omega
 rw[Bool.and_eq_false_iff,decide_eq_false_iff_not,decide_eq_false_iff_not]
 constructor
 ·rintro⟨_,h1⟩
  by_cases hk:k=7
  ·right
   intro hm
   obtain⟨p0,hp0⟩: ∃p,p∈T:=List.exists_mem_of_ne_nil T hT
   have hall: ∀p∈T,(p.2.2.length:Int)<m:=fun p hp=>by
    have:=(hcell p hp).1 (h1 p hp)
    omega
   have h0:=hall p0 hp0
   have:=Fv (T:=T) (n:=m.toNat) (by omega) (fun p hp=>by have:=hall p hp;omega)
   omega
  ·exact .inl hk
 ·intro h1
  refine⟨hs,fun p hp=>(hcell p hp).2 fun h3=>?_⟩
  have:=Ph hp
  rcases h1 with h1|h1
  ·exact h1 h3.1
  ·omega
theorem Af {nodes:List JN}: ∀{l:List St}{Ts Us:Tabs},bT nodes l Ts= .ok Us-> ∀s∈l,dD (nodeAt nodes (aA nodes s.1)).kind (nodeAt nodes (aA nodes s.1)).n (bY s.2)=true
 |[],_,_,_,s,hs=>by cases hs
 |x::l,Ts,Us,h,s,hs=>by
  unfold bT at h
  split at h
  ·cases h
  ·split at h
   ·cases h
   ·rename_i T r ht
    split at h
    ·rename_i hf
     rcases List.mem_cons.1 hs with rfl|hs
     ·rw[show bY s.2=T by unfold bY;rw[ht]];exact hf
     ·exact Af h s hs
    ·cases h
theorem Ad {j:Jb}{l:List St}{Ts:Tabs}(h:dH j l= .ok Ts): ∀s∈l,dD (nodeAt j.nodes (aA j.nodes s.1)).kind (nodeAt j.nodes (aA j.nodes s.1)).n (bY s.2)=true:=by
 unfold dH at h
 split at h
 ·cases e:bT j.nodes l (bf j.nodes)with
  |error f=>rw[e]at h;cases h
  |ok Us=>exact Af e
 ·cases h
theorem zQ {a b:List JN}{s:St}(h:dD (nodeAt a (aA a s.1)).kind (nodeAt a (aA a s.1)).n (bY s.2)=true)(hT:bY s.2≠[]):
 jJ a b s=(((nodeAt a (aA a s.1)).kind !=(nodeAt b (aA b s.1)).kind)||!dD (nodeAt b (aA b s.1)).kind (nodeAt b (aA b s.1)).n (bY s.2)):=by
 unfold jJ
 by_cases hk:(nodeAt a (aA a s.1)).kind=(nodeAt b (aA b s.1)).kind
 ·rw[hk]at h
  rw[Ll (m:=(nodeAt b (aA b s.1)).n) h hT,Bool.not_not,hk]
  simp
 ·have e1:((nodeAt a (aA a s.1)).kind !=(nodeAt b (aA b s.1)).kind)=true:=bne_iff_ne.2 hk
  rw[e1,decide_eq_true hk,Bool.true_or,Bool.true_or]
def fE (b:List JN):List St->Tabs->Tabs
 |[],Ts=>Ts
 |s::l,Ts=>fE b l (if bY s.2=[]then Ts else Ts.set (aA b s.1).toNat (some (bY s.2)))
theorem CO (b:List JN)(s:St): ∀(l:List St)(Ts:Tabs),fE b (l++[s]) Ts=if bY s.2=[]then fE b l Ts else(fE b l Ts).set (aA b s.1).toNat (some (bY s.2))
 |[],Ts=>rfl
 |x::l,Ts=>by
  show fE b (l++[s]) _=_
  rw[CO b s l];rfl
theorem Mc {b:List JN}{l:List St}{k:Nat}{s:St}(h:l[k]?=some s)(Ts:Tabs):fE b (l.take (k+1)) Ts=if bY s.2=[]then fE b (l.take k) Ts else(fE b (l.take k) Ts).set (aA b s.1).toNat (some (bY s.2)):=by
 rw[List.take_add_one,h,Option.toList_some,CO]
theorem tK (b:List JN): ∀(l:List St)(Ts:Tabs),(fE b l Ts).length=Ts.length
 |[],_=>rfl
 |s::l,Ts=>by
  show(fE b l _).length=_
  rw[tK b l]
  split
  ·rfl
  ·exact List.length_set ..
theorem N7 {nodes:List JN}{Ts:Tabs}(hl:Ts.length=nodes.length)(i:Nat)(T:Tab):gV nodes (Ts.set i (some T))=(gV nodes Ts).set i (some T):=by
 apply List.ext_getElem?
 intro k
 by_cases hk:k<nodes.length
 ·obtain⟨d,hd⟩: ∃d,nodes[k]?=some d:=⟨_,List.getElem?_eq_getElem hk⟩
  rw[vN (by rw[List.length_set];exact hl) hd,List.getElem?_set,jQ hl,vN hl hd]
  by_cases e:i=k
  ·subst e
   have e1:(Ts.set i (some T)).getD i none=some T:=by
    rw[List.getD_eq_getElem?_getD,List.getElem?_set_self (by omega)];rfl
   rw[if_pos rfl,if_pos hk,e1]
   rfl
  ·have e1:(Ts.set i (some T)).getD k none=Ts.getD k none:=by
    rw[List.getD_eq_getElem?_getD,List.getElem?_set,if_neg e,<-List.getD_eq_getElem?_getD]
   rw[if_neg e,e1]
 ·rw[List.getElem?_eq_none (by rw[jQ (by rw[List.length_set];exact hl)];omega),List.getElem?_eq_none (by rw[List.length_set,jQ hl];omega)]
theorem vM {b:List JN}: ∀(l:List St){Ts:Tabs},Ts.length=b.length->gV b (fE b l Ts)=fE b l (gV b Ts)
 |[],_,_=>rfl
 |s::l,Ts,hl=>by
  show gV b (fE b l _)=fE b l _
  split
  ·exact vM l hl
  ·rw[vM l (by rw[List.length_set];exact hl),N7 hl]
theorem Ae {nodes:List JN}: ∀{l:List St}{Ts Us:Tabs},Ts.length=nodes.length->bT nodes l Ts= .ok Us->(∀s∈l,Ts.getD (aA nodes s.1).toNat none=none)/\l.Pairwise fun x y=>x.1≠y.1
 |[],_,_,_,_=>⟨fun s hs=>(nomatch hs),List.Pairwise.nil⟩
 |x::l,Ts,Us,hl,h=>by
  unfold bT at h
  split at h
  ·cases h
  ·rename_i hno
   simp only[not_or]at hno
   split at h
   ·cases h
   ·rename_i T r ht
    split at h
    ·obtain⟨h1,h2⟩:=Ae (by rw[List.length_set];exact hl) h
     have hx:Ts.getD (aA nodes x.1).toNat none=none:=by
      have:=hno.2.2
      cases e:Ts.getD (aA nodes x.1).toNat none with
      |none=>rfl
      |some U=>rw[e]at this;exact absurd rfl this
     have hlt:(aA nodes x.1).toNat<Ts.length:=by
      rcases dI nodes x.1 with⟨hf,_⟩|⟨i,d,hf,hd,_⟩
      ·have:=hno.1;omega
      ·rw[hf,hl,Int.toNat_natCast];exact(List.getElem?_eq_some_iff.1 hd).1
     have hne: ∀s∈l,x.1≠s.1:=fun s hs e=>by
      have:=h1 s hs
      rw[<-e,List.getD_eq_getElem?_getD,List.getElem?_set,if_pos rfl,if_pos hlt]at this
      cases this
     refine⟨fun s hs=>?_,List.Pairwise.cons hne h2⟩
     rcases List.mem_cons.1 hs with rfl|hs
     ·exact hx
     ·have:=h1 s hs
      rw[List.getD_eq_getElem?_getD,List.getElem?_set]at this
      by_cases e:(aA nodes x.1).toNat=(aA nodes s.1).toNat
      ·rw[if_pos e,if_pos hlt]at this;cases this
      ·rw[if_neg e]at this
       rw[List.getD_eq_getElem?_getD];exact this
    ·cases h
theorem NW {nodes:List JN}{u v:ByteArray}(hu:0<=aA nodes u)(h:(aA nodes u).toNat=(aA nodes v).toNat)(hv:0<=aA nodes v):u=v:=by
 rcases dI nodes u with⟨hf,_⟩|⟨i,d,hf,hd,e1,_⟩
 ·omega
 ·rcases dI nodes v with⟨hg,_⟩|⟨k,d',hg,hd',e2,_⟩
  ·omega
  ·have:i=k:=by rw[hf,hg]at h;simpa using h
   subst this
   rw[hd]at hd'
   injection hd' with hd'
   rw[<-e1,<-e2,hd']
theorem vG {b:List JN}: ∀{l:List St}{Ts:Tabs},Ts.length=b.length->l.Pairwise (fun x y=>x.1≠y.1)->
 (∀s∈l,bY s.2≠[]->0<=aA b s.1/\(∃T r,gK s.2.data.toList= .ok T r)/\dD (nodeAt b (aA b s.1)).kind (nodeAt b (aA b s.1)).n (bY s.2)=true/\Ts.getD (aA b s.1).toNat none=none)->
 bT b (fQ l) Ts= .ok (fE b l Ts)
 |[],_,_,_,_=>rfl
 |s::l,Ts,hl,hp,h=>by
  obtain⟨hp1,hp2⟩:=List.pairwise_cons.1 hp
  show _=Except.ok (fE b l _)
  by_cases e:bY s.2=[]
  ·rw[show fQ (s::l)=fQ l by unfold fQ;rw[List.filter_cons,if_neg (by simp[e])],if_pos e]
   exact vG hl hp2 (fun x hx=>h x (List.mem_cons_of_mem _ hx))
  ·rw[show fQ (s::l)=s::fQ l by unfold fQ;rw[List.filter_cons,if_pos (by simp[e])],if_neg e]
   obtain⟨h1,⟨T,r,h2⟩,h3,h4⟩:=h s (by simp) e
   have hT:bY s.2=T:=by unfold bY;rw[h2]
   rcases dI b s.1 with⟨hf,_⟩|⟨i,d,hf,hd,_,hna,_⟩
   ·omega
   ·have hs:=(zC.1 h3).1
    rw[hna]at hs h3
    rw[hf,Int.toNat_natCast]at h4
    rw[vF hf hd hs h4,h2,hT]
    dsimp only
    rw[if_pos (by rw[<-hT];exact h3),hf,Int.toNat_natCast]
    refine vG (by rw[List.length_set];exact hl) hp2 (fun x hx hxe=>?_)
    obtain⟨g1,g2,g3,g4⟩:=h x (List.mem_cons_of_mem _ hx) hxe
    refine⟨g1,g2,g3,?_⟩
    have hne:i≠(aA b x.1).toNat:=fun hi=>hp1 x hx (NW h1 (by rw[hf,Int.toNat_natCast];exact hi) g1)
    rw[List.getD_eq_getElem?_getD,List.getElem?_set,if_neg hne,<-List.getD_eq_getElem?_getD]
    exact g4
theorem Lr {a b:Jb}{l:List St}(h:(aN a b l).2=0): ∃Us,dH b []= .ok Us/\Us.length=b.nodes.length/\iW a b l= .ok (kT b.nodes (fE b.nodes l Us)):=by
 have h0:=h
 unfold aN at h
 cases hl:dH a l with
 |error er=>rw[hl]at h;exact absurd h (FC hl)
 |ok Ts=>
  rw[hl]at h
  simp only at h
  by_cases hb:fU b=true
  ·rw[if_pos hb]at h
   have hck:=(qW h).2
   have hfit:=Ad hl
   have Ld:=oC hl
   have hn:(bf b.nodes).length=b.nodes.length:=by simp[bf]
   have hpw:l.Pairwise fun x y=>x.1≠y.1:=by
    unfold dH at hl
    split at hl
    ·cases e:bT a.nodes l (bf a.nodes)with
     |error f=>rw[e]at hl;cases hl
     |ok Vs=>exact(Ae (by simp[bf]) e).2
    ·cases hl
   have hk:=vG (b:=b.nodes) (l:=l) hn hpw (fun s hs hT=>by
    obtain⟨g1,g2⟩:=hck s hs hT
    have:=zQ (b:=b.nodes) (hfit s hs) hT
    rw[g2]at this
    have h2:=(Bool.or_eq_false_iff.1 this.symm).2
    exact⟨g1,(Ld s hs).2,by simpa using h2,by
     rw[List.getD_eq_getElem?_getD];unfold bf;rw[List.getElem?_replicate];split<;>rfl⟩)
   refine⟨gV b.nodes (bf b.nodes),vC hb rfl,DK _ _ hn,?_⟩
   unfold iW
   rw[if_neg (by simp[h0]),vC hb hk,vM l hn]
  ·rw[if_neg hb]at h
   cases h
end
section
open Go Go.RowKit
attribute [local irreducible] bH
theorem jl (k:Int)(h:bF k)(w:World):Calls Tryz.prog 57 #[.int .i64 k] w fun e w'=>e= .returned (.int .i64 (grp k))/\w=w':=by
 have h1:(wrap64 (k.tmod 8+8)).tmod 8=grp k:=by
  have e:=Qx k
  obtain⟨a,b⟩:=h
  unfold grp
  rw[e]
  split
  ·rw[IntWalk.wrap64_in _ (by omega),Int.tmod_eq_emod_of_nonneg (by omega)];omega
  ·rw[IntWalk.wrap64_in _ (by omega),Int.tmod_eq_emod_of_nonneg (by omega)];omega
 go_enter Tryz.func57,Tryz.ntmps57
 go_wp2_with fail
 go_ret
 exact⟨rfl,rfl⟩
theorem Pn (a b:Int)(ha:bF a)(hb:bF b)(w:World):Calls Tryz.prog 55 #[.int .i64 a, .int .i64 b] w fun e w'=>e= .returned (.bool (bD a b))/\w=w':=by
 have H1:=Lib.hid ha
 have H2:=Lib.hid hb
 clear ha hb
 by_cases h1:grp a<grp b
 ·have e:bD a b=true:=lJ.2 (.inl h1)
  rw[e]
  clear e
  go_enter Tryz.func55,Tryz.ntmps55
  go_wp2_with fail
  refine(jl a H1.out _).mono ?_
  rintro e w' ⟨rfl,rfl⟩
  go_wp2_with fail
  refine(jl b H2.out _).mono ?_
  rintro e w' ⟨rfl,rfl⟩
  go_wp2_with fail
  go_ret
  exact⟨rfl,rfl⟩
 ·have h1':decide (grp a<grp b)=false:=decide_eq_false h1
  by_cases h2:grp a=grp b
  ·have h3:(grp a==grp b)=true:=by simp[h2]
   have e:bD a b=decide (a<b):=by unfold bD;rw[decide_eq_false h1,decide_eq_true h2];simp
   rw[e]
   clear e h2
   by_cases h4:a<b
   ·have h5:decide (a<b)=true:=decide_eq_true h4
    rw[h5]
    go_enter Tryz.func55,Tryz.ntmps55
    go_wp2_with fail
    refine(jl a H1.out _).mono ?_
    rintro e w' ⟨rfl,rfl⟩
    go_wp2_with fail
    refine(jl b H2.out _).mono ?_
    rintro e w' ⟨rfl,rfl⟩
    go_wp2_with fail
    go_ret
    exact⟨rfl,rfl⟩
   ·have h5:decide (a<b)=false:=decide_eq_false h4
    rw[h5]
    go_enter Tryz.func55,Tryz.ntmps55
    go_wp2_with fail
    refine(jl a H1.out _).mono ?_
    rintro e w' ⟨rfl,rfl⟩
    go_wp2_with fail
    refine(jl b H2.out _).mono ?_
    rintro e w' ⟨rfl,rfl⟩
    go_wp2_with fail
    go_ret
    exact⟨rfl,rfl⟩
  ·have h3:(grp a==grp b)=false:=by simp[h2]
   have e:bD a b=false:=by unfold bD;rw[decide_eq_false h1,decide_eq_false h2];rfl
   rw[e]
   clear e h2
   go_enter Tryz.func55,Tryz.ntmps55
   go_wp2_with fail
   refine(jl a H1.out _).mono ?_
   rintro e w' ⟨rfl,rfl⟩
   go_wp2_with fail
   refine(jl b H2.out _).mono ?_
   rintro e w' ⟨rfl,rfl⟩
   go_wp2_with fail
   go_ret
   exact⟨rfl,rfl⟩
def LD (w:World)(b o:Nat)(p:Int×Cell):Prop:=
 w.cell? ⟨b,o,none⟩=some (.int .i64 p.1)/\w.cell? ⟨b,o+1,none⟩=some (.int .i64 p.2.1)/\ ∃lv,w.cell? ⟨b,o+2,none⟩=some lv/\Reads w 1 lv (ints p.2.2)
def eH (w:World)(cs:List Value)(T:Tab):Prop:=
 cs.length=T.length*3/\ ∀(i:Nat)(p:Int×Cell),T[i]?=some p->cs[i*3]?=some (.int .i64 p.1)/\cs[i*3+1]?=some (.int .i64 p.2.1)/\ ∃lv,cs[i*3+2]?=some lv/\Reads w 1 lv (ints p.2.2)
def yx (w:World)(v:Value)(T:Tab):Prop:= ∃cs,Reads w 3 v cs/\eH w cs T
theorem eH.pure {w w':World}{cs:List Value}{T:Tab}(h:eH w cs T)(hk:Kept none' w w'):eH w' cs T:=
 ⟨h.1,fun i p hp=>by obtain⟨a,b,lv,c,d⟩:=h.2 i p hp;exact⟨a,b,lv,c,d.pure hk⟩⟩
theorem yx.pure {w w':World}{v:Value}{T:Tab}(h:yx w v T)(hk:Kept none' w w'):yx w' v T:=by
 obtain⟨cs,h1,h2⟩:=h
 exact⟨cs,h1.pure hk,h2.pure hk⟩
theorem yx.parts {w:World}{v:Value}{T:Tab}(h:yx w v T): ∃a cap,v= .slice a T.length cap/\T.length<=cap/\cap<=maxLen/\(T=[]\/ ∃b off,a=some ⟨b,off,none⟩/\ ∀i p,T[i]?=some p->LD w b (off+i*3) p):=by
 obtain⟨cs,⟨a,n,cap,rfl,h1,h2,h3,h4⟩,h5,h6⟩:=h
 have hn:n=T.length:=by omega
 subst hn
 refine⟨a,cap,rfl,h1,h2,?_⟩
 rcases h4 with h4|⟨b,off,rfl,h4⟩
 ·left
  rw[h4]at h5
  exact List.eq_nil_of_length_eq_zero (by simp at h5;omega)
 ·right
  refine⟨b,off,rfl,fun i p hp=>?_⟩
  obtain⟨x,y,lv,z,t⟩:=h6 i p hp
  exact⟨h4 _ _ x,h4 _ _ y,lv,h4 _ _ z,t⟩
theorem LD.pure {w w':World}{b o:Nat}{p:Int×Cell}(h:LD w b o p)(hk:Kept none' w w'):LD w' b o p:=by
 obtain⟨a,b,lv,c,d⟩:=h
 exact⟨hk.cell (fun h=>h) a,hk.cell (fun h=>h) b,lv,hk.cell (fun h=>h) c,d.pure hk⟩
structure RTabAt (w:World)(b:Nat)(T:Tab):Prop where
 obj: ∃v,w.heap[b]?=some (.cells #[v] 103 (0,0))/\yx w v T
 ok:iy T
theorem RTabAt.pure {w w':World}{b:Nat}{T:Tab}(h:RTabAt w b T)(hk:Kept none' w w'):RTabAt w' b T:=by
 obtain⟨⟨v,h1,h2⟩,h3⟩:=h
 exact⟨⟨v,hk.heap h1 (fun h=>h),h2.pure hk⟩,h3⟩
theorem JM {T:Tab}{i:Nat}{p:Int×Cell}{g:Int}(h:T[i]?=some p):aO (T.take (i+1)) g=aO (T.take i) g+if grp p.1=g then 1 else 0:=by
 unfold aO
 rw[List.take_add_one,h,List.countP_append]
 simp[List.countP_cons]
theorem CW (b:Nat)(T:Tab)(g:Int)(w:World)(h:RTabAt w b T):Calls Tryz.prog 56 #[.pointer (some ⟨b,0,none⟩), .int .i64 g] w (Is w (.int .i64 (aO T g))):=by
 obtain⟨⟨v,rX,hrt⟩,hok⟩:=h
 obtain⟨pa,zl,rfl,hc1,hc2,hcl⟩:=hrt.parts
 have c0:w.cell? ⟨b,0,none⟩=some (.slice pa T.length zl):=cells_at rX rfl
 have hT:=hok.len
 unfold maxLen at hc2
 have HC:=Lib.hid (And.intro hcl hok)
 clear rX hrt hcl hok
 go_enter Tryz.func56,Tryz.ntmps56
 go_wp2
 go_loopg [5,6] T.length (fun gg vn vi wr=> ∃i:Nat,i<=T.length/\vi= .int .i64 (i:Int)/\vn= .int .i64 ((aO (T.take i) g:Nat):Int)/\T.length-i<=gg/\wr=w)
 case atStart=>exact⟨0,Nat.zero_le _,rfl,by simp[aO],by omega,rfl⟩
 case round=>
  obtain⟨i,hif,rfl,rfl,hg,rfl⟩:=hrel
  by_cases hlt:i<T.length
  ·obtain⟨p,hp⟩: ∃p,T[i]?=some p:=⟨_,List.getElem?_eq_getElem hlt⟩
   obtain⟨rb,ro,rfl,hr⟩:=HC.out.1.resolve_left (fun h=>by rw[h]at hp;cases hp)
   obtain⟨x0,x1,lv,x2,x3⟩:=hr i p hp
   have Uh:=HC.out.2.key p (List.mem_of_getElem? hp)
   have hm:aO (T.take i) g<=320:=by
    have h1:aO (T.take i) g<=(T.take i).length:=List.countP_le_length
    have h2:=List.length_take_le' i T
    omega
   have HP:=Lib.hid (And.intro hp Uh)
   have hst:=JM (g:=g) hp
   have HS:=Lib.hid hst
   obtain⟨N,hN⟩: ∃N,aO (T.take i) g=N:=⟨_,rfl⟩
   rw[hN]at hm HS⊢
   clear hr x1 x2 x3 Uh hp hst hN
   by_cases he:grp p.1=g
   ·have heb:(grp p.1==g)=true:=by simp[he]
    have HE:=Lib.hid he
    clear he
    go_wp2_with fail
    refine(jl p.1 HP.out.2 _).mono ?_
    rintro e w' ⟨rfl,rfl⟩
    go_wp2_with fail
    go_roundg (T.length-(i+1))
    case rel=>exact⟨i+1,by omega,by go_num,by rw[HS.out,if_pos HE.out];go_num,Nat.le_refl _,rfl⟩
    case measure=>omega
   ·have heb:(grp p.1==g)=false:=by simp[he]
    have HE:=Lib.hid he
    clear he
    go_wp2_with fail
    refine(jl p.1 HP.out.2 _).mono ?_
    rintro e w' ⟨rfl,rfl⟩
    go_wp2_with fail
    go_roundg (T.length-(i+1))
    case rel=>exact⟨i+1,by omega,by go_num,by rw[HS.out,if_neg HE.out];rfl,Nat.le_refl _,rfl⟩
    case measure=>omega
  ·have hie:i=T.length:=by omega
   subst hie
   rw[List.take_of_length_le (Nat.le_refl _)]
   have hlt2: ¬((T.length:Nat):Int)<(T.length:Int):=by omega
   go_wp2_with fail
   go_ret
   exact⟨rfl,rfl⟩
end
end Go.Proofs.YtglbkodmmogomaaGreatDoor
