/- The document's expressions: their types. -/
import Derived.Test.YtglbkodmmogomaaGreatDoorM43
set_option linter.unusedVariables false
set_option linter.unusedSimpArgs false
set_option maxHeartbeats 16000000
set_option maxRecDepth 100000
namespace Go.Proofs.YtglbkodmmogomaaGreatDoor
open Go Go.RowKit
theorem RI: ∃i,Tryz.prog.info? 5=some i/\i.zero=some (.int .u8 0)/\i.size=1/\i.bytes=1:=by
 have h:(Tryz.prog.info? 5).map (fun i=>(i.zero,i.size,i.bytes))=some (some (.int .u8 0),1,1):=by kernel_rfl
 obtain⟨i,h1,h2⟩:=Option.map_eq_some_iff.1 h
 injection h2 with h2 h3
 injection h3 with h3 h4
 exact⟨i,h1,h2,h3,h4⟩
def fK:List Int->Int
 |[]=>0
 |a::l=>l.foldl (fun s b=>if s=b then b else 3) a
theorem H6 (l:List Int)(t:Int):fK (l++[t])=if l=[]\/fK l=t then t else 3:=by
 cases l with
 |nil=>simp[fK]
 |cons a l=>simp[fK,List.foldl_append]
theorem yD {l:List Int}{k:Nat}{t:Int}(h:l[k]?=some t):fK (l.take (k+1))=if k=0\/fK (l.take k)=t then t else 3:=by
 have hk:k<l.length:=by rcases Nat.lt_or_ge k l.length with h'|h';exact h';rw[List.getElem?_eq_none h']at h;cases h
 rw[List.take_add_one,h,Option.toList_some,H6]
 have:l.take k=[]↔k=0:=by
  rw[List.take_eq_nil_iff]
  constructor
  ·rintro(h'|h')
   ·exact h'
   ·rw[h']at hk;simp at hk
  ·exact .inl
 simp only[this]
theorem EN {l:List Int}(h: ∀t∈l,0<=t/\t<=2):0<=fK l/\fK l<=3:=by
 have: ∀n,n<=l.length->0<=fK (l.take n)/\fK (l.take n)<=3:=by
  intro n
  induction n with
  |zero=>intro _;rw[List.take_zero];exact⟨Int.le_refl 0,by decide⟩
  |succ n ih=>
   intro hn
   have e:l[n]?=some l[n]:=List.getElem?_eq_getElem (by omega)
   have:=h l[n] (List.getElem_mem _)
   rw[yD e]
   split<;>omega
 have:=this l.length (Nat.le_refl _)
 rwa[List.take_length]at this
def bC (op s:Int)(ts:List Int):Int:=
 if op<=4 then 1 else if op=5\/(7<=op/\op<=11)then(if s=1 then 1 else 0)else if op=6\/op=16\/op=17 then(if s=2 then 2 else 0)else if op=12\/op=13 then(if s=1 then 2 else 0)else if op=14\/op=15 then(if s≠3 then 2 else 0)else(if ts.getD 0 0=2/\ts.getD 1 0=ts.getD 2 0 then ts.getD 1 0 else 0)
theorem yT {op:Int}{n:Nat}(h0:0<=op)(h:arity op=n):1<=op/\op<=18:=by
 unfold arity at h
 split at h
 ·omega
 ·omega
theorem RD (op:Int)(ts:List Int)(h0:0<=op)(h:arity op=ts.length)(ht: ∀t∈ts,t=1\/t=2):gB (op,ts.getD 0 0,ts.getD 1 0,ts.getD 2 0)=bC op (fK ts) ts:=by
 obtain⟨l1,l2⟩:=yT h0 h
 have h3:=zF op
 match ts,h,ht with
 |[],h,_=>
  have:op<=4:=by unfold arity at h;simp at h;split at h<;>(try omega)<;>(split at h<;>(try omega)<;>(split at h<;>(try omega)<;>(split at h<;>omega)))
  obtain rfl|rfl|rfl|rfl:op=1\/op=2\/op=3\/op=4:=by omega
  all_goals decide
 |[a],h,ht=>
  have:op=5\/op=6:=by unfold arity at h;simp at h;split at h<;>(try omega)<;>(split at h<;>(try omega)<;>(split at h<;>(try omega)<;>(split at h<;>omega)))
  have ha:=ht a (by simp)
  rcases ha with rfl|rfl<;>rcases this with rfl|rfl<;>decide
 |[a,b],h,ht=>
  have:7<=op/\op<=17:=by unfold arity at h;simp at h;split at h<;>(try omega)<;>(split at h<;>(try omega)<;>(split at h<;>(try omega)<;>(split at h<;>omega)))
  have ha:=ht a (by simp)
  have hb:=ht b (by simp)
  obtain rfl|rfl|rfl|rfl|rfl|rfl|rfl|rfl|rfl|rfl|rfl:op=7\/op=8\/op=9\/op=10\/op=11\/op=12\/op=13\/op=14\/op=15\/op=16\/op=17:=by omega
  all_goals(rcases ha with rfl|rfl<;>rcases hb with rfl|rfl<;>decide)
 |[a,b,c],h,ht=>
  have:op=18:=by unfold arity at h;simp at h;split at h<;>(try omega)<;>(split at h<;>(try omega)<;>(split at h<;>(try omega)<;>(split at h<;>omega)))
  have ha:=ht a (by simp)
  have hb:=ht b (by simp)
  have hc:=ht c (by simp)
  subst this
  rcases ha with rfl|rfl<;>rcases hb with rfl|rfl<;>rcases hc with rfl|rfl<;>decide
 |a::b::c::d::l,h,_=>simp at h;omega
theorem EO (k:Int×Int×Int×Int):gB k=0\/gB k=1\/gB k=2:=by
 obtain⟨op,a,b,c⟩:=k
 by_cases h:gB (op,a,b,c)=0
 ·exact .inl h
 ·rcases EP h with h|h
  ·exact .inr (.inl h.1)
  ·exact .inr (.inr h.1)
theorem oK: ∀(f:Nat)(x:Ex),aI f x=0\/aI f x=1\/aI f x=2
 |0,x=>by cases x;exact .inl rfl
 |f+1,x=>by
  rw[uN]
  split
  ·exact .inl rfl
  ·exact EO _
theorem RN {f:Nat}{x:Ex}(h0:0<=x.op)(h:arity x.op=x.args.length)(hz: ∀t∈x.args.map (aI f),t≠0):aI (f+1) x=bC x.op (fK (x.args.map (aI f))) (x.args.map (aI f)):=by
 have hr: ∀t∈x.args.map (aI f),t=1\/t=2:=by
  intro t ht
  have h1:=hz t ht
  obtain⟨y,_,rfl⟩:=List.mem_map.1 ht
  rcases oK f y with h|h|h
  ·exact absurd h h1
  ·exact .inl h
  ·exact .inr h
 rw[uN,if_neg,RD x.op _ h0 (by simpa using h) hr]
 intro hc
 rw[List.contains_iff_mem]at hc
 exact hz 0 hc rfl
theorem RP {f:Nat}{x:Ex}(h:0∈x.args.map (aI f)):aI (f+1) x=0:=by
 rw[uN,if_pos (List.contains_iff_mem.2 h)]
theorem Dc: ∀(N:Nat)(x:Ex)(a:Array Value)(w:World),SizeOf.sizeOf x<=N->aC w a x->Calls Tryz.prog 211 #[.agg a] w (Gives w (.bool (eG x)))
 |0,x,_,_,h,_=>by cases x;simp at h
 |N+1,x,a,w,hN,h=>by
  obtain⟨p,cap,rfl,h0,h1,h2,h3,h4,h5⟩:=h.parts
  have sub: ∀(i:Nat)(y:Ex),x.args[i]?=some y->SizeOf.sizeOf y<=N:=by
   intro i y hy
   obtain⟨op,n,args⟩:=x
   have h1:=List.sizeOf_lt_of_mem (List.mem_of_getElem? (show args[i]?=some y from hy))
   simp at hN
   omega
  have IH:=Lib.hid (fun y a w hy=>Dc N y a w hy)
  have SB:=Lib.hid sub
  have H5:=Lib.hid h5
  have HX:=Lib.hid (DV x)
  unfold maxLen at h4
  clear h h5 sub hN
  go_enter Tryz.func211,Tryz.ntmps211
  go_wp2_with fail
  obtain⟨W0,hW0⟩: ∃W0,w.alloc (.cells #[.int .u8 x.op, .int .i64 x.n, .slice p x.args.length cap] 40)=W0:=⟨_,rfl⟩
  have k0:Kept none' w W0:=by rw[<-hW0];exact(Kept.refl _ _).alloc _
  have d0:W0.cell? ⟨w.heap.size,0,none⟩=some (.int .u8 x.op):=by rw[<-hW0];simp
  have d2:W0.cell? ⟨w.heap.size,2,none⟩=some (.slice p x.args.length cap):=by rw[<-hW0];simp
  rw[hW0]
  have K0:=Lib.hid k0
  clear hW0 k0
  go_loopg [3] x.args.length (fun g vi wr=> ∃(k:Nat),k<=x.args.length/\vi= .int .i64 (k:Int)/\x.args.length-k<=g/\(x.args.take k).any eG=false/\Kept none' W0 wr)
  case atStart=>exact⟨0,by omega,rfl,by omega,by simp,Kept.refl _ _⟩
  case round=>
   obtain⟨k,hkl,rfl,hg,hno,hkp⟩:=hrel
   have e0:=hkp.cell (p:=⟨w.heap.size,0,none⟩) (fun h=>h) d0
   have e2:=hkp.cell (p:=⟨w.heap.size,2,none⟩) (fun h=>h) d2
   have Oy:=Lib.hid hkp
   have hW:=(K0.out.trans hkp:Kept none' w wr)
   clear hkp
   by_cases hlt:k<x.args.length
   ·obtain⟨y,hy⟩: ∃y,x.args[k]?=some y:=⟨_,List.getElem?_eq_getElem hlt⟩
    obtain⟨b,off,p',cap',rfl,q0,q1,q2,hy2⟩:=H5.out k y hy
    have r0:=hW.cell (p:=⟨b,off+k*3,none⟩) (fun h=>h) q0
    have r1:=hW.cell (p:=⟨b,off+k*3+1,none⟩) (fun h=>h) q1
    have r2:=hW.cell (p:=⟨b,off+k*3+2,none⟩) (fun h=>h) q2
    have G:=Lib.hid (And.intro hg (And.intro (aC.pure hW hy2) (And.intro (SB.out k y hy) (And.intro hy hno))))
    have KW:=Lib.hid hW
    clear q0 q1 q2 hy hy2 hW hg H5 hno
    go_wp2_with fail
    have c:=IH.out y _ wr G.out.2.2.1 G.out.2.1
    (with_reducible refine c.mono ?_)
    clear c
    rintro e w2 ⟨rfl,k2⟩
    have K2:=Lib.hid (And.intro (KW.out.trans k2) (Oy.out.trans k2))
    clear k2
    cases hA:eG y with
    |true=>
     have F:=Lib.hid (show eG x=true by rw[HX.out,Bool.or_eq_true];right;rw[List.any_eq_true];exact⟨y,List.mem_of_getElem? G.out.2.2.2.1,hA⟩)
     clear hA
     go_wp2_with fail
     go_ret
     exact⟨aF (by rw[F.out]),K2.out.1⟩
    |false=>
     have F:=Lib.hid (uj G.out.2.2.2.1 G.out.2.2.2.2 hA)
     clear hA
     go_wp2_with fail
     go_roundg (x.args.length-(k+1))
     case rel=>exact⟨k+1,by omega,by go_num,Nat.le_refl _,F.out,K2.out.2⟩
     case measure=>have:=G.out.1;omega
   ·have F:=Lib.hid (show eG x=(x.op==4) by
     rw[List.take_of_length_le (by omega)]at hno
     rw[HX.out,hno,Bool.or_false])
    have KW:=Lib.hid hW
    clear hno hW hg
    go_wp2_with fail
    go_ret
    exact⟨aF (by rw[F.out]),KW.out⟩
theorem Qw (x:Ex)(a:Array Value)(w:World)(h:aC w a x):Calls Tryz.prog 240 #[.agg a] w (Gives w (.int .i64 (fP 17 x:Int))):=by
 obtain⟨p,cap,rfl,h0,h1,h2,h3,h4,h5⟩:=h.parts
 have H:=Lib.hid h
 clear h h5
 go_enter Tryz.func240,Tryz.ntmps240
 go_wp2_with fail
 have k1:Kept none' w (w.alloc (.cells #[.int .u8 x.op, .int .i64 x.n, .slice p x.args.length cap] 40)):=(Kept.refl _ _).alloc _
 have c:=CZ 17 x _ 17 _ rfl (Nat.le_refl _) (aC.pure k1 H.out)
 (with_reducible refine c.mono ?_)
 clear c
 rintro e w2 ⟨rfl,k2⟩
 have hd:=rH 17 x
 obtain⟨D,hD⟩: ∃D,fP 17 x=D:=⟨_,rfl⟩
 rw[hD]at hd
 rw[hD]
 have HK:=Lib.hid (k1.trans k2)
 have HD:=Lib.hid hD
 clear hD k1 k2
 go_wp2_with fail
 go_ret
 exact⟨Ej (by rw[HD.out]),HK.out⟩
theorem Qs (x:Ex)(a:Array Value)(w:World)(h:aC w a x):Calls Tryz.prog 210 #[.agg a] w (Gives w (.bool (bV 16 x))):=by
 have hE:=sG 16 x
 obtain⟨p,cap,rfl,h0,h1,h2,h3,h4,h5⟩:=h.parts
 have H:=Lib.hid h
 have HE:=Lib.hid hE
 clear h h5 hE
 go_enter Tryz.func210,Tryz.ntmps210
 go_wp2_with fail
 have k1:Kept none' w (w.alloc (.cells #[.int .u8 x.op, .int .i64 x.n, .slice p x.args.length cap] 40)):=(Kept.refl _ _).alloc _
 (with_reducible refine(Qw x _ _ (aC.pure k1 H.out)).mono ?_)
 rintro e w2 ⟨rfl,k2⟩
 have hd:=rH 17 x
 obtain⟨D,hD⟩: ∃D,fP 17 x=D:=⟨_,rfl⟩
 rw[hD]at hd
 rw[hD]
 have HK:=Lib.hid (k1.trans k2)
 have d0:=k2.cell (p:=⟨w.heap.size,0,none⟩) (v:= .int .u8 x.op) (fun h=>h) (by simp)
 have d1:=k2.cell (p:=⟨w.heap.size,1,none⟩) (v:= .int .i64 x.n) (fun h=>h) (by simp)
 have d2:=k2.cell (p:=⟨w.heap.size,2,none⟩) (v:= .slice p x.args.length cap) (fun h=>h) (by simp)
 have HD:=Lib.hid hD
 clear hD k1 k2
 by_cases c:D<=16
 ·have c':(D:Int)<=16:=by omega
  have F:=Lib.hid (show bV 16 x=dX 17 x by rw[HE.out,HD.out,decide_eq_true c];rfl)
  go_wp2_with fail
  have c:=zT 17 x _ 17 _ rfl (Nat.le_refl _) (aC.pure HK.out H.out)
  (with_reducible refine c.mono ?_)
  clear c
  rintro e w3 ⟨rfl,k3⟩
  have yX:=Lib.hid (HK.out.trans k3)
  clear k3
  obtain⟨B,hB⟩: ∃B,dX 17 x=B:=⟨_,rfl⟩
  have FB:=Lib.hid (show bV 16 x=B by rw[F.out,hB])
  rw[hB]
  clear hB
  go_wp2_with fail
  go_ret
  exact⟨aF FB.out.symm,yX.out⟩
 ·have c': ¬(D:Int)<=16:=by omega
  have F:=Lib.hid (show bV 16 x=false by rw[HE.out,HD.out,decide_eq_false c];rfl)
  go_wp2_with fail
  go_ret
  exact⟨aF F.out.symm,HK.out⟩
def Vf (f:Nat):Prop:= ∀(x:Ex)(a:Array Value)(w:World),bV f x=true->aC w a x->Calls Tryz.prog 212 #[.agg a] w (Gives w (.int .u8 (aI f x)))
theorem zh: ∀f,Vf f
 |0=>fun x a w h=>absurd h (by cases x;simp[bV])
 |f+1=>fun x a w hmay h=>by
  rw[pz]at hmay
  simp only[Bool.and_eq_true,decide_eq_true_eq]at hmay
  obtain⟨⟨⟨m1,_⟩,_⟩,m4⟩:=hmay
  obtain⟨p,cap,rfl,h0,h1,h2,h3,h4,h5⟩:=h.parts
  have IH:=Lib.hid (zh f)
  have H5:=Lib.hid h5
  have HM:=Lib.hid (List.all_eq_true.1 m4)
  have hop:=yT h0 m1
  have hl:x.args.length<=3:=by have:=zF x.op;omega
  obtain⟨R,hR⟩: ∃R,x.args.map (aI f)=R:=⟨_,rfl⟩
  have HL:=Lib.hid (show R.length=x.args.length by rw[<-hR];simp)
  have HT:=Lib.hid (show∀t∈R,0<=t/\t<=2 by
   intro t ht;rw[<-hR]at ht
   obtain⟨y,_,rfl⟩:=List.mem_map.1 ht
   have:=oK f y;omega)
  have HX:=Lib.hid (show(∀t∈R,t≠0)->aI (f+1) x=bC x.op (fK R) R by
   intro hz;rw[<-hR]at hz⊢;exact RN h0 m1 hz)
  have HZ:=Lib.hid (show 0∈R->aI (f+1) x=0 by intro hz;rw[<-hR]at hz;exact RP hz)
  have HA:=Lib.hid m1
  have HR:=Lib.hid hR
  unfold bF at h2
  unfold maxLen at h4
  clear h h5 m1 m4 hR
  go_enter Tryz.func212,Tryz.ntmps212
  go_wp2_with fail
  obtain⟨W0,hW0⟩: ∃W0,w.alloc (.cells #[.int .u8 x.op, .int .i64 x.n, .slice p x.args.length cap] 40)=W0:=⟨_,rfl⟩
  have k0:Kept none' w W0:=by rw[<-hW0];exact(Kept.refl _ _).alloc _
  have d0:W0.cell? ⟨w.heap.size,0,none⟩=some (.int .u8 x.op):=by rw[<-hW0];simp
  have d2:W0.cell? ⟨w.heap.size,2,none⟩=some (.slice p x.args.length cap):=by rw[<-hW0];simp
  rw[hW0]
  have K0:=Lib.hid k0
  clear hW0 k0
  go_loopg [3,4] x.args.length (fun g vs vi wr=> ∃k:Nat,k<=x.args.length/\vi= .int .i64 (k:Int)/\x.args.length-k<=g/\wr.ownsRow W0.heap.size 5 1 vs k (lD (R.take k))/\Kept none' W0 wr)
  case atStart=>exact⟨0,by omega,rfl,by omega,World.ownsRow_nil _ _ _ _,Kept.refl _ _⟩
  case round=>
   obtain⟨k,hkl,rfl,hg,ho,hkp⟩:=hrel
   have dd:=hkp.cell (p:=⟨w.heap.size,2,none⟩) (fun h=>h) d2
   obtain⟨a1,c1,rfl⟩:=ay ho
   by_cases hlt:k<x.args.length
   ·obtain⟨y,hy⟩: ∃y,x.args[k]?=some y:=⟨_,List.getElem?_eq_getElem hlt⟩
    obtain⟨b,off,p',cap',rfl,q0,q1,q2,hy2⟩:=H5.out k y hy
    have hW:=(K0.out.trans hkp:Kept none' w wr)
    have r0:=hW.cell (p:=⟨b,off+k*3,none⟩) (fun h=>h) q0
    have r1:=hW.cell (p:=⟨b,off+k*3+1,none⟩) (fun h=>h) q1
    have r2:=hW.cell (p:=⟨b,off+k*3+2,none⟩) (fun h=>h) q2
    have HY:=Lib.hid (And.intro (HM.out y (List.mem_of_getElem? hy)) (aC.pure hW hy2))
    have HN:=Lib.hid (show R[k]?=some (aI f y) by rw[<-HR.out,List.getElem?_map,hy];rfl)
    have tH:=Lib.hid (And.intro hg (And.intro hkp ho))
    clear q0 q1 q2 hy hy2 hW hkp hg ho
    go_wp2_with fail
    have c:=IH.out y _ wr HY.out.1 HY.out.2
    (with_reducible refine c.mono ?_)
    clear c
    rintro e w2 ⟨rfl,k2⟩
    obtain⟨T,hT⟩: ∃T,aI f y=T:=⟨_,rfl⟩
    rw[hT]at HN
    rw[hT]
    have hTr:0<=T/\T<=2:=HT.out T (List.mem_of_getElem? HN.out)
    have o2:=k2.owns tH.out.2.2 (fun _ _ h=>h)
    obtain⟨i1,hi1,hz1,hsz1,Gl⟩:=RI
    obtain⟨g1,Xh,w3,s1,p1,e1⟩:=jZ (x:= .int .u8 T) (bytes:=1) Tryz.underlying220 hi1 hz1 hsz1 Gl rfl rfl o2 (by omega) (by omega) (by have:=tH.out.2.1.size;have:=k2.size;omega) 220
    have hown: ∀i,(Value.slice a1 k c1).ownBlock=some i->W0.heap.size<=i:=fun i hi=>(gG o2 hi).1
    have k4:Kept none' W0 w3:=(tH.out.2.1.trans k2).new e1 (fun i hi e=>by have:=hown i e;omega)
    have G:=Lib.hid (And.intro p1 k4)
    clear o2 hi1 hz1 hsz1 Gl p1 e1 hown k4 k2 hT
    go_wp2_with (at_builtin;refine wpList_append_run rfl (.tmp 14) (.tmp 21) 220 rfl (.slice a1 k c1) (.slice (some ⟨w2.heap.size,0,none⟩) 1 1) _ rfl rfl s1 ?_)
    go_roundg (x.args.length-(k+1))
    case rel=>
     refine⟨k+1,by omega,by go_num,Nat.le_refl _,?_,G.out.2⟩
     have e:lD (R.take (k+1))=lD (R.take k)++[.int .u8 T]:=by
      unfold lD;rw[List.take_add_one,HN.out];simp
     rw[e];exact G.out.1
    case measure=>have:=tH.out.1;omega
   ·obtain rfl:k=x.args.length:=by omega
    rw[List.take_of_length_le (by rw[HL.out];exact Nat.le_refl _)]at ho
    obtain⟨pa,n',pc,pe,_,_,_,hcell⟩:=Reads.bQ ho
    injection pe with pe1 yI wW
    subst pe1 wW
    have e0:=hkp.cell (p:=⟨w.heap.size,0,none⟩) (fun h=>h) d0
    obtain⟨o,hox⟩: ∃o,x.op=o:=⟨_,rfl⟩
    have KF:=Lib.hid (K0.out.trans hkp)
    clear ho hkp yI hg
    rw[hox]at hop HX HA e0 h0 h1
    have Y:=Lib.hid (show R=[]\/ ∃bi rJ,a1=some ⟨bi,rJ,none⟩/\ ∀k t,R[k]?=some t->wr.cell? ⟨bi,rJ+k,none⟩=some (.int .u8 t)from by
     rcases hcell with h|⟨bi,rJ,rfl,hc⟩
     ·left;unfold lD at h;simpa using h
     ·exact .inr ⟨bi,rJ,rfl,fun k t ht=>hc k _ (by unfold lD;rw[List.getElem?_map,ht];rfl)⟩)
    clear hcell d0 d2
    obtain⟨N,hN⟩: ∃N,x.args.length=N:=⟨_,rfl⟩
    rw[hN]at HA HL dd hl h3
    rw[hN]
    clear hN hkl hlt HR HM H5 IH
    go_wp2_with fail
    go_loopg [5,6] N (fun g vs vi W=> ∃k:Nat,k<=N/\vi= .int .i64 (k:Int)/\vs= .int .u8 (fK (R.take k))/\N-k<=g/\W=wr/\ ∀t∈R.take k,t≠0)
    case atStart=>exact⟨0,by omega,rfl,by rw[List.take_zero];rfl,by omega,rfl,by simp⟩
    case round=>
     obtain⟨k,hkl,rfl,rfl,hg,rfl,hall⟩:=hrel
     have hSr:=EN (l:=R.take k) (fun t ht=>HT.out t (List.mem_of_mem_take ht))
     by_cases hlt:k<N
     ·obtain⟨t,ht⟩: ∃t,R[k]?=some t:=⟨_,List.getElem?_eq_getElem (by rw[HL.out];exact hlt)⟩
      obtain⟨bi,rJ,rfl,hc⟩:=Y.out.resolve_left (fun h=>by rw[h]at ht;cases ht)
      have y:=hc k t ht
      have htr:=HT.out t (List.mem_of_getElem? ht)
      have hsn:=yD ht
      obtain⟨S,hS⟩: ∃S,fK (R.take k)=S:=⟨_,rfl⟩
      rw[hS]at hSr hsn
      rw[hS]
      have HS:=Lib.hid (And.intro ht (And.intro hsn (And.intro hall hg)))
      have CC:=Lib.hid hc
      clear ht hsn hall hg hS hc
      by_cases t0:t=0
      ·subst t0
       have Z:=Lib.hid (HZ.out (List.mem_of_getElem? HS.out.1))
       go_wp2_with fail
       go_ret
       exact⟨gI Z.out.symm,KF.out⟩
      ·have tb:(t==0)=false:=by simp[t0]
       have nx: ∀z∈R.take (k+1),z≠0:=by
        intro z hz
        rw[List.take_add_one,HS.out.1]at hz
        rcases List.mem_append.1 hz with hz|hz
        ·exact HS.out.2.2.1 z hz
        ·rw[show z=t by simpa using hz];exact t0
       have NX:=Lib.hid nx
       clear nx t0
       by_cases k0:k=0
       ·have kb:((k:Int)==0)=true:=by simp[k0]
        have E:=Lib.hid (show fK (R.take (k+1))=t by rw[HS.out.2.1,if_pos (.inl k0)])
        clear k0
        go_wp2_with fail
        go_roundg (N-(k+1))
        case rel=>exact⟨k+1,by omega,by go_num,by rw[E.out],Nat.le_refl _,rfl,NX.out⟩
        case measure=>have:=HS.out.2.2.2;omega
       ·have kb:((k:Int)==0)=false:=by simp[k0]
        by_cases st:S=t
        ·have sb:(S==t)=true:=by simp[st]
         have E:=Lib.hid (show fK (R.take (k+1))=t by rw[HS.out.2.1,if_pos (.inr st)])
         clear k0 st
         go_wp2_with fail
         go_roundg (N-(k+1))
         case rel=>exact⟨k+1,by omega,by go_num,by rw[E.out],Nat.le_refl _,rfl,NX.out⟩
         case measure=>have:=HS.out.2.2.2;omega
        ·have sb:(S==t)=false:=by simp[st]
         have E:=Lib.hid (show fK (R.take (k+1))=3 by rw[HS.out.2.1,if_neg (by rintro(h|h);exact k0 h;exact st h)])
         clear k0 st
         go_wp2_with fail
         go_roundg (N-(k+1))
         case rel=>exact⟨k+1,by omega,by go_num,by rw[E.out],Nat.le_refl _,rfl,NX.out⟩
         case measure=>have:=HS.out.2.2.2;omega
     ·obtain rfl:k=N:=by omega
      rw[List.take_of_length_le (by rw[HL.out];exact Nat.le_refl _)]at hall hSr
      rw[List.take_of_length_le (by rw[HL.out];exact Nat.le_refl _)]
      have F:=Lib.hid (HX.out hall)
      obtain⟨S,hS⟩: ∃S,fK R=S:=⟨_,rfl⟩
      rw[hS]at hSr F
      rw[hS]
      clear hS hall hg HX HZ
      obtain rfl|rfl|rfl|rfl|rfl|rfl|rfl|rfl|rfl|rfl|rfl|rfl|rfl|rfl|rfl|rfl|rfl|rfl:o=1\/o=2\/o=3\/o=4\/o=5\/o=6\/o=7\/o=8\/o=9\/o=10\/o=11\/o=12\/o=13\/o=14\/o=15\/o=16\/o=17\/o=18:=by omega
      ·have Z:=Lib.hid (show aI (f+1) x=1 by rw[F.out];simp[bC])
       go_wp2_with fail
       go_ret
       exact⟨gI Z.out.symm,KF.out⟩
      ·have Z:=Lib.hid (show aI (f+1) x=1 by rw[F.out];simp[bC])
       go_wp2_with fail
       go_ret
       exact⟨gI Z.out.symm,KF.out⟩
      ·have Z:=Lib.hid (show aI (f+1) x=1 by rw[F.out];simp[bC])
       go_wp2_with fail
       go_ret
       exact⟨gI Z.out.symm,KF.out⟩
      ·have Z:=Lib.hid (show aI (f+1) x=1 by rw[F.out];simp[bC])
       go_wp2_with fail
       go_ret
       exact⟨gI Z.out.symm,KF.out⟩
      ·by_cases cS:S=1
       ·have Z:=Lib.hid (show aI (f+1) x=1 by rw[F.out];simp[bC,cS])
        have bS:(S==1)=true:=by simp[cS]
        clear cS
        go_wp2_with fail
        go_ret
        exact⟨gI Z.out.symm,KF.out⟩
       ·have Z:=Lib.hid (show aI (f+1) x=0 by rw[F.out];simp[bC,cS])
        have bS:(S==1)=false:=by simp[cS]
        clear cS
        go_wp2_with fail
        go_ret
        exact⟨gI Z.out.symm,KF.out⟩
      ·by_cases cS:S=2
       ·have Z:=Lib.hid (show aI (f+1) x=2 by rw[F.out];simp[bC,cS])
        have bS:(S==2)=true:=by simp[cS]
        clear cS
        go_wp2_with fail
        go_ret
        exact⟨gI Z.out.symm,KF.out⟩
       ·have Z:=Lib.hid (show aI (f+1) x=0 by rw[F.out];simp[bC,cS])
        have bS:(S==2)=false:=by simp[cS]
        clear cS
        go_wp2_with fail
        go_ret
        exact⟨gI Z.out.symm,KF.out⟩
      ·by_cases cS:S=1
       ·have Z:=Lib.hid (show aI (f+1) x=1 by rw[F.out];simp[bC,cS])
        have bS:(S==1)=true:=by simp[cS]
        clear cS
        go_wp2_with fail
        go_ret
        exact⟨gI Z.out.symm,KF.out⟩
       ·have Z:=Lib.hid (show aI (f+1) x=0 by rw[F.out];simp[bC,cS])
        have bS:(S==1)=false:=by simp[cS]
        clear cS
        go_wp2_with fail
        go_ret
        exact⟨gI Z.out.symm,KF.out⟩
      ·by_cases cS:S=1
       ·have Z:=Lib.hid (show aI (f+1) x=1 by rw[F.out];simp[bC,cS])
        have bS:(S==1)=true:=by simp[cS]
        clear cS
        go_wp2_with fail
        go_ret
        exact⟨gI Z.out.symm,KF.out⟩
       ·have Z:=Lib.hid (show aI (f+1) x=0 by rw[F.out];simp[bC,cS])
        have bS:(S==1)=false:=by simp[cS]
        clear cS
        go_wp2_with fail
        go_ret
        exact⟨gI Z.out.symm,KF.out⟩
      ·by_cases cS:S=1
       ·have Z:=Lib.hid (show aI (f+1) x=1 by rw[F.out];simp[bC,cS])
        have bS:(S==1)=true:=by simp[cS]
        clear cS
        go_wp2_with fail
        go_ret
        exact⟨gI Z.out.symm,KF.out⟩
       ·have Z:=Lib.hid (show aI (f+1) x=0 by rw[F.out];simp[bC,cS])
        have bS:(S==1)=false:=by simp[cS]
        clear cS
        go_wp2_with fail
        go_ret
        exact⟨gI Z.out.symm,KF.out⟩
      ·by_cases cS:S=1
       ·have Z:=Lib.hid (show aI (f+1) x=1 by rw[F.out];simp[bC,cS])
        have bS:(S==1)=true:=by simp[cS]
        clear cS
        go_wp2_with fail
        go_ret
        exact⟨gI Z.out.symm,KF.out⟩
       ·have Z:=Lib.hid (show aI (f+1) x=0 by rw[F.out];simp[bC,cS])
        have bS:(S==1)=false:=by simp[cS]
        clear cS
        go_wp2_with fail
        go_ret
        exact⟨gI Z.out.symm,KF.out⟩
      ·by_cases cS:S=1
       ·have Z:=Lib.hid (show aI (f+1) x=1 by rw[F.out];simp[bC,cS])
        have bS:(S==1)=true:=by simp[cS]
        clear cS
        go_wp2_with fail
        go_ret
        exact⟨gI Z.out.symm,KF.out⟩
       ·have Z:=Lib.hid (show aI (f+1) x=0 by rw[F.out];simp[bC,cS])
        have bS:(S==1)=false:=by simp[cS]
        clear cS
        go_wp2_with fail
        go_ret
        exact⟨gI Z.out.symm,KF.out⟩
      ·by_cases cS:S=1
       ·have Z:=Lib.hid (show aI (f+1) x=2 by rw[F.out];simp[bC,cS])
        have bS:(S==1)=true:=by simp[cS]
        clear cS
        go_wp2_with fail
        go_ret
        exact⟨gI Z.out.symm,KF.out⟩
       ·have Z:=Lib.hid (show aI (f+1) x=0 by rw[F.out];simp[bC,cS])
        have bS:(S==1)=false:=by simp[cS]
        clear cS
        go_wp2_with fail
        go_ret
        exact⟨gI Z.out.symm,KF.out⟩
      ·by_cases cS:S=1
       ·have Z:=Lib.hid (show aI (f+1) x=2 by rw[F.out];simp[bC,cS])
        have bS:(S==1)=true:=by simp[cS]
        clear cS
        go_wp2_with fail
        go_ret
        exact⟨gI Z.out.symm,KF.out⟩
       ·have Z:=Lib.hid (show aI (f+1) x=0 by rw[F.out];simp[bC,cS])
        have bS:(S==1)=false:=by simp[cS]
        clear cS
        go_wp2_with fail
        go_ret
        exact⟨gI Z.out.symm,KF.out⟩
      ·by_cases cS:S=3
       ·have Z:=Lib.hid (show aI (f+1) x=0 by rw[F.out];simp[bC,cS])
        have bS:(S !=3)=false:=by simp[cS]
        clear cS
        go_wp2_with fail
        go_ret
        exact⟨gI Z.out.symm,KF.out⟩
       ·have Z:=Lib.hid (show aI (f+1) x=2 by rw[F.out];simp[bC,cS])
        have bS:(S !=3)=true:=by simp[cS]
        clear cS
        go_wp2_with fail
        go_ret
        exact⟨gI Z.out.symm,KF.out⟩
      ·by_cases cS:S=3
       ·have Z:=Lib.hid (show aI (f+1) x=0 by rw[F.out];simp[bC,cS])
        have bS:(S !=3)=false:=by simp[cS]
        clear cS
        go_wp2_with fail
        go_ret
        exact⟨gI Z.out.symm,KF.out⟩
       ·have Z:=Lib.hid (show aI (f+1) x=2 by rw[F.out];simp[bC,cS])
        have bS:(S !=3)=true:=by simp[cS]
        clear cS
        go_wp2_with fail
        go_ret
        exact⟨gI Z.out.symm,KF.out⟩
      ·by_cases cS:S=2
       ·have Z:=Lib.hid (show aI (f+1) x=2 by rw[F.out];simp[bC,cS])
        have bS:(S==2)=true:=by simp[cS]
        clear cS
        go_wp2_with fail
        go_ret
        exact⟨gI Z.out.symm,KF.out⟩
       ·have Z:=Lib.hid (show aI (f+1) x=0 by rw[F.out];simp[bC,cS])
        have bS:(S==2)=false:=by simp[cS]
        clear cS
        go_wp2_with fail
        go_ret
        exact⟨gI Z.out.symm,KF.out⟩
      ·by_cases cS:S=2
       ·have Z:=Lib.hid (show aI (f+1) x=2 by rw[F.out];simp[bC,cS])
        have bS:(S==2)=true:=by simp[cS]
        clear cS
        go_wp2_with fail
        go_ret
        exact⟨gI Z.out.symm,KF.out⟩
       ·have Z:=Lib.hid (show aI (f+1) x=0 by rw[F.out];simp[bC,cS])
        have bS:(S==2)=false:=by simp[cS]
        clear cS
        go_wp2_with fail
        go_ret
        exact⟨gI Z.out.symm,KF.out⟩
      ·obtain rfl:k=3:=by have:=HA.out;simp[arity]at this;omega
       match R,HL.out,HT.out,F.out,Y.out with
       |[ta,tb,tc],_,HT,F,Y=>
        obtain⟨bi,rJ,rfl,hc⟩:=Y.resolve_left (by simp)
        have y0:=hc 0 ta rfl
        have y1:=hc 1 tb rfl
        have y2:=hc 2 tc rfl
        rw[Nat.add_zero]at y0
        have hta:=HT ta (by simp)
        have htb:=HT tb (by simp)
        have htc:=HT tc (by simp)
        have Fx:=Lib.hid F
        clear hc F HT Y
        by_cases ca:ta=2
        ·have ba:(ta==2)=true:=by simp[ca]
         by_cases cb:tb=tc
         ·have bb:(tb==tc)=true:=by simp[cb]
          have Z:=Lib.hid (show aI (f+1) x=tb by rw[Fx.out];simp[bC,ca,cb])
          clear ca cb
          go_wp2_with fail
          refine ak [0,1,2,3,4,5,6,7,8,9,10,11,12] (fun W=>Kept none' wr W) (by kernel_rfl) (by kernel_rfl) rfl (Kept.refl _ _).drew ?_
          simp only[List.map_cons,List.map_nil,List.getElem?_toArray,List.getElem?_cons_zero,List.getElem?_cons_succ,Option.getD_some]
          iterate 13 (first|(apply aV rfl;go_frame)|(apply aj rfl rfl;(intro W hW;have z0:=hW.cell (fun h=>h) y0;have z1:=hW.cell (fun h=>h) y1;have z2:=hW.cell (fun h=>h) y2;go_simp;rfl);go_frame))
          refine aG (fun _=>(Kept.refl _ _).drew) ?_
          go_wp2_with fail
          go_ret
          exact⟨gI Z.out.symm,KF.out.drew⟩
         ·have bb:(tb==tc)=false:=by simp[cb]
          have Z:=Lib.hid (show aI (f+1) x=0 by rw[Fx.out];simp[bC,ca,cb])
          clear ca cb
          go_wp2_with fail
          refine ak [0,1,2,3,4,5,6,7,8,9,10,11,12] (fun W=>Kept none' wr W) (by kernel_rfl) (by kernel_rfl) rfl (Kept.refl _ _).drew ?_
          simp only[List.map_cons,List.map_nil,List.getElem?_toArray,List.getElem?_cons_zero,List.getElem?_cons_succ,Option.getD_some]
          iterate 13 (first|(apply aV rfl;go_frame)|(apply aj rfl rfl;(intro W hW;have z0:=hW.cell (fun h=>h) y0;have z1:=hW.cell (fun h=>h) y1;have z2:=hW.cell (fun h=>h) y2;go_simp;rfl);go_frame))
          refine aG (fun _=>(Kept.refl _ _).drew) ?_
          go_wp2_with fail
          go_ret
          exact⟨gI Z.out.symm,KF.out.drew⟩
        ·have ba:(ta==2)=false:=by simp[ca]
         have Z:=Lib.hid (show aI (f+1) x=0 by rw[Fx.out];simp[bC,ca])
         clear ca
         go_wp2_with fail
         refine ak [0,1,2,3,4,5,6,7,8,9,10,11,12] (fun W=>Kept none' wr W) (by kernel_rfl) (by kernel_rfl) rfl (Kept.refl _ _).drew ?_
         simp only[List.map_cons,List.map_nil,List.getElem?_toArray,List.getElem?_cons_zero,List.getElem?_cons_succ,Option.getD_some]
         iterate 13 (first|(apply aV rfl;go_frame)|(apply aj rfl rfl;(intro W hW;have z0:=hW.cell (fun h=>h) y0;have z1:=hW.cell (fun h=>h) y1;have z2:=hW.cell (fun h=>h) y2;go_simp;rfl);go_frame))
         refine aG (fun _=>(Kept.refl _ _).drew) ?_
         go_wp2_with fail
         go_ret
         exact⟨gI Z.out.symm,KF.out.drew⟩
end Go.Proofs.YtglbkodmmogomaaGreatDoor
