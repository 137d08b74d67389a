/- The document's Do: what a node makes of records. -/
import Derived.Test.YtglbkodmmogomaaGreatDoorS23
set_option linter.unusedVariables false
set_option linter.unusedSimpArgs false
set_option maxHeartbeats 8000000
set_option maxRecDepth 100000
namespace Go.Proofs.YtglbkodmmogomaaGreatDoor
open List Go.Proofs.Tryz
section
open Go Go.RowKit
attribute [local irreducible] dI iO
theorem YF {w w':World}{base n:Nat}{v u v':Value}{L M:List Rec}(hown:w.ownsRow base 68 3 v n (recs L))(hr:Reads w 3 u (recs M))(hlen:L.length+M.length<=1000000)
 (g1:(Builtin.append_ #[60,60] 60 #[v,u]).run prog w= .ok v' w'): ∀k,v'.ownBlock=some k->v.ownBlock=some k\/k=w.heap.size:=by
 obtain⟨i,z,hi,hz,hs,hby,hzs⟩:=Tryz.info68;have hn:n=L.length:=(by have:=hown.1;rw[aQ]at this;omega);subst hn;obtain⟨a,m,cap,rfl,hm1,hm2,hl,hc⟩:=hr;rw[aQ]at hl;have hm:m=M.length:=(by omega);subst hm;by_cases hM:M=[]
 ·subst hM
  have hf: ∀W,(Builtin.firstCells 3 0 (.slice a 0 cap)).run prog W= .ok #[] W:=fun W=>(by cases a<;>simp[Builtin.firstCells,loadCells,loadCellsFrom]);have h2:(Builtin.append_ #[60,60] 60 #[v,.slice a 0 cap]).run prog w= .ok v w:=by
   rcases hown.2 with⟨rfl,h0⟩|⟨g,dK,cur,rfl,hbg,hg,hnc,hcm,hcs,htake⟩
   ·simp[Builtin.append_,run_underlying underlying60,sizeOf,typeInfo,hi,hs,Builtin.lenOf,hf]
   ·simp[Builtin.append_,run_underlying underlying60,sizeOf,typeInfo,hi,hs,Builtin.lenOf,hf,hnc,storeCells]
  rw[show([]:List Rec).length=0 from rfl,h2]at g1
  injection g1 with g1 _
  subst g1;exact fun k hk=> .inl hk
 ·have hne:recs M≠[]:=fun e=>hM (τ (by have:=aQ M;rw[e]at this;simp at this;omega))
  obtain⟨b,off,rfl,hcl⟩:=hc.resolve_left hne;have hpos:0<M.length:=Nat.pos_of_ne_zero (fun h=>hM (τ h));exact uw (P:=prog) base 60 60 68 i z 3 24 underlying60 hi hz hs hby v L.length (recs L) hown ⟨b,off,none⟩ M.length cap (recs M) (aQ M) (fun j x hx=>by rw[Addr.add_lit];exact hcl j x hx) (rQ M) hpos
   (by unfold maxLen;omega) (by omega) g1
def agE (S:Nat->Prop)(I:Tab->World->Option Nat->Prop)(B:Option Nat)(w:World)(x:List Rec×Tab)(e:Ending)(w':World):Prop:=
 ∃v,e= .returned v/\Reads w' 3 v (recs x.1)/\(∀b,Value.blk v=some b->w.heap.size<=b)/\I x.2 w' B/\ε S w w'
def RJ (S:Nat->Prop)(I:Tab->World->Option Nat->Prop)(w:World)(x:List Rec×Tab)(e:Ending)(w':World):Prop:=
 ∃v n,e= .returned v/\w'.ownsRow w.heap.size 68 3 v n (recs x.1)/\I x.2 w' none/\ε S w w'
theorem Ug (S:Nat->Prop)(I:Tab->World->Option Nat->Prop)(nd:dG)(na:Array Value)(tv:Option Addr)(T:Tab)(L:List Rec)(v:Value)(wb w:World)
 (hkb:ε η wb w) (hS: ∀q,S q->wb.heap.size<=q/\q<w.heap.size) (hn:dR wb na nd) (hr:Reads w 3 v (recs L)) (hv: ∀b,Value.blk v=some b-> ¬S b) (hok: ∀r∈L,bF r) (hl:L.length<=1000)
 (hI:I T w none) (hp: ∀T w w' B,I T w B->ε η w w'->I T w' B)
 (ha: ∀T w w' B B',I T w B->ε (fun q=>B=some q) w w'->(∀k,B'=some k->B=some k\/w.heap.size<=k)->I T w' B')
 (hone: ∀T r W B,dR W na nd->I T W B->(∀k,B=some k->k<W.heap.size)->bF r->w.heap.size<=W.heap.size->Calls prog 118 #[.agg na,.pointer tv,.agg #[.int .i64 r.pos,.int .i64 r.key,.int .i64 r.val]] W (agE S I B W (aG nd T r))):
 Calls prog 72 #[.agg na,.pointer tv,v] w (RJ S I w (aI nd T L)):=by
 have HN:=γ hn;obtain⟨uid,inv,p,cap,rfl,hx,hk0,hk1,hn1⟩:=hn;obtain⟨va,dK,rfl,v1,v2,v3⟩:=hr.recAt;unfold maxLen at v2;obtain⟨W0,hW0⟩:=acu (w.alloc (.cells #[.string uid,.int .u8 nd.kind,inv,.int .u8 nd.x.op,.int .i64 nd.x.n,.slice p nd.x.args.length cap,.int .i64 nd.n] 42));have k0:ε η w W0:=(by rw[<-hW0];exact δ.alloc _);have nB:W0.heap[w.heap.size]?=some (.cells #[.string uid,.int .u8 nd.kind,inv,.int .u8 nd.x.op,.int .i64 nd.x.n,.slice p nd.x.args.length cap,.int .i64 nd.n] 42 (0,0)):=(by rw[<-hW0];exact heap_alloc_new _ _);have hs0:w.heap.size<W0.heap.size:=(κ.1 nB).1;have H:=γ (θ hkb (θ hS (θ v3 (θ hv (θ hok (θ hI (θ k0 nB)))))));have HP:=γ hp;have HO:=γ hone;have HAp:=γ ha;have HW:=γ hW0;clear hkb hS hr hv hok hI hp hone ha hx hk0 hk1 hn1 k0 nB hW0 v3;go_enter func72,ntmps72;go_wp2_with fail;rw[HW.o];clear HW;go_loopg [7,8] L.length (fun g vo vi wr=> ∃k:Nat,k<=L.length/\vi= .int .i64 (k:Int)/\L.length-k<=g/\wr.ownsRow W0.heap.size 68 3 vo (aI nd T (L.take k)).1.length (recs (aI nd T (L.take k)).1)/\I (aI nd T (L.take k)).2 wr vo.ownBlock/\ε S W0 wr)
 case atStart=>exact⟨0,by omega,rfl,by omega,World.ownsRow_nil _ _ _ _,HP.o _ _ _ _ H.o.2.2.2.2.2.1 H.o.2.2.2.2.2.2.1,ε.refl _ _⟩
 case round=>
  obtain⟨k,hkl,rfl,hg,hown,hi,hkp⟩:=hrel;obtain⟨wo,rfl⟩: ∃wo:World,wo=wr:=⟨_,rfl⟩;obtain⟨oa,oc,rfl⟩:=au hown;by_cases hlt:k<L.length
  ·obtain⟨r,hr⟩: ∃r,L[k]?=some r:=⟨_,ι hlt⟩
   obtain⟨rb,ro,rfl,hc⟩:=H.o.2.2.1.resolve_left (fun h=>by rw[h]at hlt;simp at hlt);have hSB: ¬S w.heap.size:=fun h=>(by have:=(H.o.2.1 _ h).2;omega);have hSr: ¬S rb:=H.o.2.2.2.1 rb (by unfold Value.blk;simp only;rw[if_neg (by omega)]);obtain⟨q0,q1,q2⟩:=hc k r hr;have kw:ε S w wo:=H.o.2.2.2.2.2.2.1.pure.trans hkp;have r0:=kw.cell (p:=⟨rb,ro+k*3,none⟩) hSr q0;have r1:=kw.cell (p:=⟨rb,ro+k*3+1,none⟩) hSr q1;have r2:=kw.cell (p:=⟨rb,ro+k*3+2,none⟩) hSr q2;have oB:=hkp.heap H.o.2.2.2.2.2.2.2 hSB;have n0:=ζ oB (j:=0) (v:= .string uid) rfl;have n1:=ζ oB (j:=1) (v:= .int .u8 nd.kind) rfl;have n2:=ζ oB (j:=2) (v:=inv) rfl;have n3:=ζ oB (j:=3) (v:= .int .u8 nd.x.op) rfl;have n4:=ζ oB (j:=4) (v:= .int .i64 nd.x.n) rfl;have n5:=ζ oB (j:=5) (v:= .slice p nd.x.args.length cap) rfl;have n6:=ζ oB (j:=6) (v:= .int .i64 nd.n) rfl;have kd:ε η wo wo.drew:=δ.drew;have hbw:ε η wb wo.drew:=(H.o.1.new kw (fun q hq hs=>by have:=(H.o.2.1 q hs).1;omega)).trans kd;have c1:=HO.o (aI nd T (L.take k)).2 r wo.drew _ (HN.o.pure hbw) (HP.o _ _ _ _ hi kd) (fun q hq=>(hown.lt q hq).2) (H.o.2.2.2.2.1 r (ς hr)) kw.size;have hno: ∀q,q<W0.heap.size-> ¬(Value.slice oa (aI nd T (L.take k)).1.length oc).ownBlock=some q:=fun q hq e=>(by have:=(hown.lt _ e).1;omega);have hrw:rb<W0.heap.size:=(by have:rb<w.heap.size:=block_lt_of_cell q0;omega);have hsn:aI nd T (L.take (k+1))=((aI nd T (L.take k)).1++(aG nd (aI nd T (L.take k)).2 r).1,(aG nd (aI nd T (L.take k)).2 r).2):=(by rw[ψ,hr];exact vW nd r _ _);have hln:=Rl nd (L.take k) T;rw[υ]at hln;have hst:=O9 nd (aI nd T (L.take k)).2 r;obtain⟨X,hX⟩:=acu (aI nd T (L.take k));rw[hX]at hown hi c1 hno hsn hln hst⊢;have Y:=γ (θ n0 (θ n1 (θ n2 (θ n3 (θ n4 (θ n5 (θ n6 (θ r0 (θ r1 r2)))))))));have G:=γ (θ hg (θ hown (θ hkp hsn)));clear hg hown hi hkp hsn hc hr q0 q1 q2 oB n0 n1 n2 n3 n4 n5 n6 r0 r1 r2 kd hbw hX kw;go_wp2;refine ak [0,1,2,3,4,5,6,7,8,9] (fun W=>ε (fun q=>(Value.slice oa X.1.length oc).ownBlock=some q\/S q) wo W) (by kernel_rfl) (by kernel_rfl) rfl δ.drew ?_;simp only[aco];have hz1: ¬((Value.slice oa X.1.length oc).ownBlock=some w.heap.size\/S w.heap.size):=fun h=>h.elim (hno _ hs0) hSB;have hz2: ¬((Value.slice oa X.1.length oc).ownBlock=some rb\/S rb):=fun h=>h.elim (hno _ hrw) hSr;iterate 7 (apply aj rfl rfl;(intro W hW;have o0:=hW.cell hz1 Y.o.1;have o1:=hW.cell hz1 Y.o.2.1;have o2:=hW.cell hz1 Y.o.2.2.1;have o3:=hW.cell hz1 Y.o.2.2.2.1;have o4:=hW.cell hz1 Y.o.2.2.2.2.1;have o5:=hW.cell hz1 Y.o.2.2.2.2.2.1;have o6:=hW.cell hz1 Y.o.2.2.2.2.2.2.1;have o7:=hW.cell (p:=⟨rb,ro+k*3,none⟩) hz2 Y.o.2.2.2.2.2.2.2.1;have o8:=hW.cell (p:=⟨rb,ro+k*3+1,none⟩) hz2 Y.o.2.2.2.2.2.2.2.2.1;have o9:=hW.cell (p:=⟨rb,ro+k*3+2,none⟩) hz2 Y.o.2.2.2.2.2.2.2.2.2;go_simp;rfl);go_frame)
   apply ay rfl rfl;intro K hK;go_wp2_with fail;refine c1.mono ?_;clear c1;rintro e w5 ⟨u,rfl,hu,hub,hi5,k5⟩;obtain⟨ua,uc,rfl,-,-,-⟩:=Reads.recAt hu;go_wp2_with fail;have zJ:ε S wo w5:=k5.aW;refine hK _ _ (fun _=>zJ.mono (fun _ _ h=> .inr h)) ?_;clear hK;have Ce:=zJ.owns G.o.2.1 (fun q hq hs=>by have:=(G.o.2.1.lt q hq).1;have:=(H.o.2.1 q hs).2;omega);obtain⟨v6,n6,w6,g1,g2,g3,g4,-⟩:=pF Ce hu (by have:=G.o.2.2.1.size;have:=zJ.size;omega) (by omega);subst g3;have k56:ε (fun q=>(Value.slice oa X.1.length oc).ownBlock=some q) w5 w6:=ε.grown g4 (fun q hq _=>hq);have k6:ε (fun q=>(Value.slice oa X.1.length oc).ownBlock=some q\/S q) wo w6:=(zJ.mono (fun _ _ h=> .inr h)).trans (k56.mono (fun _ _ h=> .inl h));have kS:ε S W0 w6:=(G.o.2.2.1.trans zJ).new k56 (fun q hq hs=>by have:=(Ce.lt q hs).1;omega);have hwh:=YF Ce hu (by omega) g1;have hi6:=HAp.o _ _ w6 _ v6.ownBlock hi5 k56 (fun q hq=>(hwh q hq).imp id (fun h=>by omega));obtain⟨a6,c6,rfl⟩:=au g2
   have F:=γ (show w6.ownsRow W0.heap.size 68 3 (.slice a6 (X.1.length+(aG nd X.2 r).1.length) c6) (aI nd T (L.take (k+1))).1.length (recs (aI nd T (L.take (k+1))).1)/\I (aI nd T (L.take (k+1))).2 w6 (Value.slice a6 (X.1.length+(aG nd X.2 r).1.length) c6).ownBlock/\ε S W0 w6 from by
    rw[G.o.2.2.2]
    exact⟨by rw[ν];exact g2,hi6,kS⟩)
   apply ay rfl rfl;intro K hK;refine rZ (.tmp 15) (.tmp 22) 60 rfl (.slice oa X.1.length oc) (.slice ua (aG nd X.2 r).1.length uc) (.slice a6 (X.1.length+(aG nd X.2 r).1.length) c6) rfl rfl g1 ?_;refine hK _ _ (fun _=>k6) ?_;clear hK;apply aj rfl rfl
   ·intro W hW;go_simp;rfl
   go_frame;refine aA (fun _=>k6) ?_;clear g1 g2 g4 hwh hi6 kS k56 Ce hu hub hi5 k5 zJ hst;have hG:=G.o.1;clear k6 hz1 hz2 hno;go_wp2;go_roundg (L.length-(k+1))
   case rel=>exact⟨k+1,by omega,by go_num,ξ _,F.o⟩
   case measure=>omega
  ·have e1:k=L.length:=by omega
   subst e1;rw[take_length]at hown hi;have F:acr (RJ S I w (aI nd T L) (.returned (.slice oa (aI nd T L).1.length oc)) wo):=(by show RJ _ _ _ _ _ _;exact⟨_,_,rfl,⟨hown.1,hown.2.imp id fun⟨g,cap,cur,e1,e2,rest⟩=>⟨g,cap,cur,e1,by omega,rest⟩⟩,HAp.o _ _ _ _ none hi δ (fun k (h:(none:Option Nat)=some k)=>nomatch h),H.o.2.2.2.2.2.2.1.pure.trans hkp⟩);rw[take_length];clear hown hi hkp hg;go_wp2;go_ret;exact F.o
theorem aaW (nd:dG)(na:Array Value)(tv:Option Addr)(T:Tab)(L:List Rec)(v:Value)(w:World)(hn:dR w na nd)(hr:Reads w 3 v (recs L))(hok: ∀r∈L,bF r)(hl:L.length<=1000)(h6:nd.kind≠6)(h7:nd.kind≠7):
 Calls prog 72 #[.agg na,.pointer tv,v] w (RJ η (fun _ _ _=>True) w (aI nd T L)):=by
 refine Ug η (fun _ _ _=>True) nd na tv T L v w w δ (fun _ h=>h.elim) hn hr (fun _ _ h=>h) hok hl trivial (fun _ _ _ _ _ _=>trivial) (fun _ _ _ _ _ _ _ _=>trivial) (fun T r W B hN _ _ hR _=>?_);refine(Vy nd na tv T r W hN hR h6 h7).mono ?_;rintro e W' ⟨v,rfl,h1,h2,h3⟩;exact⟨v,rfl,h1,h2,trivial,h3⟩
def adl (w:World)(D:Nat)(T0 T:Tab)(W:World)(B:Option Nat):Prop:= ∀M:Nat->Prop,bP w M D T0->bP W (fun q=>(M q\/w.heap.size<=q)/\B≠some q) D T
theorem aaV (nd:dG)(na:Array Value)(D:Nat)(T:Tab)(L:List Rec)(v:Value)(wb w:World)(hkb:ε η wb w)(hD:wb.heap.size<=D)(hn:dR wb na nd)(hr:Reads w 3 v (recs L))(hv: ∀b,Value.blk v=some b->b≠D)(hok: ∀r∈L,bF r)(hl:L.length<=1000)
 (hT:RTabAt w D T) (hk:nd.kind=6\/nd.kind=7):
 Calls prog 72 #[.agg na,.pointer (some ⟨D,0,none⟩),v] w (RJ (one D) (adl w D T) w (aI nd T L)):=by
 have hDl:=IJ hT;have hT0:=bP.old hT (ε.refl η w);refine Ug (one D) (adl w D T) nd na (some ⟨D,0,none⟩) T L v wb w hkb (fun q h=>by unfold one at h;omega) hn hr (fun b hb h=>hv b hb h) hok hl
  (fun M h=>h.mono (fun q hq=>⟨.inl hq,fun h=>by cases h⟩)) (fun T W W' B h hk M hM=>(h M hM).kept hk (fun _ h=>h.elim)) (fun T W W' B B' h hk hB M hM=>?_) (fun T' r W B hN hI hB hR hsz=>?_)
 ·refine((h M hM).Gx.kept hk (fun q hq hn=>hn.1.2 hq)).mono (fun q hq=>⟨hq.1.1,fun hB'=>?_⟩)
  rcases hB q hB' with h1|h1
  ·exact hq.1.2 h1
  ·omega
 ·have hc:Calls prog 118 #[.agg na,.pointer (some ⟨D,0,none⟩),.agg #[.int .i64 r.pos,.int .i64 r.key,.int .i64 r.val]] W (yI W D nd T' r):=by
   rcases hk with hk|hk
   ·exact aaQ nd na D T' r W hN hR (hI _ hT0).at hk
   ·exact Vx nd na D T' r W hN hR (hI _ hT0).at hk
  refine hc.mono ?_;rintro e W' ⟨v,rfl,h1,h2,h3,h4,h5⟩;refine⟨v,rfl,h1,h2,fun M hM=>(h5 _ (hI M hM)).mono (fun q hq=>?_),h4⟩
  rcases hq with hq|hq
  ·exact hq
  ·exact⟨.inr (by omega),fun hB'=>by have:=hB q hB';omega⟩
theorem bP.agn {w w':World}{M:Nat->Prop}{D D':Nat}{T U:Tab}(h:RTabAt w D T)(hu:bP w M D' U)(hk:ε (one D) w w')(hne:D'≠D):bP w' M D' U:=by
 obtain⟨⟨tv,eU,ht⟩,_⟩:=h;obtain⟨pa,jI,rfl,_⟩:=ht.parts;obtain⟨v,cs,h1,h2,h3,h4,h5⟩:=hu.out;have hne2:=h2.rD eU (by omega) h3.first;refine⟨hu.ok,hu.dot,v,cs,hk.heap h1 (fun e=>hne e),h2.kept hk (fun b hb e=>hne2 b hb e),⟨h3.1,fun i p hp=>?_⟩,h4,h5⟩;obtain⟨a,b,lv,c,d⟩:=h3.2 i p hp
 exact⟨a,b,lv,c,d.kept hk (fun g hg e=>d.rD eU (by omega) (fun y hy=>by
  obtain⟨q,ql⟩:=p
  cases hl:ql.2 with
  |nil=>rw[hl]at hy;cases hy
  |cons q l=>rw[hl]at hy;cases hy;exact⟨_,_,rfl⟩) g hg e)⟩
end
section
open Go Go.RowKit
attribute [local irreducible] dI
theorem wU (k:Int)(w:World):Calls prog 61 #[.int .u8 k] w fun e w'=>e= .returned (.bool (stateful k))/\w=w':=by
 have e:stateful k=(k==6||k==7):=rfl;rw[e];clear e;by_cases h6:k=6
 ·subst h6
  go_enter func61,ntmps61;go_wp2;go_ret;exact⟨rfl,rfl⟩
 ·have h1:(k==6)=false:=by simp[h6]
  rw[h1,Bool.false_or];go_enter func61,ntmps61;go_wp2;go_ret;exact⟨rfl,rfl⟩
theorem Yz (d:JN)(a:Array Value)(b:Nat)(T:Tab)(w:World)(h:oq w a d)(hT:RTabAt w b T):
 Calls prog 19 #[.agg a,.pointer (some ⟨b,0,none⟩)] w (Gives w (.bool (fP d.kind d.n T))):=by
 obtain⟨pi,ci,p,cap,rfl,_,_,_,hk0,hk1,hn,_⟩:=h;obtain⟨hn1,hn2⟩:=hn;have kA:ε η w (w.alloc (.cells (bQ d pi ci p cap) 42)):=δ.alloc _;have tA:=hT.pure kA;have hbB:(w.alloc (.cells (bQ d pi ci p cap) 42)).heap[w.heap.size]?=some (.cells (bQ d pi ci p cap) 42 (0,0)):=heap_alloc_new _ _;obtain⟨W1,hW1⟩:=acu (w.alloc (.cells (bQ d pi ci p cap) 42));rw[hW1]at kA tA hbB;obtain⟨⟨v,eU,hrt⟩,hok⟩:=tA;obtain⟨pa,jI,rfl,hc1,hc2,hcl⟩:=hrt.parts;have hT320:=hok.len;unfold maxLen at hc2;have HC:=γ (θ hcl (θ hok (θ kA (θ eU hbB))));have HW:=γ hW1;clear eU hrt hcl hok kA hbB hT hW1;go_enter func19,ntmps19;go_wp2_with fail;rw[HW.o];go_wp2;go_loopg [5] T.length (fun g vi wr=> ∃k:Nat,k<=T.length/\vi= .int .i64 (k:Int)/\T.length-k<=g/\ε η W1 wr/\ ∀(m:Nat)(p:Int×Cell),m<k->T[m]?=some p->bD d.kind d.n p.2=true)
 case atStart=>exact⟨0,by omega,rfl,by omega,ε.refl _ _,fun m e hm=>by omega⟩
 case round=>
  obtain⟨k,hk,rfl,hg,hkp,hyes⟩:=hrel;have c0:wr.cell? ⟨b,0,none⟩=some (.slice pa T.length jI):=ζ (hkp.heap HC.o.2.2.2.1 id) rfl;have z1:wr.cell? ⟨w.heap.size,1,none⟩=some (.int .u8 d.kind):=ζ (hkp.heap HC.o.2.2.2.2 id) rfl;have z4:wr.cell? ⟨w.heap.size,6,none⟩=some (.int .i64 d.n):=ζ (hkp.heap HC.o.2.2.2.2 id) rfl;have TY:w.heap.size<wr.heap.size:=block_lt_of_cell z1;by_cases hlt:k<T.length
  ·obtain⟨q,hq⟩: ∃q,T[k]?=some q:=⟨_,ι hlt⟩
   obtain⟨rb,ro,rfl,hr⟩:=HC.o.1.resolve_left (fun h=>by rw[h]at hq;cases hq);obtain⟨x0,x1,lv,x2,x3⟩:=(hr k q hq).pure hkp;obtain⟨key,acc,L⟩:=q;have FI:=HC.o.2.1.cell _ (ς hq);have aiE:L.length<=16:=FI.2.2;obtain⟨ha1,ha2⟩:aJ acc:=FI.1;obtain⟨la,lc,rfl,hlc,_⟩:=x3.at;have HQ:=γ hq;have Jh:=γ hyes;have G:=γ (θ hg hkp);clear hq hyes hg hkp hr FI x0 x3 hlc;simp only at x1 x2;obtain⟨uid,kind,ins,x,n⟩:=d;simp only at z1 z4 hn1 hn2 hk0 hk1;have KA:=γ (show ε η wr (wr.alloc (.cells #[.int .i64 acc,.slice la L.length lc] 109))from δ.alloc _);have y1:=KA.o.cell id z1;have y4:=KA.o.cell id z4;by_cases k6:kind=6
   ·subst k6
    by_cases b1:0<L.length
    ·have F:=γ (qG (ς HQ.o) (show bD 6 n (acc,L)=false from(fB _ _ _).2 (.inl ⟨rfl,b1⟩)))
     go_wp2;go_ret;exact⟨dw F.o.symm,HC.o.2.2.1.trans (G.o.2.trans (δ.alloc _))⟩
    ·have F:=γ (xE Jh.o HQ.o (show bD 6 n (acc,L)=true by
      cases h:bD 6 n (acc,L)with
      |true=>rfl
      |false=>
       have h2:=(fB _ _ _).1 h;simp only at h2
       omega))
     go_wp2;go_roundg (T.length-(k+1))
     case rel=>exact⟨k+1,by omega,by go_num,ξ _,G.o.2.trans (δ.alloc _),F.o⟩
     case measure=>have:=G.o.1;omega
   ·by_cases k7:kind=7
    ·subst k7
     by_cases b1:acc=0
     ·by_cases b2:L.length<1
      ·have F:=γ (qG (ς HQ.o) (show bD 7 n (acc,L)=false from(fB _ _ _).2 (.inr ⟨rfl,.inr (.inl b2)⟩)))
       go_wp2;go_ret;exact⟨dw F.o.symm,HC.o.2.2.1.trans (G.o.2.trans (δ.alloc _))⟩
      ·by_cases b3:n<=(L.length:Int)
       ·have F:=γ (qG (ς HQ.o) (show bD 7 n (acc,L)=false from(fB _ _ _).2 (.inr ⟨rfl,.inr (.inr b3)⟩)))
        go_wp2;go_ret;exact⟨dw F.o.symm,HC.o.2.2.1.trans (G.o.2.trans (δ.alloc _))⟩
       ·have F:=γ (xE Jh.o HQ.o (show bD 7 n (acc,L)=true by
         cases h:bD 7 n (acc,L)with
         |true=>rfl
         |false=>
          have h2:=(fB _ _ _).1 h;simp only at h2
          omega))
        go_wp2;go_roundg (T.length-(k+1))
        case rel=>exact⟨k+1,by omega,by go_num,ξ _,G.o.2.trans (δ.alloc _),F.o⟩
        case measure=>have:=G.o.1;omega
     ·have F:=γ (qG (ς HQ.o) (show bD 7 n (acc,L)=false from(fB _ _ _).2 (.inr ⟨rfl,.inl b1⟩)))
      go_wp2;go_ret;exact⟨dw F.o.symm,HC.o.2.2.1.trans (G.o.2.trans (δ.alloc _))⟩
    ·have F:=γ (xE Jh.o HQ.o (show bD kind n (acc,L)=true by
      cases h:bD kind n (acc,L)with
      |true=>rfl
      |false=>
       have h2:=(fB _ _ _).1 h;simp only at h2
       omega))
     go_wp2;go_roundg (T.length-(k+1))
     case rel=>exact⟨k+1,by omega,by go_num,ξ _,G.o.2.trans (δ.alloc _),F.o⟩
     case measure=>have:=G.o.1;omega
  ·have e1:k=T.length:=by omega
   subst e1;have cs:=wU d.kind wr;have F:=γ (θ hyes hkp);clear hyes hkp;go_wp2_with fail;refine cs.mono ?_;rintro e w' ⟨rfl,rfl⟩;go_wp2;go_ret;refine⟨dw ?_,HC.o.2.2.1.trans F.o.2⟩
   cases hs:stateful d.kind with
   |false=>unfold fP;rw[hs];rfl
   |true=>exact(J8 hs F.o.1).symm
end
section
open Go Go.RowKit
def rp (pm:Nat->Nat)(Ts:Tabs):List Value:=(range Ts.length).map fun i=> .pointer ((Ts.getD i none).map fun _=>⟨pm i,0,none⟩)
theorem sD (pm:Nat->Nat)(Ts:Tabs):(rp pm Ts).length=Ts.length:=by unfold rp;simp
theorem xO {pm:Nat->Nat}{Ts:Tabs}{i:Nat}{t:Option Tab}(h:Ts[i]?=some t):(rp pm Ts)[i]?=some (.pointer (t.map fun _=>⟨pm i,0,none⟩)):=by have hi:=(μ.1 h).1;unfold rp;rw[aav,getElem?_range hi];simp[σ,h]
theorem adz (pm:Nat->Nat)(n:Nat):rp pm (replicate n none)=replicate n (.pointer none):=by
 apply ext_getElem?;intro i;by_cases hi:i<n
 ·rw[xO (t:=none) (by rw[getElem?_replicate,if_pos hi]),getElem?_replicate,if_pos hi];rfl
 ·rw[aak (by rw[sD,length_replicate];omega),aak (by rw[length_replicate];omega)]
theorem Yt (pm:Nat->Nat)(Ts:Tabs)(i b:Nat)(T:Tab):rp (fun k=>if k=i then b else pm k) (Ts.set i (some T))=(rp pm Ts).set i (.pointer (some ⟨b,0,none⟩)):=by
 apply ext_getElem?;intro k;rw[getElem?_set,sD];by_cases hk:k<Ts.length
 ·by_cases e:i=k
  ·subst e
   rw[if_pos rfl,if_pos hk,xO (t:=some T) (by rw[getElem?_set,if_pos rfl,if_pos hk])];simp
  ·obtain⟨t,ht⟩: ∃t,Ts[k]?=some t:=⟨_,ι hk⟩
   rw[if_neg e,xO ht,xO (t:=t) (by rw[getElem?_set,if_neg e];exact ht)];rw[if_neg (fun h=>e h.symm)]
 ·rw[aak (by rw[sD,length_set];omega)]
  by_cases e:i=k
  ·rw[if_pos e,if_neg (by omega)]
  ·rw[if_neg e,aak (by rw[sD];omega)]
structure jQ (w:World)(M:Nat->Prop)(Ts:Tabs)(pm:Nat->Nat):Prop where
 tab: ∀(i:Nat)(T:Tab),Ts[i]?=some (some T)->bP w M (pm i) T
 inj: ∀(i k:Nat)(T U:Tab),Ts[i]?=some (some T)->Ts[k]?=some (some U)->i≠k->pm i≠pm k
theorem jQ.none (w:World)(M:Nat->Prop)(m:Nat)(pm:Nat->Nat):jQ w M (replicate m none) pm:=
 ⟨fun i T h=>by rw[getElem?_replicate]at h;split at h<;>simp at h,fun i k T U h=>by rw[getElem?_replicate]at h;split at h<;>simp at h⟩
theorem jQ.kept {w w':World}{M S:Nat->Prop}{Ts:Tabs}{pm:Nat->Nat}(h:jQ w M Ts pm)(hk:ε S w w')(hS: ∀q,S q-> ¬M q):jQ w' M Ts pm:=
 ⟨fun i T hT=>(h.tab i T hT).kept hk hS,h.inj⟩
theorem jQ.pure {w w':World}{M:Nat->Prop}{Ts:Tabs}{pm:Nat->Nat}(h:jQ w M Ts pm)(hk:ε η w w'):jQ w' M Ts pm:=h.kept hk (fun _ h=>h.elim)
theorem jQ.mono {w:World}{M M':Nat->Prop}{Ts:Tabs}{pm:Nat->Nat}(h:jQ w M Ts pm)(hM: ∀q,M q->M' q):jQ w M' Ts pm:=⟨fun i T hT=>(h.tab i T hT).mono hM,h.inj⟩
theorem bP.lt {w:World}{M:Nat->Prop}{b:Nat}{T:Tab}(h:bP w M b T):b<w.heap.size:=by obtain⟨v,cs,h1,_⟩:=h.out;exact(κ.1 h1).1
theorem jQ.lt {w:World}{M:Nat->Prop}{Ts:Tabs}{pm:Nat->Nat}(h:jQ w M Ts pm)(k:Nat)(U:Tab)(hU:Ts[k]?=some (some U)):pm k<w.heap.size:=(h.tab k U hU).lt
theorem jQ.set {w:World}{M:Nat->Prop}{Ts:Tabs}{pm:Nat->Nat}(h:jQ w M Ts pm){i b:Nat}{T:Tab}(hT:bP w M b T)(hb: ∀(k:Nat)(U:Tab),Ts[k]?=some (some U)->pm k≠b):
 jQ w M (Ts.set i (some T)) (fun k=>if k=i then b else pm k):=by
 refine⟨fun k U hU=>?_,fun k m U V hU hV hne=>?_⟩
 ·rw[getElem?_set]at hU
  by_cases e:i=k
  ·subst e
   rw[if_pos rfl]at hU;split at hU
   ·injection hU with hU;injection hU with hU;subst hU
    simp only[if_true];exact hT
   ·cases hU
  ·rw[if_neg e]at hU
   simp only[if_neg (fun h:k=i=>e h.symm)];exact h.tab k U hU
 ·rw[getElem?_set]at hU hV
  show(if k=i then b else pm k)≠(if m=i then b else pm m);by_cases e:i=k
  ·subst e
   have e2: ¬m=i:=fun h=>hne h.symm;rw[if_neg (fun h=>hne h)]at hV;rw[if_pos rfl,if_neg e2];exact fun h=>hb m V hV h.symm
  ·rw[if_neg e]at hU
   rw[if_neg (fun h=>e h.symm)];by_cases e2:i=m
   ·subst e2
    rw[if_pos rfl];exact hb k U hU
   ·rw[if_neg e2]at hV
    rw[if_neg (fun h=>e2 h.symm)];exact h.inj k m U V hU hV hne
theorem bP.new (w:World){M:Nat->Prop}(hM:M w.heap.size):bP (w.alloc (.cells #[.slice none 0 0] 103)) M w.heap.size []:=
 ⟨fC.nil,hM,.slice none 0 0,[],heap_alloc_new _ _,Reads.nil _ _,cu.nil _,(fun b (hb:(none:Option Nat)=some b)=>nomatch hb),fun i lv (hl:(none:Option Value)=some lv)=>nomatch hl⟩
theorem DF {w:World}{n k c:Nat}{a:Option Addr}{Ts:Tabs}{pm:Nat->Nat}(h:w.ownsRow n 46 1 (.slice a k c) Ts.length (rp pm Ts)){i:Nat}{t:Option Tab}(ht:Ts[i]?=some t):
 ∃g,a=some ⟨g,0,none⟩/\k=Ts.length/\k<=c/\c<=maxLen/\n<=g/\w.cell? ⟨g,i,none⟩=some (.pointer (t.map fun _=>⟨pm i,0,none⟩))/\w.frozen? ⟨g,i,none⟩=false:=by
 have hi:=(μ.1 ht).1
 rcases h.2 with⟨_,e⟩|⟨g,cap,cur,e,hb,hg,hc1,hc2,hcs,htk⟩
 ·omega
 ·injection e with e1 e2 e3
  subst e1 e2 e3;refine⟨g,rfl,rfl,hc1,hc2,hb,?_,h.frozenAt i⟩;rw[h.cellAt i (by omega),xO ht]
theorem Tryz.info46: ∃i z,Tryz.prog.info? 46=some i/\i.zero=some z/\i.size=1/\i.bytes=8/\z.cells.size=1:=by have h:(prog.info? 46).map (fun i=>(i.zero,i.size,i.bytes))=some (some (.pointer none),1,8):=(by kernel_rfl);obtain⟨i,hi,h⟩:=acg.1 h;simp only[Prod.mk.injEq]at h;exact⟨i,_,hi,h.1,h.2.1,h.2.2,by rfl⟩
theorem aaY {w:World}{base n:Nat}{va:Value}{l:List Value}(h:w.ownsRow base 46 1 va n l)(hb:base<=w.heap.size)(hn:n<=100000):
 ∃g cap w',(Builtin.append_ #[88,88] 88 #[va,.slice (some ⟨w.heap.size,0,none⟩) 1 1]).run prog (w.alloc (.cells #[.pointer none] 46))= .ok (.slice (some ⟨g,0,none⟩) (n+1) cap) w'/\
  w'.ownsRow base 46 1 (.slice (some ⟨g,0,none⟩) (n+1) cap) (n+1) (l++[.pointer none])/\ε (fun k=>va.ownBlock=some k) w w':=by
 obtain⟨i,z,hi,hz,hs,hby,hzs⟩:=Tryz.info46;exact lK underlying88 hi hz hs hby hzs rfl h hn (by omega) hb 88
end
section
open Go Go.RowKit
attribute [local irreducible] dI iO
def pR (w:World)(base:Nat)(vm:Value)(M:List (List Rec)):Prop:=
 ∃ms:List Value,w.ownsRow base 60 1 vm M.length ms/\ ∀(i:Nat)(L:List Rec),M[i]?=some L-> ∃v n,ms[i]?=some v/\w.ownsRow base 68 3 v n (recs L)
theorem pR.kept {S:Nat->Prop}{w w':World}{base:Nat}{vm:Value}{M:List (List Rec)}(h:pR w base vm M)(hk:ε S w w')(hS: ∀q,S q->q<base):pR w' base vm M:=by obtain⟨ms,h1,h2⟩:=h;refine⟨ms,hk.owns h1 (fun q hq hs=>by have:=(h1.lt q hq).1;have:=hS q hs;omega),fun i L hL=>?_⟩;obtain⟨v,n,a,b⟩:=h2 i L hL;exact⟨v,n,a,hk.owns b (fun q hq hs=>by have:=(b.lt q hq).1;have:=hS q hs;omega)⟩
theorem pR.pure {w w':World}{base:Nat}{vm:Value}{M:List (List Rec)}(h:pR w base vm M)(hk:ε η w w'):pR w' base vm M:=h.kept hk (fun _ h=>h.elim)
theorem pR.push {w:World}{base:Nat}{vm:Value}{M:List (List Rec)}(h:pR w base vm M){u:Value}{n:Nat}{L:List Rec}(hu:w.ownsRow base 68 3 u n (recs L))(hb:base<=w.heap.size)(hn:M.length<=1000):
 ∃g cap w',(Builtin.append_ #[142,142] 142 #[vm,.slice (some ⟨w.heap.size,0,none⟩) 1 1]).run prog (w.alloc (.cells #[u] 60))= .ok (.slice (some ⟨g,0,none⟩) (M.length+1) cap) w'/\
  pR w' base (.slice (some ⟨g,0,none⟩) (M.length+1) cap) (M++[L])/\ε (fun q=>vm.ownBlock=some q) w w'/\(vm.ownBlock=some g\/w.heap.size<=g):=by
 obtain⟨ms,h1,h2⟩:=h;obtain⟨i60,z60,hi,hz,hs,hby,hzc⟩:=Tryz.info60;have hone:u.oneCell'=true:=by
  rcases hu.2 with⟨rfl,_⟩|⟨_,_,_,rfl,_⟩<;>rfl
 obtain⟨g,cap,w',p1,p2,p3⟩:=lK underlying142 hi hz hs hby hzc hone h1 (by omega) (by omega) hb 142;have hl:ms.length=M.length:=(by have:=h1.1;omega);refine⟨g,cap,w',p1,⟨ms++[u],by rw[ν];exact p2,fun i K hK=>?_⟩,p3,?_⟩
 ·have keep: ∀{v:Value}{m:Nat}{K:List Rec},w.ownsRow base 68 3 v m (recs K)->w'.ownsRow base 68 3 v m (recs K):=fun hv=>p3.owns hv (fun q hq hs=>qp hv h1 (by decide) q hq hs)
  by_cases hi:i<M.length
  ·rw[Ω hi]at hK
   obtain⟨v,m,a,b⟩:=h2 i K hK;exact⟨v,m,by rw[Ω (by omega)];exact a,keep b⟩
  ·have hi2:i=M.length:=by have:=(μ.1 hK).1;simp at this;omega
   subst hi2;rw[Ψ (ξ _),Nat.sub_self]at hK
   injection hK with hK
   subst hK;exact⟨u,n,by rw[Ψ (by omega),hl,Nat.sub_self];rfl,keep hu⟩
 ·have kA:ε η w (w.alloc (.cells #[u] 60)):=δ.alloc _
  have hw:=uw (P:=prog) base 142 142 60 i60 z60 1 24 underlying142 hi hz hs hby vm M.length ms (kA.owns h1 (fun _ _ h=>h)) ⟨w.heap.size,0,none⟩ 1 1 [u] rfl
   (fun j x hx=>by
     match j,hx with
     |0,hx=>cases hx;exact ζ (heap_alloc_new w (.cells #[u] 60)) rfl) (fun x hx=>by rw[ach.1 hx];exact hone) (by omega) (by unfold maxLen;omega) (by omega) p1 g rfl
  rcases hw with hw|hw
  ·exact .inl hw
  ·right;rw[hw];simp
structure mP (w:World)(n0:Nat)(M:Nat->Prop)(Ts:Tabs)(pm:Nat->Nat):Prop where
 tab: ∀(i:Nat)(T:Tab),Ts[i]?=some (some T)->n0<=pm i/\bP w M (pm i) T
 inj: ∀(i k:Nat)(T U:Tab),Ts[i]?=some (some T)->Ts[k]?=some (some U)->i≠k->pm i≠pm k
theorem mP.pure {w w':World}{n0:Nat}{M:Nat->Prop}{Ts:Tabs}{pm:Nat->Nat}(h:mP w n0 M Ts pm)(hk:ε η w w'):mP w' n0 M Ts pm:=
 ⟨fun i T hT=>⟨(h.tab i T hT).1,(h.tab i T hT).2.kept hk (fun _ h=>h.elim)⟩,h.inj⟩
theorem mP.mono {w:World}{n0:Nat}{M M':Nat->Prop}{Ts:Tabs}{pm:Nat->Nat}(h:mP w n0 M Ts pm)(hM: ∀q,M q->q<w.heap.size->M' q):mP w n0 M' Ts pm:=
 ⟨fun i T hT=>⟨(h.tab i T hT).1,(h.tab i T hT).2.Gx.mono (fun q hq=>hM q hq.1 hq.2)⟩,h.inj⟩
theorem mP.grow {w w':World}{n0:Nat}{M:Nat->Prop}{B B':Option Nat}{Ts:Tabs}{pm:Nat->Nat}(h:mP w n0 (fun q=>M q/\B≠some q) Ts pm)(hk:ε (fun q=>B=some q) w w')(hB: ∀q,B'=some q->B=some q\/w.heap.size<=q):mP w' n0 (fun q=>M q/\B'≠some q) Ts pm:=
 ⟨fun i T hT=>⟨(h.tab i T hT).1,((h.tab i T hT).2.Gx.kept hk (fun q hq hn=>hn.1.2 hq)).mono (fun q hq=>⟨hq.1.1,fun hB'=>by
   rcases hB q hB' with h1|h1
   ·exact hq.1.2 h1
   ·omega⟩)⟩,h.inj⟩
theorem mP.turn {w w':World}{n0:Nat}{M:Nat->Prop}{Ts:Tabs}{pm:Nat->Nat}(h:mP w n0 M Ts pm){i:Nat}{T T':Tab}(hT:Ts[i]?=some (some T))(hk:ε (one (pm i)) w w')(ht:bP w' M (pm i) T'):mP w' n0 M (Ts.set i (some T')) pm:=by
 have hlen:=(μ.1 hT).1;have hset: ∀(k:Nat)(U:Tab),(Ts.set i (some T'))[k]?=some (some U)-> ∃V,Ts[k]?=some (some V)/\(k=i->U=T')/\(k≠i->U=V):=fun k U hU=>by
  by_cases e:k=i
  ·subst e
   rw[getElem?_set_self hlen]at hU
   injection hU with hU;injection hU with hU
   exact⟨T,hT,fun _=>hU.symm,fun h=>absurd rfl h⟩
  ·rw[getElem?_set_ne (fun h=>e h.symm)]at hU
   exact⟨U,hU,fun h=>absurd h e,fun _=>rfl⟩
 refine⟨fun k U hU=>?_,fun k m U V hU hV hne=>?_⟩
 ·obtain⟨V,hV,e1,e2⟩:=hset k U hU
  refine⟨(h.tab k V hV).1,?_⟩;by_cases e:k=i
  ·subst e
   rw[e1 rfl];exact ht
  ·rw[e2 e]
   exact bP.agn (h.tab i T hT).2.at (h.tab k V hV).2 hk (h.inj k i V T hV hT e)
 ·obtain⟨U',yt,_⟩:=hset k U hU
  obtain⟨V',hV',_⟩:=hset m V hV;exact h.inj k m U' V' yt hV' hne
def xQ (Ts:Tabs)(pm:Nat->Nat):Nat->Prop:=fun q=> ∃(i:Nat)(T:Tab),Ts[i]?=some (some T)/\pm i=q
theorem mP.notS {w:World}{n0:Nat}{M:Nat->Prop}{Ts:Tabs}{pm:Nat->Nat}(h:mP w n0 M Ts pm){b E:Nat}{c:Array Value}{f:Nat×Nat}(hb:w.heap[b]?=some (.cells c E f))(hE:E≠103): ¬xQ Ts pm b:=by
 rintro⟨i,T,hT,rfl⟩;obtain⟨v,cs,h1,_⟩:=(h.tab i T hT).2.out;rw[hb]at h1
 injection h1 with h1
 injection h1 with _ h1 _
 exact hE h1
theorem mP.ltS {w:World}{n0:Nat}{M:Nat->Prop}{Ts:Tabs}{pm:Nat->Nat}(h:mP w n0 M Ts pm){q:Nat}(hq:xQ Ts pm q):n0<=q/\q<w.heap.size:=by obtain⟨i,T,hT,rfl⟩:=hq;exact⟨(h.tab i T hT).1,(h.tab i T hT).2.lt⟩
def RG (M:Nat->Prop)(wb w:World)(j:Jb)(Ts:Tabs)(pm:Nat->Nat)(key val:Int)(e:Ending)(w':World):Prop:=
 ∃v,e= .returned v/\Reads w' 3 v (recs (gW j.nodes Ts key val).1)/\(∀b,Value.blk v=some b->w.heap.size<=b)/\mP w' wb.heap.size (fun q=>M q\/w.heap.size<=q) (gW j.nodes Ts key val).2 pm/\ε (xQ Ts pm) w w'
theorem pR.cell {w:World}{base k c:Nat}{a:Option Addr}{M:List (List Rec)}(h:pR w base (.slice a k c) M){i:Nat}{L:List Rec}(hL:M[i]?=some L):
 ∃g u n,a=some ⟨g,0,none⟩/\k=M.length/\k<=c/\c<=maxLen/\w.cell? ⟨g,i,none⟩=some u/\w.ownsRow base 68 3 u n (recs L):=by
 obtain⟨ms,h1,h2⟩:=h;obtain⟨u,n,a1,a2⟩:=h2 i L hL;have hi:=(μ.1 hL).1;have hm:=h1.1
 rcases h1.2 with⟨_,e⟩|⟨g,cap,cur,e,_,_,hc1,hc2,_⟩
 ·omega
 ·injection e with e1 e2 e3
  subst e1 e2 e3;exact⟨g,u,n,rfl,rfl,hc1,hc2,by rw[h1.cellAt i (by omega)];exact a1,a2⟩
theorem Ul {w:World}{base base' e size n:Nat}{v:Value}{xs:List Value}(h:w.ownsRow base e size v n xs)(hb:base'<=base):w.ownsRow base' e size v n xs:=
 ⟨h.1,h.2.imp id fun⟨g,cap,cur,e1,e2,rest⟩=>⟨g,cap,cur,e1,ω hb e2,rest⟩⟩
theorem YB (M:Nat->Prop)(j:Jb)(b n0:Nat)(nv tv:Value)(Ts:Tabs)(pm:Nat->Nat)(key val:Int)(wb w:World)(hkb:ε η wb w)(hob:w.heap[b]?=some (.cells #[.int .i64 j.par,nv,tv] 90 (0,0)))(hn:iR wb nv j.nodes)
 (hrow:w.ownsRow n0 46 1 tv Ts.length (rp pm Ts)) (htb:mP w wb.heap.size M Ts pm) (hj:iD j=true) (hR:JR j.nodes) (hT:iI j.nodes Ts) (hk:aJ key) (hv:aJ val):
 Calls prog 28 #[.pointer (some ⟨b,0,none⟩),.int .i64 key,.int .i64 val] w (RG M wb w j Ts pm key val):=by
 have hrec:bF ⟨1,key,val⟩:=⟨.small (by simp) (by simp),hk,hv⟩;obtain⟨na,cap,rfl,h1,h2,h3⟩:=hn.at;obtain⟨ta,tc,rfl⟩:=au hrow;have h12:2<=j.nodes.length/\j.nodes.length<=12:=(by have:=(qB hj).1;unfold fE at this;simp only[Bool.or_eq_false_iff,decide_eq_false_iff_not]at this;omega);obtain⟨h12,h13⟩:=h12;have x1:w.cell? ⟨b,1,none⟩=some (.slice na j.nodes.length cap):=ζ hob rfl;have FO:=γ (Ls hj hR hT hrec rfl);have hnb: ¬xQ Ts pm b:=htb.notS hob (by decide);have hbl:b<w.heap.size:=(κ.1 hob).1;have H:=γ (θ hkb (θ hob (θ h3 (θ hrow (θ htb (θ hj (θ hT hrec)))))));unfold maxLen at h2;clear hkb hob hn h3 hrow htb hj hR hT hrec;go_enter func28,ntmps28;go_wp2;go_loopg [7,8] j.nodes.length (fun g vo vi wr=> ∃k:Nat,k<=j.nodes.length/\vi= .int .i64 (k:Int)/\j.nodes.length-k<=g/\pR wr w.heap.size vo (iE j.nodes ⟨1,key,val⟩ Ts k).1/\(∃a c,vo= .slice a k c)/\mP wr wb.heap.size (fun q=>(M q\/w.heap.size<=q)/\vo.ownBlock≠some q) (iE j.nodes ⟨1,key,val⟩ Ts k).2 pm/\ε (xQ Ts pm) w wr)
 case atStart=>exact⟨0,by omega,rfl,by omega,⟨[],World.ownsRow_nil _ _ _ _,fun i L h=>by simp[iE]at h⟩,⟨_,_,rfl⟩,H.o.2.2.2.2.1.mono (fun q hq _=>⟨.inl hq,fun h=>by cases h⟩),ε.refl _ _⟩
 case round=>
  obtain⟨k,hkn,rfl,hg,hmd,⟨ma,mc,rfl⟩,htb,hkp⟩:=hrel;obtain⟨wo,rfl⟩: ∃wo:World,wo=wr:=⟨_,rfl⟩;have kwb:ε η wb wo:=H.o.1.new hkp (fun q hq hs=>by have:=(H.o.2.2.2.2.1.ltS hs).1;omega);have ob:=hkp.heap H.o.2.1 hnb;have x1:wo.cell? ⟨b,1,none⟩=some (.slice na j.nodes.length cap):=ζ ob rfl;have x2:wo.cell? ⟨b,2,none⟩=some (.slice ta Ts.length tc):=ζ ob rfl;have hbw:b<wo.heap.size:=block_lt_of_cell x1;have hww:=hkp.size;have hF:=FO.o k hkn;by_cases hlt:k<j.nodes.length
  ·obtain⟨d,hd⟩: ∃d,j.nodes[k]?=some d:=⟨_,ι hlt⟩
   obtain⟨nb,off,pi,ci,p,cap',rfl,hc,hjn⟩:=H.o.2.2.1 k d hd;obtain⟨c0,c1,c2,c3,c4,c5,c6⟩:=hc.kept kwb id;have Hg:=Qk H.o.2.2.2.2.2.1 H.o.2.2.2.2.2.2.2 rfl hd hF;have hstep:iE j.nodes ⟨1,key,val⟩ Ts (k+1)=_:=zi hd ⟨1,key,val⟩ (iE j.nodes ⟨1,key,val⟩ Ts k);have hmay:=qR H.o.2.2.2.2.2.1 hd;obtain⟨st,hst⟩:=acu (iE j.nodes ⟨1,key,val⟩ Ts k);rw[hst]at hmd htb Hg hstep hF;have hTl:=H.o.2.2.2.2.2.2.1.len;obtain⟨tk,htk⟩: ∃tk,Ts[k]?=some tk:=⟨_,ι (by omega)⟩;obtain⟨gb,rfl,-,-,ht2,-,-,-⟩:=DF H.o.2.2.2.1 htk;have hgS: ¬xQ Ts pm gb:=by
    rcases H.o.2.2.2.1.2 with⟨e,_⟩|⟨g,_,cur,e,_,hg,_⟩
    ·cases e
    ·injection e with e1 _ _
     injection e1 with e1
     injection e1 with e1
     subst e1;exact H.o.2.2.2.2.1.notS hg (by decide)
   have z0:=hkp.cell (p:=⟨gb,k,none⟩) hgS (by
    obtain⟨gb',e,-,-,-,-,z,-⟩:=DF H.o.2.2.2.1 htk
    injection e with e
    injection e with e
    subst e
    exact z)
   unfold maxLen at ht2
   have SK:=γ (show(stateful d.kind=true-> ∃T,st.2[k]?=some (some T)/\tk.isSome=true)/\(stateful d.kind=false->st.2.getD k none=none/\tk=none)from by
    refine⟨fun hs=>?_,fun hs=>?_⟩
    ·obtain⟨T,h1,_⟩:=hF.tabs.has k d hd hs
     obtain⟨U,h2,_⟩:=H.o.2.2.2.2.2.2.1.has k d hd hs;rw[htk]at h2
     injection h2 with h2
     exact⟨T,h1,by rw[h2];rfl⟩
    ·have h1:=hF.tabs.not k d hd hs
     have h2:=H.o.2.2.2.2.2.2.1.not k d hd hs;rw[htk]at h2
     injection h2 with h2
     exact⟨by rw[σ,h1];rfl,h2⟩)
   obtain⟨W1,hW1⟩:=acu ((wo.alloc (.cells (bQ d pi ci p cap') 42)).alloc (.cells #[.int .i64 1,.int .i64 key,.int .i64 val] 68));have kA:ε η wo W1:=(by rw[<-hW1];exact(δ.alloc _).alloc _);have nB:W1.heap[wo.heap.size]?=some (.cells (bQ d pi ci p cap') 42 (0,0)):=(by rw[<-hW1];exact((ε.refl η _).alloc _).heap (heap_alloc_new _ _) id);have JE:Reads W1 3 (.slice (some ⟨wo.heap.size+1,0,none⟩) 1 1) (recs [(⟨1,key,val⟩:Rec)]):=(by rw[<-hW1];have:=Reads.lit (wo.alloc (.cells (bQ d pi ci p cap') 42)) [.int .i64 1,.int .i64 key,.int .i64 val] 68 3 1 rfl (by unfold maxLen;omega);rwa[World.size_alloc]at this);have hW1':(wo.alloc (.cells #[.string d.uid,.int .u8 d.kind,.slice pi d.ins.length ci,.int .u8 d.x.op,.int .i64 d.x.n,.slice p d.x.args.length cap',.int .i64 d.n] 42)).alloc (.cells #[.int .i64 1,.int .i64 key,.int .i64 val] 68)=W1:=hW1;have hs1:wo.heap.size<W1.heap.size:=(κ.1 nB).1;have G:=γ (θ hg (θ hmd (θ htb (θ hkp (θ hstep Hg)))));have HM:=γ hmay;have Bz:=γ (θ hjn kwb);have KA:=γ (θ kA (θ nB JE));have HW1:=γ hW1';have HL:=γ hF.len;have HZ:=γ (θ x1 (θ x2 z0));have uF:=γ (θ htk hd);clear hg hmd htb hkp hstep Hg hmay hjn kwb kA nB JE hW1 hW1' hF x2 z0 hc hst htk hd ob;by_cases hk0:k=0
   case' pos=>
    have hin:fO ⟨1,key,val⟩ d k st.1=[⟨1,key,val⟩]:=if_pos hk0;have e0: ¬(0<k):=(by omega);have IN:=γ hin;clear hk0 hin;go_wp2_with fail;rw[HW1.o];clear c0 c1 c2 c3 c4 c5 c6 e0;obtain⟨W2,hW2⟩: ∃W2,W2=W1:=⟨_,rfl⟩;have k12:ε η W1 W2:=by rw[hW2];exact ε.refl _ _
    have X2:=γ (show Reads W2 3 (.slice (some ⟨wo.heap.size+1,0,none⟩) 1 1) (recs (fO ⟨1,key,val⟩ d k st.1))/\(∀q,Value.blk (.slice (some ⟨wo.heap.size+1,0,none⟩) 1 1)=some q->wo.heap.size<=q)from by
     rw[IN.o,hW2];exact⟨KA.o.2.2,fun q hq=>by cases hq;simp⟩)
    rw[<-hW2];clear hW2;obtain⟨ia,il,ic,hia⟩: ∃ia il ic,(Value.slice (some ⟨wo.heap.size+1,0,none⟩) 1 1)= .slice ia il ic:=⟨_,_,_,rfl⟩;rw[hia]at X2⊢;clear hia
   case' neg=>
    have hin:fO ⟨1,key,val⟩ d k st.1=jC d.kind (insOf d st.1):=if_neg hk0;have e0:0<k:=(by omega);have IN:=γ hin;have QF:=γ (G.o.2.2.2.2.2.2.2.2.2 hk0);have Qr:Reads wb 1 (.slice pi d.ins.length ci) (ints d.ins):=(by obtain⟨pi',ci',p',cap2,e,_,h3,_⟩:=Bz.o.1;have:=congrArg (fun a=>a[2]?) e;simp at this;obtain⟨rfl,rfl⟩:=this;exact h3);have RI:=γ Qr.acC;have aiD:d.ins.length<=1000:=(by have:=HM.o.ins;omega);clear hk0 hin Qr;go_wp2_with fail;rw[HW1.o];clear c0 c1 c2 c3 c4 c5 c6 e0;go_loopg [11,12] d.ins.length (fun g vr vi wq=> ∃(i:Nat)(vs:List Value),i<=d.ins.length/\vi= .int .i64 (i:Int)/\d.ins.length-i<=g/\wq.ownsRow W1.heap.size 60 1 vr i vs/\(∀(q:Nat)(u:Value),vs[q]?=some u-> ∃L,(insOf d st.1)[q]?=some L/\Reads W1 3 u (recs L))/\ε η W1 wq)
    case atStart=>exact⟨0,[],by omega,rfl,by omega,World.ownsRow_nil _ _ _ _,fun q u h=>by simp at h,ε.refl _ _⟩
    case' round=>
     obtain⟨i,vs,hin,rfl,hgi,hown,hvs,hkq⟩:=hrel;obtain⟨Un,Um,rfl⟩:=au hown;have nq:=hkq.heap KA.o.2.1 id;have m2:wr.cell? ⟨wo.heap.size,2,none⟩=some (.slice pi d.ins.length ci):=ζ nq rfl;have hsq:wo.heap.size<wr.heap.size:=block_lt_of_cell m2;by_cases hil:i<d.ins.length
     case' pos=>
      obtain⟨x,hx⟩: ∃x,d.ins[i]?=some x:=⟨_,ι hil⟩;obtain⟨hx0,hxk⟩:=HM.o.low x (ς hx);obtain⟨q,rfl⟩:=Int.eq_ofNat_of_zero_le hx0;obtain⟨bi,bW,rfl,hci⟩:=RI.o.resolve_left (fun h=>by rw[h]at hx;cases hx);have kq:ε η wo wr:=KA.o.1.trans hkq;have z1:=(Bz.o.2.trans kq).cell id (hci i _ hx);obtain⟨L,hL⟩: ∃L,st.1[q]?=some L:=⟨_,ι (by rw[HL.o];omega)⟩;obtain⟨mg,u,nu,rfl,hkm,hmc1,aby,hu,qW⟩:=(G.o.2.1.pure KA.o.1).cell hL;obtain⟨ua,uc,rfl⟩:=au qW;have hu1:=hkq.cell id hu;have hqk:q<k:=by omega
      unfold maxLen at aby
      have hul:nu=L.length:=(by have h1:=qW.1;rw[aQ]at h1;omega);subst hul;obtain⟨iC,w',g1,g2,g3⟩:=PI hown (u:= .slice ua L.length uc) rfl hkq.size (by omega);obtain⟨a2,cc2,rfl⟩:=au g2;have hLi:(insOf d st.1)[i]?=some L:=(by unfold insOf;rw[aav,hx];simp only[Option.map_some,Int.toNat_natCast,σ,hL,Δ]);have hlen:vs.length=i:=by have:=hown.1;omega
      have Z:=γ (θ g1 (θ g2 (θ (hkq.new g3 (fun k hk hs=>by omega)) (θ hgi (show∀(q:Nat)(u:Value),(vs++[Value.slice ua L.length uc])[q]?=some u-> ∃L,(insOf d st.1)[q]?=some L/\Reads W1 3 u (recs L)from by
       intro q2 u2 hu2;by_cases hq2:q2<vs.length
       ·rw[Ω hq2]at hu2
        exact hvs q2 u2 hu2
       ·have:q2=vs.length:=by have:=(μ.1 hu2).1;simp at this;omega
        subst this;rw[Ψ (ξ _),Nat.sub_self]at hu2;cases hu2
        exact⟨L,by rw[hlen];exact hLi,Reads.aN qW⟩)))))
      clear g1 g2 g3 hkq hown hvs kq hci qW hu hLi hlen hL hgi hkm nq hx0 hxk hx;go_wp2_with (at_builtin;refine jL rfl (.tmp 44) (.tmp 53) 142 rfl _ _ _ rfl rfl Z.o.1 ?_);go_roundg (d.ins.length-(i+1))
      case rel=>exact⟨i+1,_,by omega,by go_num,ξ _,Z.o.2.1,Z.o.2.2.2.2,Z.o.2.2.1⟩
      case measure=>have:=Z.o.2.2.2.1;omega
     case' neg=>
      have hie:i=d.ins.length:=(by omega);subst hie;have hlen:vs.length=d.ins.length:=(by have:=hown.1;omega);have hr2:oP wr (.slice Un d.ins.length Um) (insOf d st.1):=(by refine⟨vs,by rw[hlen];unfold insOf;rw[length_map],Reads.aN hown,fun q u L hu hL=>?_⟩;obtain⟨L',h1,h2⟩:=hvs q u hu;rw[hL]at h1;cases h1;exact h2.pure hkq);have kq:ε η wo wr:=KA.o.1.trans hkq;have cg:=Yx _ d.iL _ (insOf d st.1) wr ((Bz.o.1.pure (Bz.o.2.trans kq)).iL) hr2 (by have:=QF.o.1;omega) (by have:=QF.o.2;omega);have m0:=ζ nq (j:=0) rfl;have m1:=ζ nq (j:=1) rfl;have m3:=ζ nq (j:=3) rfl;have m4:=ζ nq (j:=4) rfl;have m5:=ζ nq (j:=5) rfl;have m6:=ζ nq (j:=6) rfl;have KQ:=γ hkq;clear hr2 hown hvs hkq kq nq;go_wp2_with fail;refine cg.mono ?_;clear cg m0 m1 m2 m3 m4 m5 m6;rintro e W2 ⟨iv,rfl,uj,hblk,k2⟩;obtain⟨ia,ic,rfl⟩:=uj.slice_form;obtain⟨il,ae8⟩:=acu ((jC d.iL.kind (insOf d st.1)).length);rw[ae8]at uj hblk⊢;have k12:ε η W1 W2:=KQ.o.trans k2
      have X2:=γ (show Reads W2 3 (.slice ia il ic) (recs (fO ⟨1,key,val⟩ d k st.1))/\(∀q,Value.blk (.slice ia il ic)=some q->wo.heap.size<=q)from by
       rw[IN.o];exact⟨uj,fun q hq=>by have:=hblk q hq;omega⟩)
      clear hblk k2 uj ae8 KQ hsq;go_wp2_with fail
   all_goals
    have jF:ε η wo W2:=KA.o.1.trans k12;have zH:=k12.heap KA.o.2.1 id;have Zc:ε η W2 W2.drew:=δ.drew;have Es:ε η wo W2.drew:=jF.trans Zc;obtain⟨hrd,hrb⟩:=X2.o;have Wh:=G.o.2.1.pure Es;have I9:=G.o.2.2.1.pure Es;have acM:(fO ⟨1,key,val⟩ d k st.1).length<=1000:=(by have:=G.o.2.2.2.2.2.2.2.2.1;omega);have qw: ∀q,(Value.slice ma k mc).ownBlock=some q->w.heap.size<=q/\q<wo.heap.size:=fun q hq=>(by obtain⟨ms,h1,_⟩:=G.o.2.1;exact h1.lt q hq);have n0':=ζ zH (j:=0) (v:= .string d.uid) rfl;have n1':=ζ zH (j:=1) (v:= .int .u8 d.kind) rfl;have n2':=ζ zH (j:=2) (v:= .slice pi d.ins.length ci) rfl;have n3':=ζ zH (j:=3) (v:= .int .u8 d.x.op) rfl;have n4':=ζ zH (j:=4) (v:= .int .i64 d.x.n) rfl;have n5':=ζ zH (j:=5) (v:= .slice p d.x.args.length cap') rfl;have n6':=ζ zH (j:=6) (v:= .int .i64 d.n) rfl;have y2:=jF.cell (p:=⟨b,2,none⟩) id HZ.o.2.1;have y3:=jF.cell (p:=⟨gb,k,none⟩) id HZ.o.2.2;have hgw:gb<w.heap.size:=(H.o.2.2.2.1.lt gb rfl).2;have aiM:=H.o.2.2.2.2.2.2.1.len;have hkT:(k:Int)<(Ts.length:Int):=(by omega);have YY:=γ (θ y2 (θ y3 (θ n0' (θ n1' (θ n2' (θ n3' (θ n4' (θ n5' n6'))))))));have htake:st.1.length=k:=HL.o;clear y2 y3 n0' n1' n2' n3' n4' n5' n6' aiM x1
    cases hst:stateful d.kind with
    |true=>
     obtain⟨T,hT,hsome⟩:=SK.o.1 hst;obtain⟨T0,hT0⟩:=Option.isSome_iff_exists.1 hsome;have QD:d.iL.kind=6\/d.iL.kind=7:=Ec hst;have hDw:=H.o.2.2.2.2.1.ltS ⟨k,T0,by rw[uF.o.1,hT0],rfl⟩;have hDb: ¬pm k=b:=fun e=>hnb ⟨k,T0,by rw[uF.o.1,hT0],e⟩;have hDg: ¬pm k=gb:=fun e=>hgS ⟨k,T0,by rw[uF.o.1,hT0],e⟩;have cd:=aaV d.iL (bQ d pi ci p cap') (pm k) T (fO ⟨1,key,val⟩ d k st.1) (.slice ia il ic) wb W2.drew (Bz.o.2.trans Es) hDw.1 Bz.o.1.iL (hrd.pure Zc) (fun q hq e=>by have:=hrb q hq;omega) (fun r hr=>G.o.2.2.2.2.2.1 r hr) acM (I9.tab k T hT).2.at QD
     have HS:=γ (show iE j.nodes ⟨1,key,val⟩ Ts (k+1)=(st.1++[(aI d.iL T (fO ⟨1,key,val⟩ d k st.1)).1],st.2.set k (some (aI d.iL T (fO ⟨1,key,val⟩ d k st.1)).2))from by
      rw[G.o.2.2.2.2.1];have e1:st.2.getD k none=some T:=by rw[σ,hT];rfl
      rw[e1];rfl)
     obtain⟨O,hO⟩:=acu (aI d.iL T (fO ⟨1,key,val⟩ d k st.1));rw[hO]at cd HS;have hsub:(⟨k,T0⟩:Nat×Tab).1=k:=rfl;have HP:=γ (show Ts[k]?=some (some T0)from by rw[uF.o.1,hT0]);subst hT0;clear hst hsome hsub hO;go_wp2;refine ak [0,1,2,3,4,5,6,7,8,9,10,11,12,13] (fun W=>ε (fun q=>(Value.slice ma k mc).ownBlock=some q\/q=pm k) W2 W) (by kernel_rfl) (by kernel_rfl) rfl δ.drew ?_;simp only[aco];have q1: ¬((Value.slice ma k mc).ownBlock=some b\/b=pm k):=fun h=>h.elim (fun h=>by have:=qw b h;omega) (fun h=>hDb h.symm);have q2: ¬((Value.slice ma k mc).ownBlock=some gb\/gb=pm k):=fun h=>h.elim (fun h=>by have:=qw gb h;omega) (fun h=>hDg h.symm);have q3: ¬((Value.slice ma k mc).ownBlock=some wo.heap.size\/wo.heap.size=pm k):=fun h=>h.elim (fun h=>by have:=qw _ h;omega) (fun h=>by omega);iterate 10 (apply aj rfl rfl;(intro W hW;have o0:=hW.cell (p:=⟨b,2,none⟩) q1 YY.o.1;have o1:=hW.cell (p:=⟨gb,k,none⟩) q2 YY.o.2.1;have o2:=hW.cell q3 YY.o.2.2.1;have o3:=hW.cell q3 YY.o.2.2.2.1;have o4:=hW.cell q3 YY.o.2.2.2.2.1;have o5:=hW.cell q3 YY.o.2.2.2.2.2.1;have o6:=hW.cell q3 YY.o.2.2.2.2.2.2.1;have o7:=hW.cell q3 YY.o.2.2.2.2.2.2.2.1;have o8:=hW.cell q3 YY.o.2.2.2.2.2.2.2.2;simp only[Option.map_some]at o1;go_simp;rfl);go_frame)
     apply ay rfl rfl;intro K hK;go_wp2_with fail;refine cd.mono ?_;clear cd;rintro e W5 ⟨u,nu,rfl,hu,hmem,k5⟩;go_wp2_with fail;have k25:ε (one (pm k)) W2 W5:=k5.aW;refine hK _ _ (fun _=>k25.mono (fun _ _ h=> .inr h)) ?_;clear hK;have QC:=Wh.kept k5 (fun q hq=>by unfold one at hq;omega);have Qp:=I9.turn hT k5 ((hmem _ (I9.tab k T hT).2).mono (fun q hq=>hq.1.elim id (fun h=>⟨.inr (by have:=Es.size;omega),fun h2=>by have:=(qw q h2).2;have:=Es.size;omega⟩)));have hsz5:wo.heap.size<=W5.heap.size:=(by have:=jF.size;have:=k25.size;omega);obtain⟨g,gc,W7,p1,p2,p3,p4⟩:=QC.push (Ul hu (by have:=Es.size;omega)) (by omega) (by omega);have FD:=Qp.grow p3 (B':=(Value.slice (some ⟨g,0,none⟩) (st.1.length+1) gc).ownBlock) (fun q hq=>by cases hq;exact p4);rw[htake]at p1 p2 FD;have Ew:ε (xQ Ts pm) w W7:=(((G.o.2.2.2.1.trans jF.pure).trans (k25.mono (fun q _ hq=>⟨k,T0,HP.o,hq.symm⟩))).new p3 (fun q hq hs=>by have:=qw q hs;omega))
     have F:=γ (show pR W7 w.heap.size (.slice (some ⟨g,0,none⟩) (k+1) gc) (iE j.nodes ⟨1,key,val⟩ Ts (k+1)).1/\mP W7 wb.heap.size (fun q=>(M q\/w.heap.size<=q)/\(Value.slice (some ⟨g,0,none⟩) (k+1) gc).ownBlock≠some q) (iE j.nodes ⟨1,key,val⟩ Ts (k+1)).2 pm/\ε (xQ Ts pm) w W7 from by
      rw[HS.o];exact⟨p2,FD,Ew⟩)
     have P1:=γ p1;obtain⟨ua,uc,rfl⟩:=au hu;apply ay rfl rfl;intro K hK;go_wp2;refine hK _ _ (fun _=>(k25.alloc _).mono (fun _ _ h=> .inr h)) ?_;clear hK;apply ay rfl rfl;intro K hK;refine rZ (.tmp 58) (.tmp 69) 142 rfl (.slice ma k mc) (.slice (some ⟨W5.heap.size,0,none⟩) 1 1) (.slice (some ⟨g,0,none⟩) (k+1) gc) rfl rfl P1.o ?_;have k27:ε (fun q=>(Value.slice ma k mc).ownBlock=some q\/q=pm k) W2 W7:=(k25.mono (fun _ _ h=> .inr h)).trans (p3.mono (fun _ _ h=> .inl h));refine hK _ _ (fun _=>k27) ?_;clear hK;apply aj rfl rfl
     ·intro W hW;go_simp;rfl
     go_frame;refine aA (fun _=>k27) ?_;have hG:=G.o.1;clear p1 p2 p3 p4 FD Ew Qp QC hu hmem k5 k25 k27 q1 q2 q3 hrd hrb Wh I9 jF Es Zc zH hsz5 qw;go_wp2;go_roundg (j.nodes.length-(k+1))
     case rel=>exact⟨k+1,by omega,by go_num,ξ _,F.o.1,⟨_,_,rfl⟩,F.o.2⟩
     case measure=>omega
    |false=>
     obtain⟨hT,hT0⟩:=SK.o.2 hst;have h6:d.iL.kind≠6:=fun e=>(by have:d.kind=6:=e;rw[this]at hst;cases hst);have h7:d.iL.kind≠7:=fun e=>(by have:d.kind=7:=e;rw[this]at hst;cases hst);have cd:=aaW d.iL (bQ d pi ci p cap') none [] (fO ⟨1,key,val⟩ d k st.1) (.slice ia il ic) W2.drew (Bz.o.1.iL.pure (Bz.o.2.trans Es)) (hrd.pure Zc) (fun r hr=>G.o.2.2.2.2.2.1 r hr) acM h6 h7
     have HS:=γ (show iE j.nodes ⟨1,key,val⟩ Ts (k+1)=(st.1++[(aI d.iL [] (fO ⟨1,key,val⟩ d k st.1)).1],st.2)from by
      rw[G.o.2.2.2.2.1,hT];show(_,st.2.set k none)=_
      congr 1
      apply ext_getElem?;intro i;rw[getElem?_set];by_cases e:k=i
      ·subst e
       rw[if_pos rfl];by_cases hl:k<st.2.length
       ·rw[if_pos hl]
        rw[σ,ι hl]at hT;rw[ι hl];exact congrArg some hT.symm
       ·rw[if_neg hl,aak (by omega)]
      ·rw[if_neg e])
     obtain⟨O,hO⟩:=acu (aI d.iL [] (fO ⟨1,key,val⟩ d k st.1));rw[hO]at cd HS;subst hT0;clear hst hO h6 h7 hT;go_wp2;refine ak [0,1,2,3,4,5,6,7,8,9,10,11,12,13] (fun W=>ε (fun q=>(Value.slice ma k mc).ownBlock=some q) W2 W) (by kernel_rfl) (by kernel_rfl) rfl δ.drew ?_;simp only[aco];have q1: ¬(Value.slice ma k mc).ownBlock=some b:=fun h=>(by have:=qw b h;omega);have q2: ¬(Value.slice ma k mc).ownBlock=some gb:=fun h=>(by have:=qw gb h;omega);have q3: ¬(Value.slice ma k mc).ownBlock=some wo.heap.size:=fun h=>(by have:=qw _ h;omega);iterate 10 (apply aj rfl rfl;(intro W hW;have o0:=hW.cell (p:=⟨b,2,none⟩) q1 YY.o.1;have o1:=hW.cell (p:=⟨gb,k,none⟩) q2 YY.o.2.1;have o2:=hW.cell q3 YY.o.2.2.1;have o3:=hW.cell q3 YY.o.2.2.2.1;have o4:=hW.cell q3 YY.o.2.2.2.2.1;have o5:=hW.cell q3 YY.o.2.2.2.2.2.1;have o6:=hW.cell q3 YY.o.2.2.2.2.2.2.1;have o7:=hW.cell q3 YY.o.2.2.2.2.2.2.2.1;have o8:=hW.cell q3 YY.o.2.2.2.2.2.2.2.2;simp only[Option.map_none]at o1;go_simp;rfl);go_frame)
     apply ay rfl rfl;intro K hK;go_wp2_with fail;refine cd.mono ?_;clear cd;rintro e W5 ⟨u,nu,rfl,hu,-,k5⟩;go_wp2_with fail;have k25:ε η W2 W5:=k5.aW;refine hK _ _ (fun _=>k25.pure) ?_;clear hK;have QC:=Wh.pure k5;have Qp:=I9.pure k5;have hsz5:wo.heap.size<=W5.heap.size:=(by have:=jF.size;have:=k25.size;omega);obtain⟨g,gc,W7,p1,p2,p3,p4⟩:=QC.push (Ul hu (by have:=Es.size;omega)) (by omega) (by omega);have FD:=Qp.grow p3 (B':=(Value.slice (some ⟨g,0,none⟩) (st.1.length+1) gc).ownBlock) (fun q hq=>by cases hq;exact p4);rw[htake]at p1 p2 FD;have Ew:ε (xQ Ts pm) w W7:=((G.o.2.2.2.1.trans (jF.trans k25).pure).new p3 (fun q hq hs=>by have:=qw q hs;omega))
     have F:=γ (show pR W7 w.heap.size (.slice (some ⟨g,0,none⟩) (k+1) gc) (iE j.nodes ⟨1,key,val⟩ Ts (k+1)).1/\mP W7 wb.heap.size (fun q=>(M q\/w.heap.size<=q)/\(Value.slice (some ⟨g,0,none⟩) (k+1) gc).ownBlock≠some q) (iE j.nodes ⟨1,key,val⟩ Ts (k+1)).2 pm/\ε (xQ Ts pm) w W7 from by
      rw[HS.o];exact⟨p2,FD,Ew⟩)
     have P1:=γ p1;obtain⟨ua,uc,rfl⟩:=au hu;apply ay rfl rfl;intro K hK;go_wp2;refine hK _ _ (fun _=>(k25.alloc _).pure) ?_;clear hK;apply ay rfl rfl;intro K hK;refine rZ (.tmp 58) (.tmp 69) 142 rfl (.slice ma k mc) (.slice (some ⟨W5.heap.size,0,none⟩) 1 1) (.slice (some ⟨g,0,none⟩) (k+1) gc) rfl rfl P1.o ?_;have k27:ε (fun q=>(Value.slice ma k mc).ownBlock=some q) W2 W7:=k25.pure.trans p3;refine hK _ _ (fun _=>k27) ?_;clear hK;apply aj rfl rfl
     ·intro W hW;go_simp;rfl
     go_frame;refine aA (fun _=>k27) ?_;have hG:=G.o.1;clear p1 p2 p3 p4 FD Ew Qp QC hu k5 k25 k27 q1 q2 q3 hrd hrb Wh I9 jF Es Zc zH hsz5 qw;go_wp2;go_roundg (j.nodes.length-(k+1))
     case rel=>exact⟨k+1,by omega,by go_num,ξ _,F.o.1,⟨_,_,rfl⟩,F.o.2⟩
     case measure=>omega
  ·obtain rfl:k=j.nodes.length:=by omega
   obtain⟨L,hL⟩: ∃L,(iE j.nodes ⟨1,key,val⟩ Ts j.nodes.length).1[j.nodes.length-1]?=some L:=⟨_,ι (by rw[hF.len];omega)⟩;obtain⟨mg,u,nu,rfl,hkm,hmc1,aby,hu,qW⟩:=hmd.cell hL
   unfold maxLen at aby
   obtain⟨ua,uc,rfl⟩:=au qW;have Jc:L.length<=1000000:=(by have h1:=(hF.rows _ L hL).few;obtain⟨d,hd⟩: ∃d,j.nodes[j.nodes.length-1]?=some d:=⟨_,ι (by omega)⟩;have h2:=(qR H.o.2.2.2.2.2.1 hd).ways;omega);have cm:=Gm _ L wo (Reads.aN qW) Jc;have hi1:IntKind.i64.wrap ((j.nodes.length:Int)-1)=((j.nodes.length-1:Nat):Int):=(by rw[IntWalk.i64_in _ (by omega)];omega);have hi2:((j.nodes.length-1:Nat):Int)=(j.nodes.length:Int)-1:=(by omega);have F:=γ (θ hkp (θ htb hL));clear hmd htb hkp hF hg hkm qW Jc hL ob x2 kwb;go_wp2_with fail;refine cm.mono ?_;clear cm;rintro e W2 ⟨r,rfl,r1,r2,k2⟩
   have Z:=γ (show RG M wb w j Ts pm key val (.returned r) W2 from by
    refine⟨r,rfl,?_,fun q hq=>ω hww (r2 q hq),?_,F.o.1.trans k2.pure⟩
    ·have e0:(gW j.nodes Ts key val).1=aO L:=by
      show aO _=_;rw[σ,F.o.2.2];rfl
     rw[e0];exact r1
    ·exact⟨fun i T hT=>⟨(F.o.2.1.tab i T hT).1,((F.o.2.1.tab i T hT).2.kept k2 (fun _ h=>h.elim)).mono (fun _ h=>h.1)⟩,F.o.2.1.inj⟩)
   obtain⟨ra,rc,rfl,_,_⟩:=r1.len;clear r1 r2 k2;go_wp2;go_ret;exact Z.o
end
