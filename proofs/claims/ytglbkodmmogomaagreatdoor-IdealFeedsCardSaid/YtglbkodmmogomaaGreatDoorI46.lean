/- The document's Do: what a node makes of records. -/
import Derived.Test.YtglbkodmmogomaaGreatDoorI45
import Derived.Test.YtglbkodmmogomaaGreatDoorI30
set_option linter.unusedVariables false
set_option linter.unusedSimpArgs false
set_option maxHeartbeats 4000000
set_option maxRecDepth 100000
namespace Go.Proofs.YtglbkodmmogomaaGreatDoor
section
open Go Go.RowKit
attribute [local irreducible] cZ iC
theorem Yd {w w':World}{base n:Nat}{v u v':Value}{L M:List Rec}(hown:w.ownsRow base 68 3 v n (recs L))(hr:Reads w 3 u (recs M))(hlen:L.length+M.length<=1000000)
 (g1:(Builtin.append_ #[60,60] 60 #[v,u]).run Tryz.prog w= .ok v' w'): ∀k,v'.ownBlock=some k->v.ownBlock=some k\/k=w.heap.size:=by
 obtain⟨i,z,hi,hz,hs,hby,hzs⟩:=Tryz.info68;have hn:n=L.length:=(by have:=hown.1;rw[aQ]at this;omega);subst hn;obtain⟨a,m,cap,rfl,hm1,hm2,hl,hc⟩:=hr;rw[aQ]at hl;have hm:m=M.length:=(by omega);subst hm;by_cases hM:M=[]
 ·subst hM
  have hf: ∀W,(Builtin.firstCells 3 0 (.slice a 0 cap)).run Tryz.prog W= .ok #[] W:=fun W=>(by cases a<;>simp[Builtin.firstCells,loadCells,loadCellsFrom]);have h2:(Builtin.append_ #[60,60] 60 #[v,.slice a 0 cap]).run Tryz.prog w= .ok v w:=by
   rcases hown.2 with⟨rfl,h0⟩|⟨g,dG,cur,rfl,hbg,hg,hnc,hcm,hcs,htake⟩
   ·simp[Builtin.append_,run_underlying Tryz.underlying60,sizeOf,typeInfo,hi,hs,Builtin.lenOf,hf]
   ·simp[Builtin.append_,run_underlying Tryz.underlying60,sizeOf,typeInfo,hi,hs,Builtin.lenOf,hf,hnc,storeCells]
  rw[show([]:List Rec).length=0 from rfl,h2]at g1
  injection g1 with g1 _
  subst g1;exact fun k hk=> .inl hk
 ·have hne:recs M≠[]:=fun e=>hM (τ (by have:=aQ M;rw[e]at this;simp at this;omega))
  obtain⟨b,off,rfl,hcl⟩:=hc.resolve_left hne;have hpos:0<M.length:=Nat.pos_of_ne_zero (fun h=>hM (τ h));exact tZ (P:=Tryz.prog) base 60 60 68 i z 3 24 Tryz.underlying60 hi hz hs hby v L.length (recs L) hown ⟨b,off,none⟩ M.length cap (recs M) (aQ M) (fun j x hx=>by rw[Addr.add_lit];exact hcl j x hx) (qZ M) hpos
   (by unfold maxLen;omega) (by omega) g1
def afU (S:Nat->Prop)(I:Tab->World->Option Nat->Prop)(B:Option Nat)(w:World)(x:List Rec×Tab)(e:Ending)(w':World):Prop:=
 ∃v,e= .returned v/\Reads w' 3 v (recs x.1)/\(∀b,Value.blk v=some b->w.heap.size<=b)/\I x.2 w' B/\ε S w w'
def QM (S:Nat->Prop)(I:Tab->World->Option Nat->Prop)(w:World)(x:List Rec×Tab)(e:Ending)(w':World):Prop:=
 ∃v n,e= .returned v/\w'.ownsRow w.heap.size 68 3 v n (recs x.1)/\I x.2 w' none/\ε S w w'
theorem Tn (S:Nat->Prop)(I:Tab->World->Option Nat->Prop)(nd:dD)(na:Array Value)(tv:Option Addr)(T:Tab)(L:List Rec)(v:Value)(wb w:World)
 (hkb:ε η wb w) (hS: ∀q,S q->wb.heap.size<=q/\q<w.heap.size) (hn:dO wb na nd) (hr:Reads w 3 v (recs L)) (hv: ∀b,Value.blk v=some b-> ¬S b) (hok: ∀r∈L,bQ r) (hl:L.length<=1000)
 (hI:I T w none) (hp: ∀T w w' B,I T w B->ε η w w'->I T w' B)
 (ha: ∀T w w' B B',I T w B->ε (fun q=>B=some q) w w'->(∀k,B'=some k->B=some k\/w.heap.size<=k)->I T w' B')
 (hone: ∀T r W B,dO W na nd->I T W B->(∀k,B=some k->k<W.heap.size)->bQ r->w.heap.size<=W.heap.size->Calls Tryz.prog 118 #[.agg na,.pointer tv,.agg #[.int .i64 r.pos,.int .i64 r.key,.int .i64 r.val]] W (afU S I B W (aF nd T r))):
 Calls Tryz.prog 72 #[.agg na,.pointer tv,v] w (QM S I w (aJ nd T L)):=by
 have HN:=γ hn;obtain⟨uid,inv,p,cap,rfl,hx,hk0,hk1,hn1⟩:=hn;obtain⟨va,dG,rfl,v1,v2,v3⟩:=hr.recAt;unfold maxLen at v2;obtain⟨W0,hW0⟩:=acf (w.alloc (.cells #[.string uid,.int .u8 nd.kind,inv,.int .u8 nd.x.op,.int .i64 nd.x.n,.slice p nd.x.args.length cap,.int .i64 nd.n] 42));have k0:ε η w W0:=(by rw[<-hW0];exact δ.alloc _);have nB:W0.heap[w.heap.size]?=some (.cells #[.string uid,.int .u8 nd.kind,inv,.int .u8 nd.x.op,.int .i64 nd.x.n,.slice p nd.x.args.length cap,.int .i64 nd.n] 42 (0,0)):=(by rw[<-hW0];exact heap_alloc_new _ _);have hs0:w.heap.size<W0.heap.size:=(κ.1 nB).1;have H:=γ (θ hkb (θ hS (θ v3 (θ hv (θ hok (θ hI (θ k0 nB)))))));have HP:=γ hp;have HO:=γ hone;have HAp:=γ ha;have HW:=γ hW0;clear hkb hS hr hv hok hI hp hone ha hx hk0 hk1 hn1 k0 nB hW0 v3;go_enter Tryz.func72,Tryz.ntmps72;go_wp2_with fail;rw[HW.o];clear HW;go_loopg [7,8] L.length (fun g vo vi wr=> ∃k:Nat,k<=L.length/\vi= .int .i64 (k:Int)/\L.length-k<=g/\wr.ownsRow W0.heap.size 68 3 vo (aJ nd T (L.take k)).1.length (recs (aJ nd T (L.take k)).1)/\I (aJ nd T (L.take k)).2 wr vo.ownBlock/\ε S W0 wr)
 case atStart=>exact⟨0,by omega,rfl,by omega,World.ownsRow_nil _ _ _ _,HP.o _ _ _ _ H.o.2.2.2.2.2.1 H.o.2.2.2.2.2.2.1,ε.refl _ _⟩
 case round=>
  obtain⟨k,hkl,rfl,hg,hown,hi,hkp⟩:=hrel;obtain⟨wo,rfl⟩: ∃wo:World,wo=wr:=⟨_,rfl⟩;obtain⟨oa,oc,rfl⟩:=au hown;by_cases hlt:k<L.length
  ·obtain⟨r,hr⟩: ∃r,L[k]?=some r:=⟨_,ι hlt⟩
   obtain⟨rb,ro,rfl,hc⟩:=H.o.2.2.1.resolve_left (fun h=>by rw[h]at hlt;simp at hlt);have hSB: ¬S w.heap.size:=fun h=>(by have:=(H.o.2.1 _ h).2;omega);have hSr: ¬S rb:=H.o.2.2.2.1 rb (by unfold Value.blk;simp only;rw[if_neg (by omega)]);obtain⟨q0,q1,q2⟩:=hc k r hr;have kw:ε S w wo:=H.o.2.2.2.2.2.2.1.pure.trans hkp;have r0:=kw.cell (p:=⟨rb,ro+k*3,none⟩) hSr q0;have r1:=kw.cell (p:=⟨rb,ro+k*3+1,none⟩) hSr q1;have r2:=kw.cell (p:=⟨rb,ro+k*3+2,none⟩) hSr q2;have oB:=hkp.heap H.o.2.2.2.2.2.2.2 hSB;have n0:=ζ oB (j:=0) (v:= .string uid) rfl;have n1:=ζ oB (j:=1) (v:= .int .u8 nd.kind) rfl;have n2:=ζ oB (j:=2) (v:=inv) rfl;have n3:=ζ oB (j:=3) (v:= .int .u8 nd.x.op) rfl;have n4:=ζ oB (j:=4) (v:= .int .i64 nd.x.n) rfl;have n5:=ζ oB (j:=5) (v:= .slice p nd.x.args.length cap) rfl;have n6:=ζ oB (j:=6) (v:= .int .i64 nd.n) rfl;have kd:ε η wo wo.drew:=δ.drew;have hbw:ε η wb wo.drew:=(H.o.1.new kw (fun q hq hs=>by have:=(H.o.2.1 q hs).1;omega)).trans kd;have c1:=HO.o (aJ nd T (L.take k)).2 r wo.drew _ (HN.o.pure hbw) (HP.o _ _ _ _ hi kd) (fun q hq=>(hown.lt q hq).2) (H.o.2.2.2.2.1 r (ς hr)) kw.size;have hno: ∀q,q<W0.heap.size-> ¬(Value.slice oa (aJ nd T (L.take k)).1.length oc).ownBlock=some q:=fun q hq e=>(by have:=(hown.lt _ e).1;omega);have hrw:rb<W0.heap.size:=(by have:rb<w.heap.size:=block_lt_of_cell q0;omega);have hsn:aJ nd T (L.take (k+1))=((aJ nd T (L.take k)).1++(aF nd (aJ nd T (L.take k)).2 r).1,(aF nd (aJ nd T (L.take k)).2 r).2):=(by rw[ψ,hr];exact vK nd r _ _);have hln:=Qz nd (L.take k) T;rw[υ]at hln;have hst:=OB nd (aJ nd T (L.take k)).2 r;obtain⟨X,hX⟩: ∃X,aJ nd T (L.take k)=X:=⟨_,rfl⟩;rw[hX]at hown hi c1 hno hsn hln hst⊢;have Y:=γ (θ n0 (θ n1 (θ n2 (θ n3 (θ n4 (θ n5 (θ n6 (θ r0 (θ r1 r2)))))))));have G:=γ (θ hg (θ hown (θ hkp hsn)));clear hg hown hi hkp hsn hc hr q0 q1 q2 oB n0 n1 n2 n3 n4 n5 n6 r0 r1 r2 kd hbw hX kw;go_wp2_with fail;refine ak [0,1,2,3,4,5,6,7,8,9] (fun W=>ε (fun q=>(Value.slice oa X.1.length oc).ownBlock=some q\/S q) wo W) (by kernel_rfl) (by kernel_rfl) rfl δ.drew ?_;simp only[abU];have hz1: ¬((Value.slice oa X.1.length oc).ownBlock=some w.heap.size\/S w.heap.size):=fun h=>h.elim (hno _ hs0) hSB;have hz2: ¬((Value.slice oa X.1.length oc).ownBlock=some rb\/S rb):=fun h=>h.elim (hno _ hrw) hSr;iterate 7 (apply aj rfl rfl;(intro W hW;have o0:=hW.cell hz1 Y.o.1;have o1:=hW.cell hz1 Y.o.2.1;have o2:=hW.cell hz1 Y.o.2.2.1;have o3:=hW.cell hz1 Y.o.2.2.2.1;have o4:=hW.cell hz1 Y.o.2.2.2.2.1;have o5:=hW.cell hz1 Y.o.2.2.2.2.2.1;have o6:=hW.cell hz1 Y.o.2.2.2.2.2.2.1;have o7:=hW.cell (p:=⟨rb,ro+k*3,none⟩) hz2 Y.o.2.2.2.2.2.2.2.1;have o8:=hW.cell (p:=⟨rb,ro+k*3+1,none⟩) hz2 Y.o.2.2.2.2.2.2.2.2.1;have o9:=hW.cell (p:=⟨rb,ro+k*3+2,none⟩) hz2 Y.o.2.2.2.2.2.2.2.2.2;go_simp;rfl);go_frame)
   apply aA rfl rfl;intro K hK;go_wp2_with fail;(with_reducible refine c1.mono ?_);clear c1;rintro e w5 ⟨u,rfl,hu,hub,hi5,k5⟩;obtain⟨ua,uc,rfl,-,-,-⟩:=Reads.recAt hu;go_wp2_with fail;have oQ:ε S wo w5:=k5.aZ;refine hK _ _ (fun _=>oQ.mono (fun _ _ h=> .inr h)) ?_;clear hK;have BM:=oQ.owns G.o.2.1 (fun q hq hs=>by have:=(G.o.2.1.lt q hq).1;have:=(H.o.2.1 q hs).2;omega);obtain⟨v6,n6,w6,g1,g2,g3,g4,-⟩:=oL BM hu (by have:=G.o.2.2.1.size;have:=oQ.size;omega) (by omega);subst g3;have k56:ε (fun q=>(Value.slice oa X.1.length oc).ownBlock=some q) w5 w6:=ε.grown g4 (fun q hq _=>hq);have k6:ε (fun q=>(Value.slice oa X.1.length oc).ownBlock=some q\/S q) wo w6:=(oQ.mono (fun _ _ h=> .inr h)).trans (k56.mono (fun _ _ h=> .inl h));have kS:ε S W0 w6:=(G.o.2.2.1.trans oQ).new k56 (fun q hq hs=>by have:=(BM.lt q hs).1;omega);have hwh:=Yd BM hu (by omega) g1;have hi6:=HAp.o _ _ w6 _ v6.ownBlock hi5 k56 (fun q hq=>(hwh q hq).imp id (fun h=>by omega));obtain⟨a6,c6,rfl⟩:=au g2
   have F:=γ (show w6.ownsRow W0.heap.size 68 3 (.slice a6 (X.1.length+(aF nd X.2 r).1.length) c6) (aJ nd T (L.take (k+1))).1.length (recs (aJ nd T (L.take (k+1))).1)/\I (aJ nd T (L.take (k+1))).2 w6 (Value.slice a6 (X.1.length+(aF nd X.2 r).1.length) c6).ownBlock/\ε S W0 w6 from by
    rw[G.o.2.2.2]
    exact⟨by rw[ν];exact g2,hi6,kS⟩)
   apply aA rfl rfl;intro K hK;refine rM (.tmp 15) (.tmp 22) 60 rfl (.slice oa X.1.length oc) (.slice ua (aF nd X.2 r).1.length uc) (.slice a6 (X.1.length+(aF nd X.2 r).1.length) c6) rfl rfl g1 ?_;refine hK _ _ (fun _=>k6) ?_;clear hK;apply aj rfl rfl
   ·intro W hW;go_simp;rfl
   go_frame;refine aG (fun _=>k6) ?_;clear g1 g2 g4 hwh hi6 kS k56 BM hu hub hi5 k5 oQ hst;have hG:=G.o.1;clear k6 hz1 hz2 hno;go_wp2_with fail;go_roundg (L.length-(k+1))
   case rel=>exact⟨k+1,by omega,by go_num,ξ _,F.o⟩
   case measure=>omega
  ·have e1:k=L.length:=by omega
   subst e1;rw[List.take_length]at hown hi;have F:ace (QM S I w (aJ nd T L) (.returned (.slice oa (aJ nd T L).1.length oc)) wo):=(by show QM _ _ _ _ _ _;exact⟨_,_,rfl,⟨hown.1,hown.2.imp id fun⟨g,cap,cur,e1,e2,rest⟩=>⟨g,cap,cur,e1,by omega,rest⟩⟩,HAp.o _ _ _ _ none hi δ (fun k (h:(none:Option Nat)=some k)=>nomatch h),H.o.2.2.2.2.2.2.1.pure.trans hkp⟩);rw[List.take_length];clear hown hi hkp hg;go_wp2_with fail;go_ret;exact F.o
theorem aao (nd:dD)(na:Array Value)(tv:Option Addr)(T:Tab)(L:List Rec)(v:Value)(w:World)(hn:dO w na nd)(hr:Reads w 3 v (recs L))(hok: ∀r∈L,bQ r)(hl:L.length<=1000)(h6:nd.kind≠6)(h7:nd.kind≠7):
 Calls Tryz.prog 72 #[.agg na,.pointer tv,v] w (QM η (fun _ _ _=>True) w (aJ nd T L)):=by
 refine Tn η (fun _ _ _=>True) nd na tv T L v w w δ (fun _ h=>h.elim) hn hr (fun _ _ h=>h) hok hl trivial (fun _ _ _ _ _ _=>trivial) (fun _ _ _ _ _ _ _ _=>trivial) (fun T r W B hN _ _ hR _=>?_);refine(U6 nd na tv T r W hN hR h6 h7).mono ?_;rintro e W' ⟨v,rfl,h1,h2,h3⟩;exact⟨v,rfl,h1,h2,trivial,h3⟩
def acF (w:World)(D:Nat)(T0 T:Tab)(W:World)(B:Option Nat):Prop:= ∀M:Nat->Prop,bF w M D T0->bF W (fun q=>(M q\/w.heap.size<=q)/\B≠some q) D T
theorem aan (nd:dD)(na:Array Value)(D:Nat)(T:Tab)(L:List Rec)(v:Value)(wb w:World)(hkb:ε η wb w)(hD:wb.heap.size<=D)(hn:dO wb na nd)(hr:Reads w 3 v (recs L))(hv: ∀b,Value.blk v=some b->b≠D)(hok: ∀r∈L,bQ r)(hl:L.length<=1000)
 (hT:RTabAt w D T) (hk:nd.kind=6\/nd.kind=7):
 Calls Tryz.prog 72 #[.agg na,.pointer (some ⟨D,0,none⟩),v] w (QM (one D) (acF w D T) w (aJ nd T L)):=by
 have hDl:=Hw hT;have hT0:=bF.old hT (ε.refl η w);refine Tn (one D) (acF w D T) nd na (some ⟨D,0,none⟩) T L v wb w hkb (fun q h=>by unfold one at h;omega) hn hr (fun b hb h=>hv b hb h) hok hl
  (fun M h=>h.mono (fun q hq=>⟨.inl hq,fun h=>by cases h⟩)) (fun T W W' B h hk M hM=>(h M hM).kept hk (fun _ h=>h.elim)) (fun T W W' B B' h hk hB M hM=>?_) (fun T' r W B hN hI hB hR hsz=>?_)
 ·refine((h M hM).Pg.kept hk (fun q hq hn=>hn.1.2 hq)).mono (fun q hq=>⟨hq.1.1,fun hB'=>?_⟩)
  rcases hB q hB' with h1|h1
  ·exact hq.1.2 h1
  ·omega
 ·have hc:Calls Tryz.prog 118 #[.agg na,.pointer (some ⟨D,0,none⟩),.agg #[.int .i64 r.pos,.int .i64 r.key,.int .i64 r.val]] W (xZ W D nd T' r):=by
   rcases hk with hk|hk
   ·exact aai nd na D T' r W hN hR (hI _ hT0).at hk
   ·exact U5 nd na D T' r W hN hR (hI _ hT0).at hk
  refine hc.mono ?_;rintro e W' ⟨v,rfl,h1,h2,h3,h4,h5⟩;refine⟨v,rfl,h1,h2,fun M hM=>(h5 _ (hI M hM)).mono (fun q hq=>?_),h4⟩
  rcases hq with hq|hq
  ·exact hq
  ·exact⟨.inr (by omega),fun hB'=>by have:=hB q hB';omega⟩
theorem bF.afE {w w':World}{M:Nat->Prop}{D D':Nat}{T U:Tab}(h:RTabAt w D T)(hu:bF w M D' U)(hk:ε (one D) w w')(hne:D'≠D):bF w' M D' U:=by
 obtain⟨⟨tv,dP,ht⟩,_⟩:=h;obtain⟨pa,iQ,rfl,_⟩:=ht.parts;obtain⟨v,cs,h1,h2,h3,h4,h5⟩:=hu.out;have hne2:=h2.qN dP (by omega) h3.first;refine⟨hu.ok,hu.dot,v,cs,hk.heap h1 (fun e=>hne e),h2.kept hk (fun b hb e=>hne2 b hb e),⟨h3.1,fun i p hp=>?_⟩,h4,h5⟩;obtain⟨a,b,lv,c,d⟩:=h3.2 i p hp
 exact⟨a,b,lv,c,d.kept hk (fun g hg e=>d.qN dP (by omega) (fun y hy=>by
  obtain⟨q,ql⟩:=p
  cases hl:ql.2 with
  |nil=>rw[hl]at hy;cases hy
  |cons q l=>rw[hl]at hy;cases hy;exact⟨_,_,rfl⟩) g hg e)⟩
end
section
open Go Go.RowKit
attribute [local irreducible] cZ
theorem wC (k:Int)(w:World):Calls Tryz.prog 61 #[.int .u8 k] w fun e w'=>e= .returned (.bool (stateful k))/\w=w':=by
 have e:stateful k=(k==6||k==7):=rfl;rw[e];clear e;by_cases h6:k=6
 ·subst h6
  go_enter Tryz.func61,Tryz.ntmps61;go_wp2_with fail;go_ret;exact⟨rfl,rfl⟩
 ·have h1:(k==6)=false:=by simp[h6]
  rw[h1,Bool.false_or];go_enter Tryz.func61,Tryz.ntmps61;go_wp2_with fail;go_ret;exact⟨rfl,rfl⟩
theorem X7 (d:JN)(a:Array Value)(b:Nat)(T:Tab)(w:World)(h:nO w a d)(hT:RTabAt w b T):
 Calls Tryz.prog 19 #[.agg a,.pointer (some ⟨b,0,none⟩)] w (Gives w (.bool (fD d.kind d.n T))):=by
 obtain⟨pi,ci,p,cap,rfl,_,_,_,hk0,hk1,hn,_⟩:=h;obtain⟨hn1,hn2⟩:=hn;have kA:ε η w (w.alloc (.cells (bG d pi ci p cap) 42)):=δ.alloc _;have tA:=hT.pure kA;have hbB:(w.alloc (.cells (bG d pi ci p cap) 42)).heap[w.heap.size]?=some (.cells (bG d pi ci p cap) 42 (0,0)):=heap_alloc_new _ _;obtain⟨W1,hW1⟩:=acf (w.alloc (.cells (bG d pi ci p cap) 42));rw[hW1]at kA tA hbB;obtain⟨⟨v,dP,hrt⟩,hok⟩:=tA;obtain⟨pa,iQ,rfl,hc1,hc2,hcl⟩:=hrt.parts;have hT320:=hok.len;unfold maxLen at hc2;have HC:=γ (θ hcl (θ hok (θ kA (θ dP hbB))));have HW:=γ hW1;clear dP hrt hcl hok kA hbB hT hW1;go_enter Tryz.func19,Tryz.ntmps19;go_wp2_with fail;rw[HW.o];go_wp2_with fail;go_loopg [5] T.length (fun g vi wr=> ∃k:Nat,k<=T.length/\vi= .int .i64 (k:Int)/\T.length-k<=g/\ε η W1 wr/\ ∀(m:Nat)(p:Int×Cell),m<k->T[m]?=some p->bC d.kind d.n p.2=true)
 case atStart=>exact⟨0,by omega,rfl,by omega,ε.refl _ _,fun m e hm=>by omega⟩
 case round=>
  obtain⟨k,hk,rfl,hg,hkp,hyes⟩:=hrel;have c0:wr.cell? ⟨b,0,none⟩=some (.slice pa T.length iQ):=ζ (hkp.heap HC.o.2.2.2.1 id) rfl;have z1:wr.cell? ⟨w.heap.size,1,none⟩=some (.int .u8 d.kind):=ζ (hkp.heap HC.o.2.2.2.2 id) rfl;have z4:wr.cell? ⟨w.heap.size,6,none⟩=some (.int .i64 d.n):=ζ (hkp.heap HC.o.2.2.2.2 id) rfl;have SX:w.heap.size<wr.heap.size:=block_lt_of_cell z1;by_cases hlt:k<T.length
  ·obtain⟨q,hq⟩: ∃q,T[k]?=some q:=⟨_,ι hlt⟩
   obtain⟨rb,ro,rfl,hr⟩:=HC.o.1.resolve_left (fun h=>by rw[h]at hq;cases hq);obtain⟨x0,x1,lv,x2,x3⟩:=(hr k q hq).pure hkp;obtain⟨key,acc,L⟩:=q;have EP:=HC.o.2.1.cell _ (ς hq);have ahS:L.length<=16:=EP.2.2;obtain⟨ha1,ha2⟩:aH acc:=EP.1;obtain⟨la,lc,rfl,hlc,_⟩:=x3.at;have HQ:=γ hq;have Iu:=γ hyes;have G:=γ (θ hg hkp);clear hq hyes hg hkp hr EP x0 x3 hlc;simp only at x1 x2;obtain⟨uid,kind,ins,x,n⟩:=d;simp only at z1 z4 hn1 hn2 hk0 hk1;have KA:=γ (show ε η wr (wr.alloc (.cells #[.int .i64 acc,.slice la L.length lc] 109))from δ.alloc _);have y1:=KA.o.cell id z1;have y4:=KA.o.cell id z4;by_cases k6:kind=6
   ·subst k6
    by_cases b1:0<L.length
    ·have F:=γ (qc (ς HQ.o) (show bC 6 n (acc,L)=false from(eG _ _ _).2 (.inl ⟨rfl,b1⟩)))
     go_wp2_with fail;go_ret;exact⟨bK F.o.symm,HC.o.2.2.1.trans (G.o.2.trans (δ.alloc _))⟩
    ·have F:=γ (wP Iu.o HQ.o (show bC 6 n (acc,L)=true by
      cases h:bC 6 n (acc,L)with
      |true=>rfl
      |false=>
       have h2:=(eG _ _ _).1 h;simp only at h2
       omega))
     go_wp2_with fail;go_roundg (T.length-(k+1))
     case rel=>exact⟨k+1,by omega,by go_num,ξ _,G.o.2.trans (δ.alloc _),F.o⟩
     case measure=>have:=G.o.1;omega
   ·by_cases k7:kind=7
    ·subst k7
     by_cases b1:acc=0
     ·by_cases b2:L.length<1
      ·have F:=γ (qc (ς HQ.o) (show bC 7 n (acc,L)=false from(eG _ _ _).2 (.inr ⟨rfl,.inr (.inl b2)⟩)))
       go_wp2_with fail;go_ret;exact⟨bK F.o.symm,HC.o.2.2.1.trans (G.o.2.trans (δ.alloc _))⟩
      ·by_cases b3:n<=(L.length:Int)
       ·have F:=γ (qc (ς HQ.o) (show bC 7 n (acc,L)=false from(eG _ _ _).2 (.inr ⟨rfl,.inr (.inr b3)⟩)))
        go_wp2_with fail;go_ret;exact⟨bK F.o.symm,HC.o.2.2.1.trans (G.o.2.trans (δ.alloc _))⟩
       ·have F:=γ (wP Iu.o HQ.o (show bC 7 n (acc,L)=true by
         cases h:bC 7 n (acc,L)with
         |true=>rfl
         |false=>
          have h2:=(eG _ _ _).1 h;simp only at h2
          omega))
        go_wp2_with fail;go_roundg (T.length-(k+1))
        case rel=>exact⟨k+1,by omega,by go_num,ξ _,G.o.2.trans (δ.alloc _),F.o⟩
        case measure=>have:=G.o.1;omega
     ·have F:=γ (qc (ς HQ.o) (show bC 7 n (acc,L)=false from(eG _ _ _).2 (.inr ⟨rfl,.inl b1⟩)))
      go_wp2_with fail;go_ret;exact⟨bK F.o.symm,HC.o.2.2.1.trans (G.o.2.trans (δ.alloc _))⟩
    ·have F:=γ (wP Iu.o HQ.o (show bC kind n (acc,L)=true by
      cases h:bC kind n (acc,L)with
      |true=>rfl
      |false=>
       have h2:=(eG _ _ _).1 h;simp only at h2
       omega))
     go_wp2_with fail;go_roundg (T.length-(k+1))
     case rel=>exact⟨k+1,by omega,by go_num,ξ _,G.o.2.trans (δ.alloc _),F.o⟩
     case measure=>have:=G.o.1;omega
  ·have e1:k=T.length:=by omega
   subst e1;have cs:=wC d.kind wr;have F:=γ (θ hyes hkp);clear hyes hkp;go_wp2_with fail;refine cs.mono ?_;rintro e w' ⟨rfl,rfl⟩;go_wp2_with fail;go_ret;refine⟨bK ?_,HC.o.2.2.1.trans F.o.2⟩
   cases hs:stateful d.kind with
   |false=>unfold fD;rw[hs];rfl
   |true=>exact(JA hs F.o.1).symm
end
section
open Go Go.RowKit
def rp (pm:Nat->Nat)(Ts:Tabs):List Value:=(List.range Ts.length).map fun i=> .pointer ((Ts.getD i none).map fun _=>⟨pm i,0,none⟩)
theorem rQ (pm:Nat->Nat)(Ts:Tabs):(rp pm Ts).length=Ts.length:=by unfold rp;simp
theorem wY {pm:Nat->Nat}{Ts:Tabs}{i:Nat}{t:Option Tab}(h:Ts[i]?=some t):(rp pm Ts)[i]?=some (.pointer (t.map fun _=>⟨pm i,0,none⟩)):=by have hi:=(μ.1 h).1;unfold rp;rw[abJ,List.getElem?_range hi];simp[σ,h]
theorem acS (pm:Nat->Nat)(n:Nat):rp pm (List.replicate n none)=List.replicate n (.pointer none):=by
 apply List.ext_getElem?;intro i;by_cases hi:i<n
 ·rw[wY (t:=none) (by rw[List.getElem?_replicate,if_pos hi]),List.getElem?_replicate,if_pos hi];rfl
 ·rw[abA (by rw[rQ,List.length_replicate];omega),abA (by rw[List.length_replicate];omega)]
theorem XV (pm:Nat->Nat)(Ts:Tabs)(i b:Nat)(T:Tab):rp (fun k=>if k=i then b else pm k) (Ts.set i (some T))=(rp pm Ts).set i (.pointer (some ⟨b,0,none⟩)):=by
 apply List.ext_getElem?;intro k;rw[List.getElem?_set,rQ];by_cases hk:k<Ts.length
 ·by_cases e:i=k
  ·subst e
   rw[if_pos rfl,if_pos hk,wY (t:=some T) (by rw[List.getElem?_set,if_pos rfl,if_pos hk])];simp
  ·obtain⟨t,ht⟩: ∃t,Ts[k]?=some t:=⟨_,ι hk⟩
   rw[if_neg e,wY ht,wY (t:=t) (by rw[List.getElem?_set,if_neg e];exact ht)];rw[if_neg (fun h=>e h.symm)]
 ·rw[abA (by rw[rQ,List.length_set];omega)]
  by_cases e:i=k
  ·rw[if_pos e,if_neg (by omega)]
  ·rw[if_neg e,abA (by rw[rQ];omega)]
structure iV (w:World)(M:Nat->Prop)(Ts:Tabs)(pm:Nat->Nat):Prop where
 tab: ∀(i:Nat)(T:Tab),Ts[i]?=some (some T)->bF w M (pm i) T
 inj: ∀(i k:Nat)(T U:Tab),Ts[i]?=some (some T)->Ts[k]?=some (some U)->i≠k->pm i≠pm k
theorem iV.none (w:World)(M:Nat->Prop)(m:Nat)(pm:Nat->Nat):iV w M (List.replicate m none) pm:=
 ⟨fun i T h=>by rw[List.getElem?_replicate]at h;split at h<;>simp at h,fun i k T U h=>by rw[List.getElem?_replicate]at h;split at h<;>simp at h⟩
theorem iV.kept {w w':World}{M S:Nat->Prop}{Ts:Tabs}{pm:Nat->Nat}(h:iV w M Ts pm)(hk:ε S w w')(hS: ∀q,S q-> ¬M q):iV w' M Ts pm:=
 ⟨fun i T hT=>(h.tab i T hT).kept hk hS,h.inj⟩
theorem iV.pure {w w':World}{M:Nat->Prop}{Ts:Tabs}{pm:Nat->Nat}(h:iV w M Ts pm)(hk:ε η w w'):iV w' M Ts pm:=h.kept hk (fun _ h=>h.elim)
theorem iV.mono {w:World}{M M':Nat->Prop}{Ts:Tabs}{pm:Nat->Nat}(h:iV w M Ts pm)(hM: ∀q,M q->M' q):iV w M' Ts pm:=⟨fun i T hT=>(h.tab i T hT).mono hM,h.inj⟩
theorem bF.lt {w:World}{M:Nat->Prop}{b:Nat}{T:Tab}(h:bF w M b T):b<w.heap.size:=by obtain⟨v,cs,h1,_⟩:=h.out;exact(κ.1 h1).1
theorem iV.lt {w:World}{M:Nat->Prop}{Ts:Tabs}{pm:Nat->Nat}(h:iV w M Ts pm)(k:Nat)(U:Tab)(hU:Ts[k]?=some (some U)):pm k<w.heap.size:=(h.tab k U hU).lt
theorem iV.set {w:World}{M:Nat->Prop}{Ts:Tabs}{pm:Nat->Nat}(h:iV w M Ts pm){i b:Nat}{T:Tab}(hT:bF w M b T)(hb: ∀(k:Nat)(U:Tab),Ts[k]?=some (some U)->pm k≠b):
 iV w M (Ts.set i (some T)) (fun k=>if k=i then b else pm k):=by
 refine⟨fun k U hU=>?_,fun k m U V hU hV hne=>?_⟩
 ·rw[List.getElem?_set]at hU
  by_cases e:i=k
  ·subst e
   rw[if_pos rfl]at hU;split at hU
   ·injection hU with hU;injection hU with hU;subst hU
    simp only[if_true];exact hT
   ·cases hU
  ·rw[if_neg e]at hU
   simp only[if_neg (fun h:k=i=>e h.symm)];exact h.tab k U hU
 ·rw[List.getElem?_set]at hU hV
  show(if k=i then b else pm k)≠(if m=i then b else pm m);by_cases e:i=k
  ·subst e
   have e2: ¬m=i:=fun h=>hne h.symm;rw[if_neg (fun h=>hne h)]at hV;rw[if_pos rfl,if_neg e2];exact fun h=>hb m V hV h.symm
  ·rw[if_neg e]at hU
   rw[if_neg (fun h=>e h.symm)];by_cases e2:i=m
   ·subst e2
    rw[if_pos rfl];exact hb k U hU
   ·rw[if_neg e2]at hV
    rw[if_neg (fun h=>e2 h.symm)];exact h.inj k m U V hU hV hne
theorem bF.new (w:World){M:Nat->Prop}(hM:M w.heap.size):bF (w.alloc (.cells #[.slice none 0 0] 103)) M w.heap.size []:=
 ⟨eP.nil,hM,.slice none 0 0,[],heap_alloc_new _ _,Reads.nil _ _,cu.nil _,(fun b (hb:(none:Option Nat)=some b)=>nomatch hb),fun i lv (hl:(none:Option Value)=some lv)=>nomatch hl⟩
def ZF (w:World)(b:Nat)(j:Jb)(Ts:Tabs)(tv:Value)(pm:Nat->Nat):Prop:=
 ∃nv n,w.heap[b]?=some (.cells #[.int .i64 j.par,nv,tv] 90 (0,0))/\gI w nv j.nodes/\w.ownsRow n 46 1 tv Ts.length (rp pm Ts)/\iV w yU Ts pm
theorem zO {w:World}{n k c:Nat}{a:Option Addr}{Ts:Tabs}{pm:Nat->Nat}(h:w.ownsRow n 46 1 (.slice a k c) Ts.length (rp pm Ts)){i:Nat}{t:Option Tab}(ht:Ts[i]?=some t):
 ∃g,a=some ⟨g,0,none⟩/\k=Ts.length/\k<=c/\c<=maxLen/\n<=g/\w.cell? ⟨g,i,none⟩=some (.pointer (t.map fun _=>⟨pm i,0,none⟩))/\w.frozen? ⟨g,i,none⟩=false:=by
 have hi:=(μ.1 ht).1
 rcases h.2 with⟨_,e⟩|⟨g,cap,cur,e,hb,hg,hc1,hc2,hcs,htk⟩
 ·omega
 ·injection e with e1 e2 e3
  subst e1 e2 e3;refine⟨g,rfl,rfl,hc1,hc2,hb,?_,h.frozenAt i⟩;rw[h.cellAt i (by omega),wY ht]
theorem Tryz.info46: ∃i z,Tryz.prog.info? 46=some i/\i.zero=some z/\i.size=1/\i.bytes=8/\z.cells.size=1:=by have h:(Tryz.prog.info? 46).map (fun i=>(i.zero,i.size,i.bytes))=some (some (.pointer none),1,8):=(by kernel_rfl);obtain⟨i,hi,h⟩:=abP.1 h;simp only[Prod.mk.injEq]at h;exact⟨i,_,hi,h.1,h.2.1,h.2.2,by rfl⟩
theorem aaq {w:World}{base n:Nat}{va:Value}{l:List Value}(h:w.ownsRow base 46 1 va n l)(hb:base<=w.heap.size)(hn:n<=100000):
 ∃g cap w',(Builtin.append_ #[88,88] 88 #[va,.slice (some ⟨w.heap.size,0,none⟩) 1 1]).run Tryz.prog (w.alloc (.cells #[.pointer none] 46))= .ok (.slice (some ⟨g,0,none⟩) (n+1) cap) w'/\
  w'.ownsRow base 46 1 (.slice (some ⟨g,0,none⟩) (n+1) cap) (n+1) (l++[.pointer none])/\ε (fun k=>va.ownBlock=some k) w w':=by
 obtain⟨i,z,hi,hz,hs,hby,hzs⟩:=Tryz.info46;exact kQ Tryz.underlying88 hi hz hs hby hzs rfl h hn (by omega) hb 88
end
section
open Go Go.RowKit
attribute [local irreducible] cZ iC
def oU (w:World)(base:Nat)(vm:Value)(M:List (List Rec)):Prop:=
 ∃ms:List Value,w.ownsRow base 60 1 vm M.length ms/\ ∀(i:Nat)(L:List Rec),M[i]?=some L-> ∃v n,ms[i]?=some v/\w.ownsRow base 68 3 v n (recs L)
theorem oU.kept {S:Nat->Prop}{w w':World}{base:Nat}{vm:Value}{M:List (List Rec)}(h:oU w base vm M)(hk:ε S w w')(hS: ∀q,S q->q<base):oU w' base vm M:=by obtain⟨ms,h1,h2⟩:=h;refine⟨ms,hk.owns h1 (fun q hq hs=>by have:=(h1.lt q hq).1;have:=hS q hs;omega),fun i L hL=>?_⟩;obtain⟨v,n,a,b⟩:=h2 i L hL;exact⟨v,n,a,hk.owns b (fun q hq hs=>by have:=(b.lt q hq).1;have:=hS q hs;omega)⟩
theorem oU.pure {w w':World}{base:Nat}{vm:Value}{M:List (List Rec)}(h:oU w base vm M)(hk:ε η w w'):oU w' base vm M:=h.kept hk (fun _ h=>h.elim)
theorem oU.push {w:World}{base:Nat}{vm:Value}{M:List (List Rec)}(h:oU w base vm M){u:Value}{n:Nat}{L:List Rec}(hu:w.ownsRow base 68 3 u n (recs L))(hb:base<=w.heap.size)(hn:M.length<=1000):
 ∃g cap w',(Builtin.append_ #[142,142] 142 #[vm,.slice (some ⟨w.heap.size,0,none⟩) 1 1]).run Tryz.prog (w.alloc (.cells #[u] 60))= .ok (.slice (some ⟨g,0,none⟩) (M.length+1) cap) w'/\
  oU w' base (.slice (some ⟨g,0,none⟩) (M.length+1) cap) (M++[L])/\ε (fun q=>vm.ownBlock=some q) w w'/\(vm.ownBlock=some g\/w.heap.size<=g):=by
 obtain⟨ms,h1,h2⟩:=h;obtain⟨i60,z60,hi,hz,hs,hby,hzc⟩:=Tryz.info60;have hone:u.oneCell'=true:=by
  rcases hu.2 with⟨rfl,_⟩|⟨_,_,_,rfl,_⟩<;>rfl
 obtain⟨g,cap,w',p1,p2,p3⟩:=kQ Tryz.underlying142 hi hz hs hby hzc hone h1 (by omega) (by omega) hb 142;have hl:ms.length=M.length:=(by have:=h1.1;omega);refine⟨g,cap,w',p1,⟨ms++[u],by rw[ν];exact p2,fun i K hK=>?_⟩,p3,?_⟩
 ·have keep: ∀{v:Value}{m:Nat}{K:List Rec},w.ownsRow base 68 3 v m (recs K)->w'.ownsRow base 68 3 v m (recs K):=fun hv=>p3.owns hv (fun q hq hs=>rU hv h1 (by decide) q hq hs)
  by_cases hi:i<M.length
  ·rw[Ω hi]at hK
   obtain⟨v,m,a,b⟩:=h2 i K hK;exact⟨v,m,by rw[Ω (by omega)];exact a,keep b⟩
  ·have hi2:i=M.length:=by have:=(μ.1 hK).1;simp at this;omega
   subst hi2;rw[Ψ (ξ _),Nat.sub_self]at hK
   injection hK with hK
   subst hK;exact⟨u,n,by rw[Ψ (by omega),hl,Nat.sub_self];rfl,keep hu⟩
 ·have kA:ε η w (w.alloc (.cells #[u] 60)):=δ.alloc _
  have hw:=tZ (P:=Tryz.prog) base 142 142 60 i60 z60 1 24 Tryz.underlying142 hi hz hs hby vm M.length ms (kA.owns h1 (fun _ _ h=>h)) ⟨w.heap.size,0,none⟩ 1 1 [u] rfl
   (fun j x hx=>by
     match j,hx with
     |0,hx=>cases hx;exact ζ (heap_alloc_new w (.cells #[u] 60)) rfl) (fun x hx=>by rw[abQ.1 hx];exact hone) (by omega) (by unfold maxLen;omega) (by omega) p1 g rfl
  rcases hw with hw|hw
  ·exact .inl hw
  ·right;rw[hw];simp
structure lJ (w:World)(n0:Nat)(B:Option Nat)(Ts:Tabs)(pm:Nat->Nat):Prop where
 tab: ∀(i:Nat)(T:Tab),Ts[i]?=some (some T)->n0<=pm i/\bF w (fun q=>B≠some q) (pm i) T
 inj: ∀(i k:Nat)(T U:Tab),Ts[i]?=some (some T)->Ts[k]?=some (some U)->i≠k->pm i≠pm k
theorem lJ.pure {w w':World}{n0:Nat}{B:Option Nat}{Ts:Tabs}{pm:Nat->Nat}(h:lJ w n0 B Ts pm)(hk:ε η w w'):lJ w' n0 B Ts pm:=
 ⟨fun i T hT=>⟨(h.tab i T hT).1,(h.tab i T hT).2.kept hk (fun _ h=>h.elim)⟩,h.inj⟩
theorem lJ.grow {w w':World}{n0:Nat}{B B':Option Nat}{Ts:Tabs}{pm:Nat->Nat}(h:lJ w n0 B Ts pm)(hk:ε (fun q=>B=some q) w w')(hB: ∀q,B'=some q->B=some q\/w.heap.size<=q):lJ w' n0 B' Ts pm:=
 ⟨fun i T hT=>⟨(h.tab i T hT).1,((h.tab i T hT).2.Pg.kept hk (fun q hq hn=>hn.1 hq)).mono (fun q hq hB'=>by
   rcases hB q hB' with h1|h1
   ·exact hq.1 h1
   ·omega)⟩,h.inj⟩
theorem lJ.turn {w w':World}{n0:Nat}{B:Option Nat}{Ts:Tabs}{pm:Nat->Nat}(h:lJ w n0 B Ts pm){i:Nat}{T T':Tab}(hT:Ts[i]?=some (some T))(hk:ε (one (pm i)) w w')(ht:bF w' (fun q=>B≠some q) (pm i) T'):lJ w' n0 B (Ts.set i (some T')) pm:=by
 have hlen:=(μ.1 hT).1;have hset: ∀(k:Nat)(U:Tab),(Ts.set i (some T'))[k]?=some (some U)-> ∃V,Ts[k]?=some (some V)/\(k=i->U=T')/\(k≠i->U=V):=fun k U hU=>by
  by_cases e:k=i
  ·subst e
   rw[List.getElem?_set_self hlen]at hU
   injection hU with hU;injection hU with hU
   exact⟨T,hT,fun _=>hU.symm,fun h=>absurd rfl h⟩
  ·rw[List.getElem?_set_ne (fun h=>e h.symm)]at hU
   exact⟨U,hU,fun h=>absurd h e,fun _=>rfl⟩
 refine⟨fun k U hU=>?_,fun k m U V hU hV hne=>?_⟩
 ·obtain⟨V,hV,e1,e2⟩:=hset k U hU
  refine⟨(h.tab k V hV).1,?_⟩;by_cases e:k=i
  ·subst e
   rw[e1 rfl];exact ht
  ·rw[e2 e]
   exact bF.afE (h.tab i T hT).2.at (h.tab k V hV).2 hk (h.inj k i V T hV hT e)
 ·obtain⟨U',xG,_⟩:=hset k U hU
  obtain⟨V',hV',_⟩:=hset m V hV;exact h.inj k m U' V' xG hV' hne
def uj (Ts:Tabs)(pm:Nat->Nat):Nat->Prop:=fun q=> ∃(i:Nat)(T:Tab),Ts[i]?=some (some T)/\pm i=q
theorem lJ.notS {w:World}{n0:Nat}{B:Option Nat}{Ts:Tabs}{pm:Nat->Nat}(h:lJ w n0 B Ts pm){b E:Nat}{c:Array Value}{f:Nat×Nat}(hb:w.heap[b]?=some (.cells c E f))(hE:E≠103): ¬uj Ts pm b:=by
 rintro⟨i,T,hT,rfl⟩;obtain⟨v,cs,h1,_⟩:=(h.tab i T hT).2.out;rw[hb]at h1
 injection h1 with h1
 injection h1 with _ h1 _
 exact hE h1
theorem lJ.TS {w:World}{n0:Nat}{B:Option Nat}{Ts:Tabs}{pm:Nat->Nat}(h:lJ w n0 B Ts pm){q:Nat}(hq:uj Ts pm q):n0<=q/\q<w.heap.size:=by obtain⟨i,T,hT,rfl⟩:=hq;exact⟨(h.tab i T hT).1,(h.tab i T hT).2.lt⟩
def QK (wb w:World)(j:Jb)(Ts:Tabs)(pm:Nat->Nat)(key val:Int)(e:Ending)(w':World):Prop:=
 ∃v,e= .returned v/\Reads w' 3 v (recs (iF j.nodes Ts key val).1)/\(∀b,Value.blk v=some b->w.heap.size<=b)/\lJ w' wb.heap.size none (iF j.nodes Ts key val).2 pm/\ε (uj Ts pm) w w'
end
