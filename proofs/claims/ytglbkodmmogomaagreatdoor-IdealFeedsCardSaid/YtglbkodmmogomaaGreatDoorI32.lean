/- What each law of the ideals ends in: the document's job, fed twice. -/
import Derived.Test.YtglbkodmmogomaaGreatDoorI31
set_option linter.unusedVariables false
set_option linter.unusedSimpArgs false
set_option maxHeartbeats 4000000
set_option maxRecDepth 100000
namespace Go.Proofs.YtglbkodmmogomaaGreatDoor
section
open Go Go.RowKit
attribute [local irreducible] cZ iC H2.dX
theorem eH.CX {nodes:List JN}{Ts Us:Tabs}(h:eH nodes Ts)(hu:eH nodes Us){i:Nat}{T:Tab}(hT:Ts[i]?=some (some T)): ∃U,Us[i]?=some (some U):=by
 have hi:i<nodes.length:=(by rw[<-h.len];exact(μ.1 hT).1);obtain⟨d,hd⟩: ∃d,nodes[i]?=some d:=⟨_,ι hi⟩
 cases hs:stateful d.kind with
 |false=>rw[h.not i d hd hs]at hT;cases hT
 |true=>obtain⟨U,hU,_⟩:=hu.has i d hd hs;exact⟨U,hU⟩
theorem eH.newT {nodes:List JN}{Ts Us:Tabs}(h:eH nodes Ts)(hu:eH nodes Us){n:Nat}{pm:Nat->Nat×Nat}(hn:rH n Ts pm):rH n Us pm:=fun q U hU=>by obtain⟨T,hT⟩:=hu.CX h hU;exact hn q T hT
theorem ε.maps {w0 w w':World}{Ts:Tabs}{pm:Nat->Nat×Nat}(h:ε η w0 w)(hn:rH w0.heap.size Ts pm)(hk:ε (nH Ts pm) w w'):ε η w0 w':=
 h.new hk (fun i hi hs=>by
  obtain⟨q,T,hT,rfl⟩:=hs;have:=hn q T hT
  omega)
def wH:Jb:=⟨2,uV⟩
theorem Ho:gu wH=true:=by kernel_rfl
theorem IQ:og wH []= .ok [none,some [],none]:=by kernel_rfl
theorem FH:iF uV [none,some [],none] 5 2=([⟨1,5,2⟩],[none,some [(5,2,[])],none]):=by kernel_rfl
theorem UN:(iF uV [none,some [(5,2,[])],none] 5 4).1=[⟨1,5,6⟩]:=by kernel_rfl
theorem gI.jr {w:World}{v:Value}{L:List JN}(h:gI w v L):JR L:=by obtain⟨cs,h1,h2,h3⟩:=h;intro d hd env he;obtain⟨i,hi⟩:=List.getElem?_of_mem hd;obtain⟨pi,ci,p,c,_,h6,_⟩:=h3 i d hi;exact vW h6 he
theorem Bc (w:World)(m:Int)(hm:w.cell? ⟨0,0,none⟩=some (.int .i64 m)):Calls Tryz.prog 17 #[] w (Gives w (.bool true)):=by have c1:=aaE abD 2 uV w UM m hm;clear hm;go_enter Tryz.func17,Tryz.ntmps17;go_wp2_with fail;(with_reducible refine c1.mono ?_);clear c1;rintro e w1 ⟨v,J,lo,D,rfl,hj,hJ,k1⟩;have c2:=aay wH _ w1 hj.job;unfold qW at c2;rw[IQ]at c2;dsimp only at c2;have Hq:JR uV:=(by obtain⟨v',_,hn,_⟩:=hj.job;exact hn.jr);have K1:=γ k1;clear hj hJ k1;go_wp2_with fail;(with_reducible refine c2.mono ?_);clear c2;rintro e w2 ⟨b,mm,pm,rfl,hi,hmm,hnt,k2⟩;have hT0:=(TU IQ).2;have c3:=Qs wH b mm _ pm 5 2 w2 hi Ho Hq hT0 (.small (by simp) (by simp)) (.small (by simp) (by simp));unfold VY at c3;rw[show wH.nodes=uV from rfl,FH]at c3;dsimp only at c3;have K2:=γ (θ k2 hnt);clear hi hmm hnt k2;go_wp2_with fail;(with_reducible refine c3.mono ?_);clear c3;rintro e w3 ⟨v3,rfl,hr3,hb3,hi3,k3⟩;have hT1:eH uV [none,some [(5,2,[])],none]:=(by have:=(EW Ho (show JR wH.nodes from Hq) hT0 (key:=5) (val:=2) (.small (by simp) (by simp)) (.small (by simp) (by simp))).1;rwa[show wH.nodes=uV from rfl,FH]at this);have ka:ε η w3 (w3.alloc (.cells #[.int .i64 1,.int .i64 5,.int .i64 2] 68)):=δ.alloc _;have c4:=EY v3 _ _ [⟨1,5,2⟩] _ (hr3.kept ka (fun _ _ h=>h)) (Reads.lit w3 [.int .i64 1,.int .i64 5,.int .i64 2] 68 3 1 rfl (by unfold maxLen;omega));rw[show Qx [⟨1,5,2⟩] [⟨1,5,2⟩]=true by decide]at c4;have K3:=γ (θ hi3 (θ (ε.maps (ε.refl η w1|>.trans K2.o.1) K2.o.2 k3) (θ ka hT1)));clear hr3 hb3 hi3 k3 ka hT1;go_wp2_with fail;(with_reducible refine c4.mono ?_);clear c4;rintro e w4 ⟨rfl,k4⟩;have c5:=Qs wH b mm _ pm 5 4 w4 (K3.o.1.pure (K3.o.2.2.1.trans k4)) Ho Hq K3.o.2.2.2 (.small (by simp) (by simp)) (.small (by simp) (by simp));unfold VY at c5;rw[show wH.nodes=uV from rfl,UN]at c5;have K4:=γ k4;clear k4;go_wp2_with fail;(with_reducible refine c5.mono ?_);clear c5;rintro e w5 ⟨v5,rfl,BZ,-,-,k5⟩;have ka:ε η w5 (w5.alloc (.cells #[.int .i64 1,.int .i64 5,.int .i64 6] 68)):=δ.alloc _;have c6:=EY v5 _ _ [⟨1,5,6⟩] _ (BZ.kept ka (fun _ _ h=>h)) (Reads.lit w5 [.int .i64 1,.int .i64 5,.int .i64 6] 68 3 1 rfl (by unfold maxLen;omega));rw[show Qx [⟨1,5,6⟩] [⟨1,5,6⟩]=true by decide]at c6;have K5:=γ (θ (ε.maps (K3.o.2.1.trans (K3.o.2.2.1.trans K4.o)) (hT0.newT K3.o.2.2.2 K2.o.2) k5) ka);clear BZ k5 ka;go_wp2_with fail;(with_reducible refine c6.mono ?_);clear c6;rintro e w6 ⟨rfl,k6⟩;have F:=γ (K1.o.trans (K5.o.1.trans (K5.o.2.trans k6)));clear k6;go_wp2_with fail;go_ret;exact⟨rfl,F.o⟩
end
section
open Go Go.RowKit
attribute [local irreducible] cZ
theorem Tryz.info35: ∃i z,Tryz.prog.info? 35=some i/\i.zero=some z/\i.size=2/\i.bytes=32/\z.cells.size=2:=by have h:(Tryz.prog.info? 35).map (fun i=>(i.zero,i.size,i.bytes))=some (some (.agg #[.string ByteArray.empty,.string ByteArray.empty]),2,32):=(by kernel_rfl);obtain⟨i,hi,h⟩:=abP.1 h;simp only[Prod.mk.injEq]at h;exact⟨i,_,hi,h.1,h.2.1,h.2.2,by rfl⟩
def qG (nodes:List JN)(Ts:Tabs)(k:Nat):List St:=rO (nodes.take k) (Ts.take k)
theorem Tf {nodes:List JN}{Ts:Tabs}(h:Ts.length=nodes.length):qG nodes Ts nodes.length=rO nodes Ts:=by unfold qG;rw[χ (ξ _),χ (by omega)]
theorem OC {nodes:List JN}{Ts:Tabs}{k:Nat}{d:JN}{t:Option Tab}(hd:nodes[k]?=some d)(ht:Ts[k]?=some t):
 qG nodes Ts (k+1)=qG nodes Ts k++(wM (d,t)).toList:=by
 have h1:k<nodes.length:=(μ.1 hd).1;have h2:k<Ts.length:=(μ.1 ht).1;unfold qG rO;rw[ψ,ψ,hd,ht,Option.toList_some,Option.toList_some,List.zip_append (by rw[υ,υ];omega),List.filterMap_append];try rfl
theorem XP (nodes:List JN)(Ts:Tabs)(k:Nat):(qG nodes Ts k).length<=k:=by unfold qG rO;refine ω (List.length_filterMap_le _ _) ?_;rw[List.length_zip,υ,υ];omega
theorem XI (l:List St)(s:St):jc (l++[s])=jc l++[.string s.1,.string s.2]:=by unfold jc;rw[List.flatMap_append];rfl
theorem Tz {w:World}{base n:Nat}{va:Value}{l:List St}(h:w.ownsRow base 35 2 va n (jc l))(s:St)(hb:base<=w.heap.size)(hn:n<=100000):
 ∃iw w',(Builtin.append_ #[25,25] 25 #[va,.slice (some ⟨w.heap.size,0,none⟩) 1 1]).run Tryz.prog (w.alloc (.cells #[.string s.1,.string s.2] 35))= .ok iw w'/\w'.ownsRow base 35 2 iw (n+1) (jc (l++[s]))/\
  ε (fun q=>va.ownBlock=some q) w w'/\ ∃a c,iw= .slice a (n+1) c:=by
 obtain⟨i,z,hi,hz,hs,hby,hzs⟩:=Tryz.info35;have kA:ε η w (w.alloc (.cells #[.string s.1,.string s.2] 35)):=δ.alloc _;have hr:=Reads.lit w [.string s.1,.string s.2] 35 2 1 rfl (by unfold maxLen;omega);have hl:(jc l).length=n*2:=h.1;obtain⟨v',n',w',b1,b2,b3,b4,_⟩:=aW (P:=Tryz.prog) base 25 25 35 i z 2 32 Tryz.underlying25 hi hz hs hby hzs (by omega) (kA.owns h (fun _ _ h=>h)) hr (by intro y hy;simp at hy;rcases hy with rfl|rfl<;>rfl)
  (by simp;omega) (by simp;unfold maxLen;omega) (by have:=kA.size;omega)
 have hn':n'=n+1:=(by simp at b3;omega);subst hn';refine⟨v',w',b1,by rw[XI];exact b2,kA.pure.trans (ε.grown b4 (fun k hk _=>hk)),?_⟩;obtain⟨a,c,e⟩:=au b2;exact⟨a,c,e⟩
theorem QC {v:Value}{q:Nat}(h:Value.blk v=some q):v.ownBlock=some q:=by
 unfold Value.blk at h;split at h
 ·split at h
  ·cases h
  ·exact h
 ·cases h
def Dt (w:World)(l:List St)(e:Ending)(w':World):Prop:= ∃v,e= .returned v/\Reads w' 2 v (jc l)/\(∀q,Value.blk v=some q->w.heap.size<=q)/\ε η w w'
theorem abn (v:Value)(l:List St)(w:World)(h:Reads w 2 v (jc l)):Calls Tryz.prog 75 #[v] w fun e w'=> ∃v',e= .returned v'/\Reads w' 2 v' (jc l)/\(∀q,Value.blk v'=some q->Value.blk v=some q)/\w'=w:=by
 obtain⟨a,cap,rfl,h1,h2,h3⟩:=h.zL;have HR:=γ h;clear h h3;unfold maxLen at h2;go_enter Tryz.func75,Tryz.ntmps75;go_wp2_with fail;go_ret;refine⟨.slice a l.length l.length,rfl,?_,fun q hq=>by cases a<;>exact hq,rfl⟩;obtain⟨a',n,cap',e,h1,h2,h3,h4⟩:=HR.o
 injection e with e1 e2 e3
 subst e1 e2 e3;exact⟨a,_,_,rfl,ξ _,ω h1 h2,h3,h4⟩
theorem UO (j:Jb)(b m:Nat)(Ts:Tabs)(pm:Nat->Nat×Nat)(w:World)(h:vM w b m j Ts pm)(hlen:Ts.length=j.nodes.length)(hsm:j.nodes.length<=1000):
 Calls Tryz.prog 29 #[.pointer (some ⟨b,0,none⟩)] w (Dt w (rO j.nodes Ts)):=by
 obtain⟨⟨nv,hob,hn⟩,hpar,htb⟩:=h;obtain⟨na,cap,rfl,h1,h2,h3⟩:=hn.at;have x1:w.cell? ⟨b,1,none⟩=some (.slice na j.nodes.length cap):=ζ hob rfl;have x2:w.cell? ⟨b,2,none⟩=some (.map (some m)):=ζ hob rfl;have hbl:b<w.heap.size:=(κ.1 hob).1;have H:=γ (θ htb (θ h3 hlen));clear hob hn hpar htb h3 hlen;unfold maxLen at h2;go_enter Tryz.func29,Tryz.ntmps29;go_wp2;go_loopg [3,16] j.nodes.length (fun g vo vi wr=> ∃k:Nat,k<=j.nodes.length/\vi= .int .i64 (k:Int)/\j.nodes.length-k<=g/\wr.ownsRow w.heap.size 35 2 vo (qG j.nodes Ts k).length (jc (qG j.nodes Ts k))/\ε η w wr)
 case atStart=>exact⟨0,by omega,rfl,by omega,World.ownsRow_nil _ _ _ _,ε.refl _ _⟩
 case round=>
  obtain⟨k,hkn,rfl,hg,hown,hkp⟩:=hrel;obtain⟨wo,rfl⟩: ∃wo:World,wo=wr:=⟨_,rfl⟩;obtain⟨va,vc,rfl⟩:=au hown;have x1:=hkp.cell (p:=⟨b,1,none⟩) id x1;have x2:=hkp.cell (p:=⟨b,2,none⟩) id x2;have hle:=XP j.nodes Ts k;by_cases hlt:k<j.nodes.length
  ·obtain⟨d,hd⟩: ∃d,j.nodes[k]?=some d:=⟨_,ι hlt⟩
   obtain⟨t,ht⟩: ∃t,Ts[k]?=some t:=⟨_,ι (by have:=H.o.2.2;omega)⟩;obtain⟨nb,off,pi,ci,p,cap',rfl,hc,hjn⟩:=H.o.2.1 k d hd;obtain⟨c0,c1,c2,c3,c4,c5,c6⟩:=hc.kept hkp id;have kA:ε η wo (wo.alloc (.cells (bG d pi ci p cap') 42)):=δ.alloc _;have hlk:=(H.o.1.pure (hkp.trans kA)).lookup k (by have:=H.o.2.2;omega);rw[σ,ht,Δ]at hlk;have x1a:=kA.cell (p:=⟨b,1,none⟩) id x1;have x2a:=kA.cell (p:=⟨b,2,none⟩) id x2;have nB:(wo.alloc (.cells (bG d pi ci p cap') 42)).heap[wo.heap.size]?=some (.cells (bG d pi ci p cap') 42 (0,0)):=heap_alloc_new _ _;have n0:(wo.alloc (.cells (bG d pi ci p cap') 42)).cell? ⟨wo.heap.size,0,none⟩=some (.string d.uid):=ζ nB rfl;have hsn:=OC hd ht;have G:=γ (θ hg (θ hown (θ hkp (θ kA (θ n0 hsn)))));have hbw:b<wo.heap.size:=Pe hbl hkp.size;clear hg hown hkp kA n0 nB hsn hc hjn hd
   cases t with
   |none=>
    simp only[l7,Option.map_none,Option.getD_none,Option.isSome_none]at hlk;clear ht;go_wp2_with fail;go_roundg (j.nodes.length-(k+1))
    case rel=>exact⟨k+1,by omega,by go_num,ξ _,by rw[G.o.2.2.2.2.2,show(wM (d,none)).toList=[]from rfl,List.append_nil];exact G.o.2.2.2.1.owns G.o.2.1 (fun _ _ h=>h),G.o.2.2.1.trans G.o.2.2.2.1⟩
    case measure=>have:=G.o.1;omega
   |some T=>
    simp only[l7,Option.map_some,Δ,Option.isSome_some]at hlk;have hT:=(H.o.1.tab k T ht).1;have HT:=γ (hT.pure (G.o.2.2.1.trans G.o.2.2.2.1));clear ht hT;go_wp2_with fail;obtain⟨WA,zn⟩:=acf ((wo.alloc (.cells (bG d pi ci p cap') 42)));rw[zn]at G HT;have Cj:(wo.alloc (.cells #[.string d.uid,.int .u8 d.kind,.slice pi d.ins.length ci,.int .u8 d.x.op,.int .i64 d.x.n,.slice p d.x.args.length cap',.int .i64 d.n] 42))=WA:=zn;try rw[Cj]
    have n0:=G.o.2.2.2.2.1;have hno: ¬(Value.slice va (qG j.nodes Ts k).length vc).ownBlock=some wo.heap.size:=fun h=>(by have:=(G.o.2.1.lt _ h).2;omega);clear zn Cj hlk x1a x2a c0 c1 c2 c3 c4 c5 c6 x1 x2;refine ak [0,1,2,3,4,5,6,7,8] (fun W=>ε (fun q=>(Value.slice va (qG j.nodes Ts k).length vc).ownBlock=some q) WA W) (by kernel_rfl) (by kernel_rfl) rfl δ.drew ?_;simp only[abU];iterate 4 (apply aj rfl rfl;(intro W hW;have z0:=hW.cell (p:=⟨wo.heap.size,0,none⟩) hno n0;go_simp;rfl);go_frame)
    apply aA rfl rfl;intro K hK;go_wp2_with fail;(with_reducible refine(Zy yU _ _ T _ (HT.o.pure (ε.refl η WA).drew)).mono ?_);rintro e w5 ⟨rfl,k5⟩;go_wp2_with fail;refine hK _ _ (fun _=>((ε.refl η WA).drew.trans k5).pure) ?_;clear hK;have hown5:=((ε.refl η WA).drew.trans k5).owns (G.o.2.2.2.1.owns G.o.2.1 (fun _ _ h=>h)) (fun _ _ h=>h);have Pv:=G.o.2.2.1.trans (G.o.2.2.2.1.trans ((ε.refl η WA).drew.trans k5));obtain⟨v6,w6,g1,g2,g3,a6,c6,rfl⟩:=Tz hown5 (d.uid,strOf (dV (uy T))) Pv.size (by omega);apply aj rfl rfl
    ·intro W hW
     go_simp;rfl
    go_frame;apply aA rfl rfl;intro K2 hK2;go_wp2_with fail;refine hK2 _ _ (fun _=>(((ε.refl η WA).drew.trans k5).alloc _).pure) ?_;clear hK2
    have Z:=γ (θ (show w6.ownsRow w.heap.size 35 2 (.slice a6 ((qG j.nodes Ts k).length+1) c6) (qG j.nodes Ts (k+1)).length (jc (qG j.nodes Ts (k+1))) by
     rw[G.o.2.2.2.2.2]
     simpa[wM]using g2) (Pv.new g3 (fun i hi hs=>by have:=(hown5.lt i hs).1;omega)))
    apply aA rfl rfl;intro K3 hK3;refine rM (.tmp 31) (.tmp 37) 25 rfl _ _ _ rfl rfl g1 ?_;refine hK3 _ _ (fun _=>((ε.refl η WA).drew.trans k5).pure.trans g3) ?_;clear hK3;apply aj rfl rfl
    ·intro W hW
     go_simp;rfl
    go_frame;refine aG (fun _=>((ε.refl η WA).drew.trans k5).pure.trans g3) ?_;clear g1 g2 g3 hown5 k5 Pv n0;go_wp2_with fail;go_roundg (j.nodes.length-(k+1))
    case rel=>exact⟨k+1,by omega,by go_num,ξ _,Z.o⟩
    case measure=>have:=G.o.1;omega
  ·have e1:k=j.nodes.length:=by omega
   subst e1;have cl:=abn _ _ wo (Reads.aN hown);have G:=γ (θ hown hkp);clear hown hkp hg hlt x1 x2;go_wp2_with fail;(with_reducible refine cl.mono ?_);clear cl;rintro e w2 ⟨v',rfl,hr,hb2,rfl⟩;have F:=γ (show Dt w (rO j.nodes Ts) (.returned v') w2 from⟨v',rfl,by rw[<-Tf H.o.2.2];exact hr,fun q hq=>(G.o.1.lt q (QC (hb2 q hq))).1,G.o.2⟩);clear hr hb2;go_wp2_with fail;go_ret;exact F.o
def Qw (xs ys:List St):Bool:=decide (xs=ys)
theorem UJ {xs ys:List St}{k:Nat}{x y:St}(h:xs.take k=ys.take k)(hx:xs[k]?=some x)(hy:ys[k]?=some y)(e:x=y):xs.take (k+1)=ys.take (k+1):=by rw[ψ,ψ,h,hx,hy,e]
theorem abd {xs ys:List St}(h:xs.length≠ys.length):Qw xs ys=false:=decide_eq_false (fun e=>h (by rw[e]))
theorem adb {xs ys:List St}{k:Nat}{x y:St}(hx:xs[k]?=some x)(hy:ys[k]?=some y)(h:x≠y):Qw xs ys=false:=
 decide_eq_false (fun e=>by rw[e,hy]at hx;cases hx;exact h rfl)
theorem Zn {xs ys:List St}{k:Nat}(h:xs.take k=ys.take k)(hk:xs.length<=k)(hl:xs.length=ys.length):Qw xs ys=true:=
 decide_eq_true (by rw[χ hk,χ (by omega)]at h;exact h)
theorem ada (a b:Value)(xs ys:List St)(w:World)(ha:Reads w 2 a (jc xs))(hb:Reads w 2 b (jc ys)):
 Calls Tryz.prog 14 #[a,b] w (Gives w (.bool (Qw xs ys))):=by
 obtain⟨pa,ca,rfl,a1,a2,a3⟩:=ha.zL;obtain⟨pb,cb,rfl,b1,b2,b3⟩:=hb.zL;unfold maxLen at a2 b2;clear ha hb;by_cases hl:xs.length=ys.length
 ·have hne:(((xs.length:Nat):Int) !=((ys.length:Nat):Int))=false:=by rw[hl];simp
  have A3:=γ a3;have B3:=γ b3;have HL:=γ hl;clear a3 b3 hl;go_enter Tryz.func14,Tryz.ntmps14;go_wp2
  go_loopw [13] (fun i wr=> ∃k:Nat,k<=xs.length/\i= .int .i64 k/\xs.take k=ys.take k/\ε η w wr) (fun i _=>xs.length-(intOf i).toNat)
  case atStart=>exact⟨0,by omega,rfl,by simp,ε.refl _ _⟩
  case round=>
   obtain⟨k,hk,rfl,ht,hkp⟩:=hrel;have HT:=γ ht;clear ht;by_cases hlt:k<xs.length
   ·obtain⟨x,hx⟩: ∃x,xs[k]?=some x:=⟨_,ι hlt⟩
    obtain⟨y,hy⟩: ∃y,ys[k]?=some y:=⟨_,ι (by rw[<-HL.o];exact hlt)⟩;obtain⟨b0,off,rfl,hc⟩:=A3.o.resolve_left (fun h=>by rw[h]at hlt;simp at hlt);obtain⟨b1,off1,rfl,hd⟩:=B3.o.resolve_left (fun h=>by rw[h]at hy;simp at hy);have x0:=hkp.cell (p:=⟨b0,off+k*2,none⟩) id (hc k x hx).1;have x1:=hkp.cell (p:=⟨b0,off+k*2+1,none⟩) id (hc k x hx).2;have y0:=hkp.cell (p:=⟨b1,off1+k*2,none⟩) id (hd k y hy).1;have y1:=hkp.cell (p:=⟨b1,off1+k*2+1,none⟩) id (hd k y hy).2;have HX:=γ (θ hx hy);have hlt2:k<ys.length:=(by rw[<-HL.o];exact hlt);clear hc hd hx hy A3 B3;go_wp2_with fail;refine ak [0,1,2,3,4,5,6,7,8] (fun W=>ε η wr W) (by kernel_rfl) (by kernel_rfl) rfl δ.drew ?_;simp only[abU];iterate 8 (apply aj rfl rfl;(intro W hW;have c0:=hW.cell (p:=⟨b0,off+k*2,none⟩) id x0;have c1:=hW.cell (p:=⟨b0,off+k*2+1,none⟩) id x1;have d0:=hW.cell (p:=⟨b1,off1+k*2,none⟩) id y0;have d1:=hW.cell (p:=⟨b1,off1+k*2+1,none⟩) id y1;go_simp;rfl);go_frame)
    refine aj (v:= .bool (decide (x≠y))) rfl rfl ?_ ?_
    ·intro W hW
     go_simp;by_cases hxy:x=y
     ·subst hxy;simp
     ·have: ¬(x.1=y.1/\x.2=y.2):=fun h=>hxy (Prod.ext h.1 h.2)
      simp[hxy];intro h1 h2;have g1:x.1=y.1:=(by have:=str_eq x.1 y.1;rw[h1]at this;simpa using this);have g2:x.2=y.2:=(by have:=str_eq x.2 y.2;rw[h2]at this;simpa using this);exact this ⟨g1,g2⟩
    go_frame;refine aG (fun _=>δ.drew) ?_;clear x0 x1 y0 y1;by_cases hxy:x=y
    ·have hf:decide (x≠y)=false:=by simp[hxy]
     rw[hf];have AZ:=γ hxy;clear hxy hf;go_wp2_with fail
     go_roundw
     case rel=>exact⟨k+1,by omega,by go_num,UJ HT.o HX.o.1 HX.o.2 AZ.o,hkp.drew⟩
     case measure=>simp[intOf];omega
    ·have hf:decide (x≠y)=true:=by simp[hxy]
     rw[hf];have AZ:=γ hxy;clear hxy hf;go_wp2_with fail;go_ret;exact⟨bK (adb HX.o.1 HX.o.2 AZ.o).symm,hkp.drew⟩
   ·go_wp2_with fail
    go_ret;exact⟨bK (Zn HT.o (by omega) HL.o).symm,hkp⟩
 ·have hne:(((xs.length:Nat):Int) !=((ys.length:Nat):Int))=true:=by simp;omega
  have HL:=γ hl;clear a3 b3 hl;go_enter Tryz.func14,Tryz.ntmps14;go_wp2;go_ret;exact⟨bK (abd HL.o).symm,ε.refl _ _⟩
end
section
open Go Go.RowKit
end
section
open Go Go.RowKit
attribute [local irreducible] cZ iC H2.dX
end
section
open Go Go.RowKit
end
section
open Go Go.RowKit
attribute [local irreducible] cZ iC H2.dX
end
section
open Go Go.RowKit Go.ChangeShapes Go.WideShapes Go.ChangeAt Go.Deep
section
variable {H:Type} {enc:TypeId×Value->H} {w:World}
theorem aav {fuel n cap:Nat}{a:Option Addr}{x:DataW H×List MemPlace}(h:DataW.trod enc Tryz.prog w 0 (fun _=>true) true fuel 25 [.slice a n cap]=some x):
 ∃L:List St,L.length=n/\Reads w 2 (.slice a n cap) (jc L)/\ ∀s∈L,s.1.size<=maxLen/\s.2.size<=maxLen:=by
 obtain⟨cs,hl,hr,hel⟩:=sZ (k:=2) Tryz.underlying25 (by kernel_rfl) (by omega) h;have each: ∀i,i<n-> ∃s:St,(s.1.size<=maxLen/\s.2.size<=maxLen)/\(cs.drop (i*2)).take 2=[.string s.1,.string s.2]:=by
  intro i hi;obtain⟨m,y,hy⟩:=hel i hi
  obtain⟨v0,v1,hd⟩: ∃v0 v1,(cs.drop (i*2)).take 2=[v0,v1]:=by
   have hlen:((cs.drop (i*2)).take 2).length=2:=by rw[υ,List.length_drop];omega
   match(cs.drop (i*2)).take 2,hlen with
   |[v0,v1],_=>exact⟨v0,v1,rfl⟩
  rw[hd]at hy⊢;obtain⟨xs,f1,_,_,_,hxl,hf⟩:=DataW.trod_struct Tryz.underlying35 hy;have g0:DataW.trod enc Tryz.prog w 0 (fun _=>true) true f1 9 ([v0,v1].drop 0|>.take (Tryz.prog.cellsOf 9))=xs[0]?:=hf 0 _ rfl;have g1:DataW.trod enc Tryz.prog w 0 (fun _=>true) true f1 9 ([v0,v1].drop 1|>.take (Tryz.prog.cellsOf 9))=xs[1]?:=hf 1 _ rfl;rw[show Tryz.prog.cellsOf 9=1 by kernel_rfl]at g0 g1;simp only[List.drop_succ_cons,List.drop_zero,List.take_succ_cons,List.take_zero]at g0 g1
  match xs,hxl with
  |[x0,x1],_=>
   obtain⟨s0,hs0,_,hz0⟩:=DataW.trod_string Tryz.underlying9 g0;obtain⟨s1,hs1,_,hz1⟩:=DataW.trod_string Tryz.underlying9 g1
   injection hs0 with hs0 _
   injection hs1 with hs1 _
   subst hs0 hs1;exact⟨(s0,s1),⟨hz0,hz1⟩,rfl⟩
 obtain⟨O,hO⟩:=choose_lt each;refine⟨(List.range n).map O,by simp,?_,fun r hr=>?_⟩
 ·have:cs=jc ((List.range n).map O):=by
   apply List.ext_getElem?;intro j;by_cases hj:j<n*2
   ·have hi:j/2<n:=by omega
    have h1:=(hO (j/2) hi).2;have h2:cs[j]?=((cs.drop (j/2*2)).take 2)[j%2]?:=by
     rw[abO,if_pos (Nat.mod_lt _ (by omega)),List.getElem?_drop]
     congr 1;omega
    rw[h2,h1];have h3:((List.range n).map O)[j/2]?=some (O (j/2)):=(by rw[abJ,List.getElem?_range hi];rfl);obtain⟨e0,e1⟩:=Ez h3;have hm:j%2=0\/j%2=1:=by omega
    rcases hm with hm|hm
    ·rw[hm,show j=j/2*2 by omega,show j/2*2/2=j/2 by omega,e0];rfl
    ·rw[hm,show j=j/2*2+1 by omega,show(j/2*2+1)/2=j/2 by omega,e1];rfl
   ·rw[abA (by rw[hl];omega),abA (by rw[uY];simp;omega)]
  rw[<-this];exact hr
 ·obtain⟨i,hi,rfl⟩:=abK.1 hr
  exact(hO i (List.mem_range.1 hi)).1
end
end
