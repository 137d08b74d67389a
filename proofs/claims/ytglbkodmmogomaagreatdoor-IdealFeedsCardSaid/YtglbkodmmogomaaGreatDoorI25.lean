/- job.May, walked. -/
import Derived.Test.YtglbkodmmogomaaGreatDoorI24
set_option linter.unusedVariables false
set_option linter.unusedSimpArgs false
set_option maxHeartbeats 4000000
set_option maxRecDepth 100000
namespace Go.Proofs.YtglbkodmmogomaaGreatDoor
open Go Go.RowKit
attribute [local irreducible] cZ
def ou (w:World)(r:Int×Int)(e:Ending)(w':World):Prop:=e= .returned (.tuple #[.int .i64 r.1,.int .i64 r.2])/\ε η w w'
def qm (nodes:List JN)(k:Nat):List ByteArray:=(nodes.take k).map (·.uid)
theorem Fg {nodes:List JN}{k:Nat}{d:JN}(h:nodes[k]?=some d):qm nodes (k+1)=qm nodes k++[d.uid]:=by unfold qm;rw[ψ,h];simp
theorem Rh {nodes:List JN}{k:Nat}{d:JN}(h:nodes[k]?=some d)(hn:(qm nodes k).Nodup):(qm nodes (k+1)).Nodup↔jD nodes k d=false:=by
 rw[Fg h,List.nodup_append];unfold jD;rw[decide_eq_false_iff_not];show _↔d.uid∉qm nodes k;constructor
 ·intro⟨_,_,h3⟩ hm
  exact h3 _ hm _ (abQ.2 rfl) rfl
 ·intro hm
  refine⟨hn,by simp,fun a ha b hb e=>?_⟩;rw[abQ.1 hb]at e;exact hm (e▸ha)
theorem ay {a b c d:Int}:((a==b)=(c==d))↔(a=b↔c=d):=by rw[Bool.eq_iff_iff,beq_iff_eq,beq_iff_eq]
theorem nT {nodes:List JN}{k:Nat}{d:JN}{many fl:Nat}{way:Int}(h1:fF nodes k=many)(h2:GI nodes k=fl)(h3:(bJ nodes).getD k 0=way):
 aS nodes k d=true↔((d.kind=1↔ ¬k=0)\/(d.kind=9↔ ¬k+1=nodes.length)\/(many=0↔ ¬k+1=nodes.length)\/3<many\/2<fl\/64<way):=by
 unfold aS;rw[h1,h2,h3];have hb: ∀p q:Prop,[Decidable p]->[Decidable q]->(((decide p !=decide q)=true)↔(p↔ ¬q)):=(by intro p q _ _;by_cases hp:p<;>by_cases hq:q<;>simp[hp,hq]);simp only[Bool.or_eq_true,hb,decide_eq_true_eq,or_assoc]
theorem Gz {nodes:List JN}{k:Nat}{d:JN}(hd:nodes[k]?=some d):GI nodes k=(nodes.take k).countP (fun d=>d.kind==4)+(if d.kind=4 then 1 else 0):=by
 unfold GI;rw[ψ,hd,List.countP_append]
 congr 1
 by_cases h:d.kind=4
 ·simp[h]
 ·simp[h]
theorem Iy {nodes:List JN}{k:Nat}{d:JN}(hd:nodes[k]?=some d):bJ (nodes.take (k+1))=bJ (nodes.take k)++[uU (bJ (nodes.take k)) d]:=by rw[ψ,hd];exact wG _ _
theorem PE (j:Jb)(a:Array Value)(w:World)(h:lK w a j):Calls Tryz.prog 41 #[.agg a] w (ou w (gU j)):=by
 have hJ:=h;obtain⟨v,rfl,hn,hp⟩:=h;obtain⟨na,cap,rfl,h1,h2,h3⟩:=hn.at;unfold maxLen at h2;have H3:=γ (θ h3 hJ);clear h3 hn hJ;obtain⟨hp1,hp2⟩:=hp;have HD:=γ (show eF j=(decide (j.par<1)||decide (4<j.par)||decide (j.nodes.length<2)||decide (12<j.nodes.length)||decide (1000<1001-iT (j.nodes.map (·.x)) 1001))from rfl);have hHead: ∀{w':World},eF j=true->ε η w w'->ou w (gU j) (.returned (.tuple #[.int .i64 0,.int .i64 2])) w':=fun hb hk=>⟨by rw[BO hb],hk⟩;go_enter Tryz.func41,Tryz.ntmps41;by_cases c1:j.par<1
 ·have F:=γ (hHead (w':=(w.alloc (.cells #[.int .i64 j.par,.slice na j.nodes.length cap] 24))) (by rw[HD.o,decide_eq_true c1];rfl) (δ.alloc _))
  clear hHead;go_wp2_with fail;go_ret2;exact F.o
 by_cases c2:4<j.par
 ·have F:=γ (hHead (w':=(w.alloc (.cells #[.int .i64 j.par,.slice na j.nodes.length cap] 24))) (by rw[HD.o,decide_eq_true c2];simp) (δ.alloc _))
  clear hHead;go_wp2_with fail;go_ret2;exact F.o
 by_cases c3:j.nodes.length<2
 ·have F:=γ (hHead (w':=(w.alloc (.cells #[.int .i64 j.par,.slice na j.nodes.length cap] 24))) (by rw[HD.o,decide_eq_true c3];simp) (δ.alloc _))
  clear hHead;have c3':(j.nodes.length:Int)-1<1:=(by omega);go_wp2_with fail;go_ret2;exact F.o
 by_cases c4:12<j.nodes.length
 ·have F:=γ (hHead (w':=(w.alloc (.cells #[.int .i64 j.par,.slice na j.nodes.length cap] 24))) (by rw[HD.o,decide_eq_true c4];simp) (δ.alloc _))
  clear hHead;have c4':12<=(j.nodes.length:Int)-1:=(by omega);go_wp2_with fail;go_ret2;exact F.o
 have kA:ε η w (w.alloc (.cells #[.int .i64 j.par,.slice na j.nodes.length cap] 24)):=δ.alloc _;have cp:=Yi j _ _ (H3.o.2.pure kA);have hcl:=Dk (j.nodes.map (·.x)) 1001;obtain⟨m,hm⟩: ∃m,iT (j.nodes.map (·.x)) 1001=m:=⟨_,rfl⟩;rw[hm]at cp hcl;rw[hm]at HD;clear hm;have Il:j.nodes.length<=12:=(by omega);have hn2:2<=j.nodes.length:=(by omega);by_cases c5:1000<1001-m
 ·have F:=γ (fun w' hk=>hHead (w':=w') (by rw[HD.o,decide_eq_true c5];simp) hk)
  clear hHead;go_wp2_with (go_at_call 85;refine cp.mono ?_;rintro e w2 ⟨rfl,k2⟩);go_ret2;exact F.o _ (kA.trans k2)
 have hOk:eF j=false:=(by rw[HD.o,decide_eq_false c1,decide_eq_false c2,decide_eq_false c3,decide_eq_false c4,decide_eq_false c5];rfl);have HO:=γ hOk;clear hOk hHead HD hp1 hp2;have c3':1<=(j.nodes.length:Int)-1:=(by omega);have c4':(j.nodes.length:Int)-1<12:=(by omega);have b0:(w.alloc (.cells #[.int .i64 j.par,.slice na j.nodes.length cap] 24)).cell? ⟨w.heap.size,0,none⟩=some (.int .i64 j.par):=(by simp);have b1:(w.alloc (.cells #[.int .i64 j.par,.slice na j.nodes.length cap] 24)).cell? ⟨w.heap.size,1,none⟩=some (.slice na j.nodes.length cap):=(by simp);have B0:=γ (θ b0 b1);clear b0 b1;have KA:=γ kA;clear kA;have c5': ¬(1000<((1001-m:Nat):Int)):=(by omega);go_wp2_with (go_at_call 85;refine cp.mono ?_;rintro e W0 ⟨rfl,k2⟩;have x0:=k2.cell id B0.o.1;have x1:=k2.cell id B0.o.2);have K0:=γ (KA.o.trans k2);clear k2 B0 KA cp hcl c5 c5';have HX:=γ (θ x0 x1);clear x0 x1;go_loopg [5,43] j.nodes.length (fun g vo vi wr=> ∃(k:Nat),k<=j.nodes.length/\vi= .int .i64 (k:Int)/\j.nodes.length-k<=g/\wr.ownsRow W0.heap.size 9 1 vo k (strs (qm j.nodes k))/\ε η W0 wr/\(qm j.nodes k).Nodup/\ ∀m,m<k->kY j.nodes m=0)
 case atStart=>exact⟨0,by omega,rfl,by omega,World.ownsRow_nil _ _ _ _,ε.refl _ _,List.nodup_nil,fun m hm=>by omega⟩
 case round=>
  obtain⟨k,hkl,rfl,hg,hown,hkp,hnd,hbad⟩:=hrel;obtain⟨oa,oc,rfl⟩:=au hown;by_cases hlt:k<j.nodes.length
  ·obtain⟨d,hd⟩: ∃d,j.nodes[k]?=some d:=⟨_,ι hlt⟩
   obtain⟨b,off,pi,ci,p,cap',rfl,hc,hj⟩:=H3.o.1 k d hd;obtain⟨c0,c1,c2,c3,c4,c5,c6⟩:=hc.kept (K0.o.trans hkp) id;have kA:ε η wr (wr.alloc (.cells (bG d pi ci p cap') 42)):=δ.alloc _;have hbB:(wr.alloc (.cells (bG d pi ci p cap') 42)).heap[wr.heap.size]?=some (.cells (bG d pi ci p cap') 42 (0,0)):=heap_alloc_new _ _;have cm:=aaD d _ k _ (hj.pure (K0.o.trans (hkp.trans kA))) (by omega);have G:=γ (θ hg (θ hown (θ (hkp.trans kA) (θ hd (θ kA (θ hnd (θ hbad hbB)))))));clear hd hj hc hg hown hkp kA hnd hbad hbB H3
   cases hm:aX k d with
   |false=>rw[hm]at cm;have F:=γ (fun w' hk=>show ou w (gU j) (.returned (.tuple #[.int .i64 (k:Int),.int .i64 120])) w' from⟨by rw[zU HO.o hlt G.o.2.2.2.2.2.2.1 (QF G.o.2.2.2.1 hm) (by decide)],hk⟩);clear hm;go_wp2_with (go_at_call 86;refine cm.mono ?_;rintro e W1 ⟨rfl,k1⟩);go_ret2;exact F.o _ (K0.o.trans (G.o.2.2.1.trans k1))
   |true=>
    rw[hm]at cm;have HM:=γ hm;clear hm;go_wp2_with fail;(with_reducible refine cm.mono ?_);clear cm;rintro e W1 ⟨rfl,k1⟩;have x0:W1.cell? ⟨wr.heap.size,0,none⟩=some (.string d.uid):=ζ (k1.heap G.o.2.2.2.2.2.2.2 id) rfl;have kW:ε η wr W1:=G.o.2.2.2.2.1.trans k1;obtain⟨ti,hi9,hz9,hs9,hb9⟩:=aaK;obtain⟨g',cap2,w',p1,p2,p3⟩:=kQ (x:= .string d.uid) (bytes:=16) Tryz.underlying163 hi9 hz9 hs9 hb9 rfl rfl (kW.owns G.o.2.1 (fun _ _ h=>h)) (by omega) (by omega) (ω G.o.2.2.1.size k1.size) 173;have hrow:w'.ownsRow W0.heap.size 9 1 (.slice (some ⟨g',0,none⟩) (k+1) cap2) (k+1) (strs (qm j.nodes (k+1))):=(by rw[Fg G.o.2.2.2.1];unfold strs at p2⊢;rw[abM];exact p2);have ct:=Uy _ _ w' (Reads.aN hrow);have hlen:(qm j.nodes (k+1)).length=k+1:=(by unfold qm;rw[List.length_map,υ];omega);have kN:ε η W0 w':=(G.o.2.2.1.trans k1).new p3 (fun i hi hs=>by have h1:=(aU G.o.2.1 hs).1;omega);have P:=γ (θ hrow kN);clear p2 p3 hi9 hz9 hs9 hb9 hrow kN kW;have hnn:=Rh G.o.2.2.2.1 G.o.2.2.2.2.2.1
    cases hu:jD j.nodes k d with
    |true=>have e1:decide (qm j.nodes (k+1)).Nodup=false:=decide_eq_false fun h=>(by rw[hnn.1 h]at hu;cases hu);rw[e1]at ct;have F:=γ (fun w' hk=>show ou w (gU j) (.returned (.tuple #[.int .i64 (k:Int),.int .i64 121])) w' from⟨by rw[zU HO.o hlt G.o.2.2.2.2.2.2.1 (QE G.o.2.2.2.1 HM.o hu) (by decide)],hk⟩);clear hu hnn e1;go_wp2_with (first|(at_builtin;refine wpList_append_run rfl (.tmp 53) (.tmp 56) 163 rfl _ _ _ rfl rfl p1 ?_)|(go_at_call 87;refine ct.mono ?_;rintro e w3 ⟨rfl,rfl⟩));go_ret2;exact F.o _ (K0.o.trans P.o.2)
    |false=>
     have e1:decide (qm j.nodes (k+1)).Nodup=true:=decide_eq_true (hnn.2 hu);rw[e1]at ct
     have F:=γ (θ (hnn.2 hu) (show∀m,m<k+1->kY j.nodes m=0 from fun m hm=>by
      by_cases h:m<k
      ·exact G.o.2.2.2.2.2.2.1 m h
      ·have:m=k:=by omega
       subst this
       exact(sD G.o.2.2.2.1).2 ⟨HM.o,hu⟩))
     clear hu hnn e1;go_wp2_with (first|(at_builtin;refine wpList_append_run rfl (.tmp 53) (.tmp 56) 163 rfl _ _ _ rfl rfl p1 ?_)|(go_at_call 87;refine ct.mono ?_;rintro e w3 ⟨rfl,rfl⟩));go_roundg (j.nodes.length-(k+1))
     case rel=>exact⟨k+1,by omega,by go_num,ξ _,P.o.1,P.o.2,F.o.1,F.o.2⟩
     case measure=>have:=G.o.1;omega
  ·have e1:k=j.nodes.length:=by omega
   subst e1;have x1:=hkp.cell id HX.o.2;have KB:=γ (K0.o.trans hkp);have HXB:=γ (θ (hkp.cell id HX.o.1) x1);have HB:=γ hbad;clear hown hkp hnd hbad HX K0 hg hlt;go_wp2_with fail;clear x1;generalize wr=WB at*;go_loopg [8,9,65] j.nodes.length (fun g vf vo vi w2=> ∃(k:Nat),k<=j.nodes.length/\vi= .int .i64 (k:Int)/\j.nodes.length-k<=g/\vf= .int .i64 (((j.nodes.take k).countP fun d=>d.kind==4:Nat):Int)/\w2.ownsRow WB.heap.size 3 1 vo k (ints (bJ (j.nodes.take k)))/\ε η WB w2/\(∀x∈bJ (j.nodes.take k),0<=x/\x<=64)/\ ∀m e,m<k->j.nodes[m]?=some e->aS j.nodes m e=false)
   case atStart=>exact⟨0,by omega,rfl,by omega,rfl,World.ownsRow_nil _ _ _ _,ε.refl _ _,fun x hx=>by simp[bJ]at hx,fun m e hm=>by omega⟩
   case round=>
    obtain⟨k,hkl,rfl,hg,rfl,hown,hkp,hwb,hbad⟩:=hrel;obtain⟨DY,DX,rfl⟩:=au hown;by_cases hlt:k<j.nodes.length
    ·obtain⟨d,hd⟩: ∃d,j.nodes[k]?=some d:=⟨_,ι hlt⟩
     obtain⟨b,off,pi,ci,p,cap',rfl,hc,hj⟩:=H3.o.1 k d hd;obtain⟨c0,c1,c2,c3,c4,c5,c6⟩:=hc.kept (KB.o.trans hkp) id;have kA:ε η wr (wr.alloc (.cells (bG d pi ci p cap') 42)):=δ.alloc _;have hbB:(wr.alloc (.cells (bG d pi ci p cap') 42)).heap[wr.heap.size]?=some (.cells (bG d pi ci p cap') 42 (0,0)):=heap_alloc_new _ _;obtain⟨ab3,hlow⟩:=O9 ((sD hd).1 (HB.o k hlt)).1;have hin:Reads w 1 (.slice pi d.ins.length ci) (ints d.ins):=by
      obtain⟨_,_,_,_,e,_,hx,_⟩:=hj
      injection e with e
      simp only[List.cons.injEq,and_true,true_and]at e;obtain⟨e1,e2⟩:=e;rw[e1];exact hx
     have hkind:0<=d.kind/\d.kind<=255:=(by obtain⟨_,_,_,_,e,_,_,_,h4,h5,_⟩:=hj;exact⟨h4,h5⟩);obtain⟨ti,hi3,hz3,hs3,hb3⟩:=rD;obtain⟨g',cap2,w',p1,p2,p3⟩:=kQ (x:= .int .i64 0) (bytes:=8) Tryz.underlying37 hi3 hz3 hs3 hb3 rfl rfl (kA.owns hown (fun _ _ h=>h)) (by omega) (by omega) (ω hkp.size kA.size) 45;have hne:(Value.slice DY k DX).ownBlock≠some wr.heap.size:=fun e=>(by have:=(aU hown e).2;omega);have aeE:w'.heap[wr.heap.size]?=some (.cells (bG d pi ci p cap') 42 (0,0)):=p3.heap hbB hne;have kN:ε η WB w':=(hkp.trans kA).new p3 (fun i hi hs=>by have h1:=(aU hown hs).1;omega);have hrow:w'.ownsRow WB.heap.size 3 1 (.slice (some ⟨g',0,none⟩) (k+1) cap2) (k+1) (ints (bJ (j.nodes.take k)++[iG (bJ (j.nodes.take k)) d.ins 0])):=(by unfold ints at p2⊢;rw[abM];exact p2);have G:=γ (θ hg (θ hd (θ hbad (θ hin (θ hlow (θ hwb hj))))));have P:=γ (θ hrow (θ kN aeE));rw[World.size_alloc]at p1;have P1:=γ p1;have hwl:(bJ (j.nodes.take k)).length=k:=(by rw[pz,υ];omega);have hfl:(j.nodes.take k).countP (fun d=>d.kind==4)<=k:=ω List.countP_le_length (by rw[υ];omega);have HWL:=γ (θ hwl hfl);have i1:(bG d pi ci p cap')[1]?=some (.int .u8 d.kind):=rfl;clear hc hd hbad hg hown hkp hin hlow hwb hj hi3 hz3 hs3 hb3 p1 p2 p3 hne hbB aeE kN hrow kA hwl hfl i1;go_wp2_with (at_builtin;refine wpList_append_run rfl (.tmp 70) (.tmp 71) 37 rfl _ _ _ rfl rfl P1.o ?_;have y2:w'.cell? ⟨wr.heap.size,2,none⟩=some (.slice pi d.ins.length ci):=ζ P.o.2.2 rfl);generalize wr.heap.size=B at*;obtain⟨W,hW⟩: ∃W,bJ (j.nodes.take k)=W:=⟨_,rfl⟩;rw[hW]at G P HWL;have HW:=γ hW;clear hW P1 c0 c1 c2 c3 c4 c5 c6;have INP:=γ G.o.2.2.2.1;go_loopg [76] d.ins.length (fun g vi w3=> ∃(m:Nat),m<=d.ins.length/\vi= .int .i64 (m:Int)/\d.ins.length-m<=g/\w3.ownsRow WB.heap.size 3 1 (.slice (some ⟨g',0,none⟩) (k+1) cap2) (k+1) (ints (W++[iG W d.ins m]))/\ε η WB w3/\w3.heap[B]?=some (.cells (bG d pi ci p cap') 42 (0,0)))
     case atStart=>exact⟨0,by omega,rfl,by omega,P.o⟩
     case round=>
      obtain⟨m,hml,rfl,hgm,hown,hkp,hbB⟩:=hrel;by_cases hmt:m<d.ins.length
      ·obtain⟨x,hx⟩: ∃x,d.ins[m]?=some x:=⟨_,ι hmt⟩
       obtain⟨hx0,hx1⟩:=G.o.2.2.2.2.1 x (ς hx);obtain⟨xn,rfl⟩:=Int.eq_ofNat_of_zero_le hx0;obtain⟨pa,pc,pe,_,iQ,hcell⟩:=(INP.o.pure (KB.o.trans hkp)).at
       injection pe with pe1 DU BJ
       subst pe1 BJ;obtain⟨bi,bV,rfl,hcell2⟩:=hcell.resolve_left (fun h=>by rw[h]at hmt;simp at hmt);have y0:=hcell2 m _ hx;clear hcell2;have hxk:xn<k:=(by omega);have hwl:=HWL.o.1;have y1:=hown.cellAt k (by omega);rw[uJ (x:=iG W d.ins m) (by rw[Ψ (by omega),hwl,Nat.sub_self];rfl)]at y1;have y2:=hown.cellAt xn (by omega);rw[uJ (x:=W.getD xn 0) (by rw[Ω (by omega),σ,ι (by omega)];rfl)]at y2;have y3:=hown.frozenAt k;have hsb:=wI (ins:=d.ins) G.o.2.2.2.2.2.1 m;have hgb:=Gy G.o.2.2.2.2.2.1 xn;obtain⟨s1,s2⟩:=(hown.drew).stored k (.int .i64 (iG W d.ins m+W.getD xn 0));have hsk:=Bq (W:=W) hx;have hset:(ints (W++[iG W d.ins m])).set k (.int .i64 (iG W d.ins m+W.getD xn 0))=ints (W++[iG W d.ins (m+1)]):=(by rw[hsk];unfold ints;rw[abM,List.set_append_right _ _ (by rw[List.length_map];omega),List.length_map,hwl,Nat.sub_self,abM];rfl);rw[hset]at s1;have hgW:WB.heap.size<=g':=(aU hown (b:=g') rfl).1;have hgB:g'≠B:=fun e=>row_ne hown hbB (by decide) (by rw[e];rfl);have kS:ε (fun q=>q=g') wr (wr.drew.setCell ⟨g',k,none⟩ (.int .i64 (iG W d.ins m+W.getD xn 0))):=ε.setCell (S:=fun q=>q=g') (p:=⟨g',k,none⟩) ((ε.refl (fun q=>q=g') wr).drew) (.inl rfl) _;have F:=γ (θ s1 (θ (hkp.new kS (fun i hi hs=>by omega)) (kS.heap hbB (fun e=>hgB e.symm))));have GM:=γ hgm;have qk:(k:Int)<(k:Int)+1:=(by omega);have qx:(xn:Int)<(k:Int)+1:=(by omega);have q1: -9223372036854775808<=iG W d.ins m+W.getD xn 0:=(by omega);have q2:iG W d.ins m+W.getD xn 0<=9223372036854775807:=(by omega);clear s1 s2 hset hown hkp hbB hcell kS hgm hsk hx hgB hgW hwl;go_wp2_with fail;refine ak [0,1,2,3,4,5,6,7,8,9,10] (fun W=>ε η wr W) (by kernel_rfl) (by kernel_rfl) rfl δ.drew ?_;simp only[abU];iterate 10 (apply aj rfl rfl;(intro W hW;have z1:=hW.cell id y1;have z2:=hW.cell id y2;go_simp;rfl);go_frame)
       apply aA rfl rfl;intro K hK;go_wp2_with fail;refine hK _ _ (fun h=>absurd rfl h) (jo (by kernel_rfl) ?_);clear hK;go_wp2_with fail;go_roundg (d.ins.length-(m+1))
       case rel=>have e64:wrap64 (iG W d.ins m+W[xn]?.getD 0)=iG W d.ins m+W.getD xn 0:=(by rw[σ]at q1 q2⊢;exact yV ⟨q1,q2⟩);refine⟨m+1,by omega,by go_num,ξ _,?_⟩;rw[e64];exact F.o
       case measure=>have:=GM.o;omega
      ·have e1:m=d.ins.length:=by omega
       subst e1;have hS:=wI (ins:=d.ins) G.o.2.2.2.2.2.1 d.ins.length;obtain⟨S,hSd⟩: ∃S,iG W d.ins d.ins.length=S:=⟨_,rfl⟩;rw[hSd]at hown hS;have hwl:=HWL.o.1;have hfl:=HWL.o.2;obtain⟨fl,hfd⟩: ∃fl,(j.nodes.take k).countP (fun d=>d.kind==4)=fl:=⟨_,rfl⟩;rw[hfd]at hfl;have hfs:=Gz G.o.2.1;rw[hfd]at hfs;have hws:=Iy G.o.2.1;have hwg:=Et G.o.2.1;rw[HW.o]at hws hwg;have hwo:=Iz W d;rw[hSd]at hwo;have y1:=hown.cellAt k (by omega);rw[uJ (x:=S) (by rw[Ψ (by omega),hwl,Nat.sub_self];rfl)]at y1;have y3:=hown.frozenAt k;have c1:wr.cell? ⟨B,1,none⟩=some (.int .u8 d.kind):=ζ hbB rfl;have hgW:WB.heap.size<=g':=(aU hown (b:=g') rfl).1;have hgB:g'≠B:=fun e=>row_ne hown hbB (by decide) (by rw[e];rfl)
       have CS:=γ (show aS j.nodes k d=false-> ∀x∈bJ (j.nodes.take (k+1)),0<=x/\x<=64 from fun hg x hx=>by
        rw[hws]at hx
        rcases abL.1 hx with hx|hx
        ·exact G.o.2.2.2.2.2.1 x hx
        ·rw[abQ.1 hx]
         have h1: ¬(64<(bJ j.nodes).getD k 0):=fun h=>(by have h2:=(nT (nodes:=j.nodes) (k:=k) (d:=d) rfl rfl rfl).2 (.inr (.inr (.inr (.inr (.inr h)))));rw[hg]at h2;cases h2);rw[hwg]at h1;refine⟨?_,by omega⟩;rw[hwo];split
         ·omega
         ·split<;>omega)
       by_cases k1:d.kind=1
       ·skip
        have hn4: ¬d.kind=4:=(by omega);rw[if_pos k1]at hwo;rw[if_neg hn4,Nat.add_zero]at hfs;rw[hwo]at hws hwg;obtain⟨s1,s2⟩:=hown.stored k (.int .i64 (1));have hset:(ints (W++[S])).set k (.int .i64 (1))=ints (bJ (j.nodes.take (k+1))):=(by rw[hws];unfold ints;rw[abM,List.set_append_right _ _ (by rw[List.length_map];omega),List.length_map,hwl,Nat.sub_self,abM];rfl);rw[hset]at s1;have kS:ε (fun q=>q=g') wr (wr.setCell ⟨g',k,none⟩ (.int .i64 (1))):=ε.setCell (S:=fun q=>q=g') (p:=⟨g',k,none⟩) (ε.refl (fun q=>q=g') wr) (.inl rfl) _;obtain⟨W4,mY⟩: ∃W4,wr.setCell ⟨g',k,none⟩ (.int .i64 (1))=W4:=⟨_,rfl⟩;rw[mY]at s1 kS;have xE:ε η WB W4:=hkp.new kS (fun i hi hs=>by omega);have ER:=kS.heap hbB (fun e=>hgB e.symm);have c14:W4.cell? ⟨B,1,none⟩=some (.int .u8 d.kind):=ζ ER rfl;have Kz:=s1.cellAt k (by omega);rw[hws,uJ (x:=1) (by rw[Ψ (by omega),hwl,Nat.sub_self];rfl)]at Kz;have x04:=xE.cell id HXB.o.1;have x14:=xE.cell id HXB.o.2;have x0':=hkp.cell id HXB.o.1;have x1':=hkp.cell id HXB.o.2;have hg0:g'≠w.heap.size:=fun e=>(by have:=block_lt_of_cell HXB.o.1;simp only at this;omega);have hg0':w.heap.size≠g':=fun e=>hg0 e.symm;have cr:=yK j _ k _ (H3.o.2.pure (KB.o.trans xE)) (by omega);obtain⟨many,fJ⟩: ∃many,fF j.nodes k=many:=⟨_,rfl⟩;rw[fJ]at cr;have hsh:=γ (nT (d:=d) fJ hfs hwg);have R:=γ (θ s1 (θ xE ER));have FL:=γ (show Value.int .i64 (fl:Int)= .int .i64 (((j.nodes.take (k+1)).countP (fun d=>d.kind==4):Nat):Int) by rw[show((j.nodes.take (k+1)).countP (fun d=>d.kind==4))=fl from hfs]);have HY:=γ (θ c14 (θ Kz mY));clear hown hkp hbB hgB hgW hws hwg hfs fJ hwo hSd s1 s2 kS hset xE ER c14 Kz x04 x14 mY;go_wp2_with fail;rw[HY.o.2.2];have c1:=HY.o.1;have y1:=HY.o.2.1;clear hg0 hg0' y3;(with_reducible refine cr.mono ?_);clear cr;rintro e W5 ⟨ra,rc,rfl,k5⟩;have c1:=k5.cell id c1;have y1:=k5.cell id y1;have FB:=γ (show∀x:Int,x=(k:Int)->aS j.nodes k d=true->ou w (gU j) (.returned (.tuple #[.int .i64 x,.int .i64 122])) W5 from fun x hx h=>⟨by rw[qp HO.o HB.o G.o.2.1 G.o.2.2.1 h,hx],KB.o.trans (R.o.2.1.trans k5)⟩);have K5:=γ (θ k5 hsh.o);clear k5 hsh x0' x1';by_cases hk0:k=0
        ·have y1z:=y1
         rw[hk0]at y1z;go_wp2_with fail;all_goals first
          |(go_ret2
            refine FB.o _ (by omega) (K5.o.2.2 ?_)
            first|(rename_i q1;(try simp only[ay,acd]at q1);omega)|(rename_i q1 q2;(try simp only[ay,acd]at q1);(try simp only[ay,acd]at q2);omega)|(rename_i q1 q2 q3;(try simp only[ay,acd]at q1);(try simp only[ay,acd]at q2);(try simp only[ay,acd]at q3);omega)|(rename_i q1 q2 q3 q4;(try simp only[ay,acd]at q1);(try simp only[ay,acd]at q2);(try simp only[ay,acd]at q3);(try simp only[ay,acd]at q4);omega)|(rename_i q1 q2 q3 q4 q5;(try simp only[ay,acd]at q1);(try simp only[ay,acd]at q2);(try simp only[ay,acd]at q3);(try simp only[ay,acd]at q4);(try simp only[ay,acd]at q5);omega)|(rename_i q1 q2 q3 q4 q5 q6;(try simp only[ay,acd]at q1);(try simp only[ay,acd]at q2);(try simp only[ay,acd]at q3);(try simp only[ay,acd]at q4);(try simp only[ay,acd]at q5);(try simp only[ay,acd]at q6);omega)|(rename_i q1 q2 q3 q4 q5 q6 q7;(try simp only[ay,acd]at q1);(try simp only[ay,acd]at q2);(try simp only[ay,acd]at q3);(try simp only[ay,acd]at q4);(try simp only[ay,acd]at q5);(try simp only[ay,acd]at q6);(try simp only[ay,acd]at q7);omega))
          |(have hgood:aS j.nodes k d=false:=by
             cases hsb:aS j.nodes k d with
             |false=>rfl
             |true=>
              have h3:=K5.o.2.1 hsb;exfalso;clear hsb
              revert h3
              first|(rename_i q1;(try simp only[ay,acd]at q1);intro h3;omega)|(rename_i q1 q2;(try simp only[ay,acd]at q1);(try simp only[ay,acd]at q2);intro h3;omega)|(rename_i q1 q2 q3;(try simp only[ay,acd]at q1);(try simp only[ay,acd]at q2);(try simp only[ay,acd]at q3);intro h3;omega)|(rename_i q1 q2 q3 q4;(try simp only[ay,acd]at q1);(try simp only[ay,acd]at q2);(try simp only[ay,acd]at q3);(try simp only[ay,acd]at q4);intro h3;omega)|(rename_i q1 q2 q3 q4 q5;(try simp only[ay,acd]at q1);(try simp only[ay,acd]at q2);(try simp only[ay,acd]at q3);(try simp only[ay,acd]at q4);(try simp only[ay,acd]at q5);intro h3;omega)|(rename_i q1 q2 q3 q4 q5 q6;(try simp only[ay,acd]at q1);(try simp only[ay,acd]at q2);(try simp only[ay,acd]at q3);(try simp only[ay,acd]at q4);(try simp only[ay,acd]at q5);(try simp only[ay,acd]at q6);intro h3;omega)|(rename_i q1 q2 q3 q4 q5 q6 q7;(try simp only[ay,acd]at q1);(try simp only[ay,acd]at q2);(try simp only[ay,acd]at q3);(try simp only[ay,acd]at q4);(try simp only[ay,acd]at q5);(try simp only[ay,acd]at q6);(try simp only[ay,acd]at q7);intro h3;omega)
            go_roundg (j.nodes.length-(k+1))
            case rel=>
             refine⟨k+1,by omega,by go_num,ξ _,by first|exact FL.o|(have h:=FL.o;have hz:fl=0:=(by omega);rw[hz]at h;exact h),by first|exact K5.o.1.owns R.o.1 (fun _ _ h=>h)|(have h:=K5.o.1.owns R.o.1 (fun _ _ h=>h);rw[show k+1=1 by omega]at h⊢;exact h),R.o.2.1.trans K5.o.1,CS.o hgood,fun m e hm he=>?_⟩;by_cases h:m<k
             ·exact G.o.2.2.1 m e h he
             ·have e1:m=k:=by omega
              subst e1;have e2:=G.o.2.1;rw[he]at e2
              injection e2 with e2
              rw[e2];exact hgood
            case measure=>have:=G.o.1;omega)
        ·skip
         go_wp2_with fail;all_goals first
          |(go_ret2
            refine FB.o _ (by omega) (K5.o.2.2 ?_)
            first|(rename_i q1;(try simp only[ay,acd]at q1);omega)|(rename_i q1 q2;(try simp only[ay,acd]at q1);(try simp only[ay,acd]at q2);omega)|(rename_i q1 q2 q3;(try simp only[ay,acd]at q1);(try simp only[ay,acd]at q2);(try simp only[ay,acd]at q3);omega)|(rename_i q1 q2 q3 q4;(try simp only[ay,acd]at q1);(try simp only[ay,acd]at q2);(try simp only[ay,acd]at q3);(try simp only[ay,acd]at q4);omega)|(rename_i q1 q2 q3 q4 q5;(try simp only[ay,acd]at q1);(try simp only[ay,acd]at q2);(try simp only[ay,acd]at q3);(try simp only[ay,acd]at q4);(try simp only[ay,acd]at q5);omega)|(rename_i q1 q2 q3 q4 q5 q6;(try simp only[ay,acd]at q1);(try simp only[ay,acd]at q2);(try simp only[ay,acd]at q3);(try simp only[ay,acd]at q4);(try simp only[ay,acd]at q5);(try simp only[ay,acd]at q6);omega)|(rename_i q1 q2 q3 q4 q5 q6 q7;(try simp only[ay,acd]at q1);(try simp only[ay,acd]at q2);(try simp only[ay,acd]at q3);(try simp only[ay,acd]at q4);(try simp only[ay,acd]at q5);(try simp only[ay,acd]at q6);(try simp only[ay,acd]at q7);omega))
          |(have hgood:aS j.nodes k d=false:=by
             cases hsb:aS j.nodes k d with
             |false=>rfl
             |true=>
              have h3:=K5.o.2.1 hsb;exfalso;clear hsb
              revert h3
              first|(rename_i q1;(try simp only[ay,acd]at q1);intro h3;omega)|(rename_i q1 q2;(try simp only[ay,acd]at q1);(try simp only[ay,acd]at q2);intro h3;omega)|(rename_i q1 q2 q3;(try simp only[ay,acd]at q1);(try simp only[ay,acd]at q2);(try simp only[ay,acd]at q3);intro h3;omega)|(rename_i q1 q2 q3 q4;(try simp only[ay,acd]at q1);(try simp only[ay,acd]at q2);(try simp only[ay,acd]at q3);(try simp only[ay,acd]at q4);intro h3;omega)|(rename_i q1 q2 q3 q4 q5;(try simp only[ay,acd]at q1);(try simp only[ay,acd]at q2);(try simp only[ay,acd]at q3);(try simp only[ay,acd]at q4);(try simp only[ay,acd]at q5);intro h3;omega)|(rename_i q1 q2 q3 q4 q5 q6;(try simp only[ay,acd]at q1);(try simp only[ay,acd]at q2);(try simp only[ay,acd]at q3);(try simp only[ay,acd]at q4);(try simp only[ay,acd]at q5);(try simp only[ay,acd]at q6);intro h3;omega)|(rename_i q1 q2 q3 q4 q5 q6 q7;(try simp only[ay,acd]at q1);(try simp only[ay,acd]at q2);(try simp only[ay,acd]at q3);(try simp only[ay,acd]at q4);(try simp only[ay,acd]at q5);(try simp only[ay,acd]at q6);(try simp only[ay,acd]at q7);intro h3;omega)
            go_roundg (j.nodes.length-(k+1))
            case rel=>
             refine⟨k+1,by omega,by go_num,ξ _,FL.o,K5.o.1.owns R.o.1 (fun _ _ h=>h),R.o.2.1.trans K5.o.1,CS.o hgood,fun m e hm he=>?_⟩;by_cases h:m<k
             ·exact G.o.2.2.1 m e h he
             ·have e1:m=k:=by omega
              subst e1;have e2:=G.o.2.1;rw[he]at e2
              injection e2 with e2
              rw[e2];exact hgood
            case measure=>have:=G.o.1;omega)
       ·by_cases k4:d.kind=4
        ·skip
         rw[if_neg k1,if_pos k4]at hwo;rw[if_pos k4]at hfs;have q1: -9223372036854775808<=S*4:=(by omega);have q2:S*4<=9223372036854775807:=(by omega);rw[hwo]at hws hwg;obtain⟨s1,s2⟩:=hown.stored k (.int .i64 (S*4));have hset:(ints (W++[S])).set k (.int .i64 (S*4))=ints (bJ (j.nodes.take (k+1))):=(by rw[hws];unfold ints;rw[abM,List.set_append_right _ _ (by rw[List.length_map];omega),List.length_map,hwl,Nat.sub_self,abM];rfl);rw[hset]at s1;have kS:ε (fun q=>q=g') wr (wr.setCell ⟨g',k,none⟩ (.int .i64 (S*4))):=ε.setCell (S:=fun q=>q=g') (p:=⟨g',k,none⟩) (ε.refl (fun q=>q=g') wr) (.inl rfl) _;obtain⟨W4,mY⟩: ∃W4,wr.setCell ⟨g',k,none⟩ (.int .i64 (S*4))=W4:=⟨_,rfl⟩;rw[mY]at s1 kS;have xE:ε η WB W4:=hkp.new kS (fun i hi hs=>by omega);have ER:=kS.heap hbB (fun e=>hgB e.symm);have c14:W4.cell? ⟨B,1,none⟩=some (.int .u8 d.kind):=ζ ER rfl;have Kz:=s1.cellAt k (by omega);rw[hws,uJ (x:=S*4) (by rw[Ψ (by omega),hwl,Nat.sub_self];rfl)]at Kz;have x04:=xE.cell id HXB.o.1;have x14:=xE.cell id HXB.o.2;have x0':=hkp.cell id HXB.o.1;have x1':=hkp.cell id HXB.o.2;have hg0:g'≠w.heap.size:=fun e=>(by have:=block_lt_of_cell HXB.o.1;simp only at this;omega);have hg0':w.heap.size≠g':=fun e=>hg0 e.symm;have cr:=yK j _ k _ (H3.o.2.pure (KB.o.trans xE)) (by omega);obtain⟨many,fJ⟩: ∃many,fF j.nodes k=many:=⟨_,rfl⟩;rw[fJ]at cr;have hsh:=γ (nT (d:=d) fJ hfs hwg);have R:=γ (θ s1 (θ xE ER));have FL:=γ (show Value.int .i64 ((fl:Int)+1)= .int .i64 (((j.nodes.take (k+1)).countP (fun d=>d.kind==4):Nat):Int) by rw[show((j.nodes.take (k+1)).countP (fun d=>d.kind==4))=fl+1 from hfs];rfl);have HY:=γ (θ c14 (θ Kz mY));clear hown hkp hbB hgB hgW hws hwg hfs fJ hwo hSd s1 s2 kS hset xE ER c14 Kz x04 x14 mY;go_wp2_with fail;rw[HY.o.2.2];have c1:=HY.o.1;have y1:=HY.o.2.1;clear hg0 hg0' y3;(with_reducible refine cr.mono ?_);clear cr;rintro e W5 ⟨ra,rc,rfl,k5⟩;have c1:=k5.cell id c1;have y1:=k5.cell id y1;have FB:=γ (show∀x:Int,x=(k:Int)->aS j.nodes k d=true->ou w (gU j) (.returned (.tuple #[.int .i64 x,.int .i64 122])) W5 from fun x hx h=>⟨by rw[qp HO.o HB.o G.o.2.1 G.o.2.2.1 h,hx],KB.o.trans (R.o.2.1.trans k5)⟩);have K5:=γ (θ k5 hsh.o);clear k5 hsh x0' x1';go_wp2_with fail;all_goals first
          |(go_ret2
            refine FB.o _ (by omega) (K5.o.2.2 ?_)
            first|(rename_i q1;(try simp only[ay,acd]at q1);omega)|(rename_i q1 q2;(try simp only[ay,acd]at q1);(try simp only[ay,acd]at q2);omega)|(rename_i q1 q2 q3;(try simp only[ay,acd]at q1);(try simp only[ay,acd]at q2);(try simp only[ay,acd]at q3);omega)|(rename_i q1 q2 q3 q4;(try simp only[ay,acd]at q1);(try simp only[ay,acd]at q2);(try simp only[ay,acd]at q3);(try simp only[ay,acd]at q4);omega)|(rename_i q1 q2 q3 q4 q5;(try simp only[ay,acd]at q1);(try simp only[ay,acd]at q2);(try simp only[ay,acd]at q3);(try simp only[ay,acd]at q4);(try simp only[ay,acd]at q5);omega)|(rename_i q1 q2 q3 q4 q5 q6;(try simp only[ay,acd]at q1);(try simp only[ay,acd]at q2);(try simp only[ay,acd]at q3);(try simp only[ay,acd]at q4);(try simp only[ay,acd]at q5);(try simp only[ay,acd]at q6);omega)|(rename_i q1 q2 q3 q4 q5 q6 q7;(try simp only[ay,acd]at q1);(try simp only[ay,acd]at q2);(try simp only[ay,acd]at q3);(try simp only[ay,acd]at q4);(try simp only[ay,acd]at q5);(try simp only[ay,acd]at q6);(try simp only[ay,acd]at q7);omega))
          |(have hgood:aS j.nodes k d=false:=by
             cases hsb:aS j.nodes k d with
             |false=>rfl
             |true=>
              have h3:=K5.o.2.1 hsb;exfalso;clear hsb
              revert h3
              first|(rename_i q1;(try simp only[ay,acd]at q1);intro h3;omega)|(rename_i q1 q2;(try simp only[ay,acd]at q1);(try simp only[ay,acd]at q2);intro h3;omega)|(rename_i q1 q2 q3;(try simp only[ay,acd]at q1);(try simp only[ay,acd]at q2);(try simp only[ay,acd]at q3);intro h3;omega)|(rename_i q1 q2 q3 q4;(try simp only[ay,acd]at q1);(try simp only[ay,acd]at q2);(try simp only[ay,acd]at q3);(try simp only[ay,acd]at q4);intro h3;omega)|(rename_i q1 q2 q3 q4 q5;(try simp only[ay,acd]at q1);(try simp only[ay,acd]at q2);(try simp only[ay,acd]at q3);(try simp only[ay,acd]at q4);(try simp only[ay,acd]at q5);intro h3;omega)|(rename_i q1 q2 q3 q4 q5 q6;(try simp only[ay,acd]at q1);(try simp only[ay,acd]at q2);(try simp only[ay,acd]at q3);(try simp only[ay,acd]at q4);(try simp only[ay,acd]at q5);(try simp only[ay,acd]at q6);intro h3;omega)|(rename_i q1 q2 q3 q4 q5 q6 q7;(try simp only[ay,acd]at q1);(try simp only[ay,acd]at q2);(try simp only[ay,acd]at q3);(try simp only[ay,acd]at q4);(try simp only[ay,acd]at q5);(try simp only[ay,acd]at q6);(try simp only[ay,acd]at q7);intro h3;omega)
            go_roundg (j.nodes.length-(k+1))
            case rel=>
             refine⟨k+1,by omega,by go_num,ξ _,FL.o,K5.o.1.owns R.o.1 (fun _ _ h=>h),R.o.2.1.trans K5.o.1,CS.o hgood,fun m e hm he=>?_⟩;by_cases h:m<k
             ·exact G.o.2.2.1 m e h he
             ·have e1:m=k:=by omega
              subst e1;have e2:=G.o.2.1;rw[he]at e2
              injection e2 with e2
              rw[e2];exact hgood
            case measure=>have:=G.o.1;omega)
        ·rw[if_neg k1,if_neg k4,Int.mul_one]at hwo
         rw[if_neg k4,Nat.add_zero]at hfs;rw[hwo]at hws hwg;rw[<-hws]at hown;have x0:=hkp.cell id HXB.o.1;have x1:=hkp.cell id HXB.o.2;have cr:=yK j _ k _ (H3.o.2.pure (KB.o.trans hkp)) (by omega);obtain⟨many,fJ⟩: ∃many,fF j.nodes k=many:=⟨_,rfl⟩;rw[fJ]at cr;have hsh:=γ (nT (d:=d) fJ hfs hwg);have R:=γ (θ hown (θ hkp hbB));have FL:=γ (show Value.int .i64 (fl:Int)= .int .i64 (((j.nodes.take (k+1)).countP (fun d=>d.kind==4):Nat):Int) by rw[<-hfs];rfl);clear hown hkp hbB hgB hgW hws hwg hfs fJ hwo hSd;go_wp2_with fail;(with_reducible refine cr.mono ?_);clear cr;rintro e W5 ⟨ra,rc,rfl,k5⟩;have c1:=k5.cell id c1;have y1:=k5.cell id y1;have FB:=γ (show∀x:Int,x=(k:Int)->aS j.nodes k d=true->ou w (gU j) (.returned (.tuple #[.int .i64 x,.int .i64 122])) W5 from fun x hx h=>⟨by rw[qp HO.o HB.o G.o.2.1 G.o.2.2.1 h,hx],KB.o.trans (R.o.2.1.trans k5)⟩);have K5:=γ (θ k5 hsh.o);clear k5 hsh x0 x1;go_wp2_with fail;all_goals first
          |(go_ret2
            refine FB.o _ (by omega) (K5.o.2.2 ?_)
            first|(rename_i q1;(try simp only[ay,acd]at q1);omega)|(rename_i q1 q2;(try simp only[ay,acd]at q1);(try simp only[ay,acd]at q2);omega)|(rename_i q1 q2 q3;(try simp only[ay,acd]at q1);(try simp only[ay,acd]at q2);(try simp only[ay,acd]at q3);omega)|(rename_i q1 q2 q3 q4;(try simp only[ay,acd]at q1);(try simp only[ay,acd]at q2);(try simp only[ay,acd]at q3);(try simp only[ay,acd]at q4);omega)|(rename_i q1 q2 q3 q4 q5;(try simp only[ay,acd]at q1);(try simp only[ay,acd]at q2);(try simp only[ay,acd]at q3);(try simp only[ay,acd]at q4);(try simp only[ay,acd]at q5);omega)|(rename_i q1 q2 q3 q4 q5 q6;(try simp only[ay,acd]at q1);(try simp only[ay,acd]at q2);(try simp only[ay,acd]at q3);(try simp only[ay,acd]at q4);(try simp only[ay,acd]at q5);(try simp only[ay,acd]at q6);omega)|(rename_i q1 q2 q3 q4 q5 q6 q7;(try simp only[ay,acd]at q1);(try simp only[ay,acd]at q2);(try simp only[ay,acd]at q3);(try simp only[ay,acd]at q4);(try simp only[ay,acd]at q5);(try simp only[ay,acd]at q6);(try simp only[ay,acd]at q7);omega))
          |(have hgood:aS j.nodes k d=false:=by
             cases hsb:aS j.nodes k d with
             |false=>rfl
             |true=>
              have h3:=K5.o.2.1 hsb;exfalso;clear hsb
              revert h3
              first|(rename_i q1;(try simp only[ay,acd]at q1);intro h3;omega)|(rename_i q1 q2;(try simp only[ay,acd]at q1);(try simp only[ay,acd]at q2);intro h3;omega)|(rename_i q1 q2 q3;(try simp only[ay,acd]at q1);(try simp only[ay,acd]at q2);(try simp only[ay,acd]at q3);intro h3;omega)|(rename_i q1 q2 q3 q4;(try simp only[ay,acd]at q1);(try simp only[ay,acd]at q2);(try simp only[ay,acd]at q3);(try simp only[ay,acd]at q4);intro h3;omega)|(rename_i q1 q2 q3 q4 q5;(try simp only[ay,acd]at q1);(try simp only[ay,acd]at q2);(try simp only[ay,acd]at q3);(try simp only[ay,acd]at q4);(try simp only[ay,acd]at q5);intro h3;omega)|(rename_i q1 q2 q3 q4 q5 q6;(try simp only[ay,acd]at q1);(try simp only[ay,acd]at q2);(try simp only[ay,acd]at q3);(try simp only[ay,acd]at q4);(try simp only[ay,acd]at q5);(try simp only[ay,acd]at q6);intro h3;omega)|(rename_i q1 q2 q3 q4 q5 q6 q7;(try simp only[ay,acd]at q1);(try simp only[ay,acd]at q2);(try simp only[ay,acd]at q3);(try simp only[ay,acd]at q4);(try simp only[ay,acd]at q5);(try simp only[ay,acd]at q6);(try simp only[ay,acd]at q7);intro h3;omega)
            go_roundg (j.nodes.length-(k+1))
            case rel=>
             refine⟨k+1,by omega,by go_num,ξ _,FL.o,K5.o.1.owns R.o.1 (fun _ _ h=>h),R.o.2.1.trans K5.o.1,CS.o hgood,fun m e hm he=>?_⟩;by_cases h:m<k
             ·exact G.o.2.2.1 m e h he
             ·have e1:m=k:=by omega
              subst e1;have e2:=G.o.2.1;rw[he]at e2
              injection e2 with e2
              rw[e2];exact hgood
            case measure=>have:=G.o.1;omega)
    ·have e1:k=j.nodes.length:=by omega
     subst e1;have F:=γ (show ou w (gU j) (.returned (.tuple #[.int .i64 0,.int .i64 0])) wr from⟨by rw[Ib HO.o HB.o hbad],KB.o.trans hkp⟩);clear hown hkp hbad hg hlt;go_wp2_with fail;go_ret2;exact F.o
