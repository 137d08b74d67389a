/- job.May, walked. -/
import Derived.Test.YtglbkodmmogomaaGreatDoorS12
import Derived.OneCell
set_option linter.unusedVariables false
set_option linter.unusedSimpArgs false
set_option maxHeartbeats 4000000
set_option maxRecDepth 100000
namespace Go.Proofs.YtglbkodmmogomaaGreatDoor
open List Go.Proofs.Tryz
section
open Go Go.RowKit
attribute [local irreducible] dI
def oQ (w:World)(r:Int×Int)(e:Ending)(w':World):Prop:=e= .returned (.tuple #[.int .i64 r.1,.int .i64 r.2])/\ε η w w'
def qL (nodes:List JN)(k:Nat):List ByteArray:=(nodes.take k).map (·.uid)
theorem FX {nodes:List JN}{k:Nat}{d:JN}(h:nodes[k]?=some d):qL nodes (k+1)=qL nodes k++[d.uid]:=by unfold qL;rw[ψ,h];simp
theorem Sv {nodes:List JN}{k:Nat}{d:JN}(h:nodes[k]?=some d)(hn:(qL nodes k).Nodup):(qL nodes (k+1)).Nodup↔jR nodes k d=false:=by
 rw[FX h,nodup_append];unfold jR;rw[decide_eq_false_iff_not];show _↔d.uid∉qL nodes k;constructor
 ·intro⟨_,_,h3⟩ hm
  exact h3 _ hm _ (ach.2 rfl) rfl
 ·intro hm
  refine⟨hn,by simp,fun a ha b hb e=>?_⟩;rw[ach.1 hb]at e;exact hm (e▸ha)
theorem Dk {a b c d:Int}:((a==b)=(c==d))↔(a=b↔c=d):=by rw[Bool.eq_iff_iff,beq_iff_eq,beq_iff_eq]
theorem oH {nodes:List JN}{k:Nat}{d:JN}{many fl:Nat}{way:Int}(h1:fV nodes k=many)(h2:H9 nodes k=fl)(h3:(bK nodes).getD k 0=way):
 aS nodes k d=true↔((d.kind=1↔ ¬k=0)\/(d.kind=9↔ ¬k+1=nodes.length)\/(many=0↔ ¬k+1=nodes.length)\/3<many\/2<fl\/64<way):=by
 unfold aS;rw[h1,h2,h3];have hb: ∀p q:Prop,[Decidable p]->[Decidable q]->(((decide p !=decide q)=true)↔(p↔ ¬q)):=(by intro p q _ _;by_cases hp:p<;>by_cases hq:q<;>simp[hp,hq]);simp only[Bool.or_eq_true,hb,decide_eq_true_eq,or_assoc]
theorem H8 {nodes:List JN}{k:Nat}{d:JN}(hd:nodes[k]?=some d):H9 nodes k=(nodes.take k).countP (fun d=>d.kind==4)+(if d.kind=4 then 1 else 0):=by
 unfold H9;rw[ψ,hd,countP_append]
 congr 1
 by_cases h:d.kind=4
 ·simp[h]
 ·simp[h]
theorem Jj {nodes:List JN}{k:Nat}{d:JN}(hd:nodes[k]?=some d):bK (nodes.take (k+1))=bK (nodes.take k)++[vG (bK (nodes.take k)) d]:=by rw[ψ,hd];exact wZ _ _
theorem Qi (j:Jb)(a:Array Value)(w:World)(h:oh w a j):Calls prog 41 #[.agg a] w (oQ w (iw j)):=by
 have hJ:=h;obtain⟨v,rfl,hn,hp⟩:=h;obtain⟨na,cap,rfl,h1,h2,h3⟩:=hn.at;unfold maxLen at h2;have H3:=γ (θ h3 hJ);clear h3 hn hJ;obtain⟨hp1,hp2⟩:=hp;have HD:=γ (show fE j=(decide (j.par<1)||decide (4<j.par)||decide (j.nodes.length<2)||decide (12<j.nodes.length)||decide (1000<1001-jl (j.nodes.map (·.x)) 1001))from rfl);have hHead: ∀{w':World},fE j=true->ε η w w'->oQ w (iw j) (.returned (.tuple #[.int .i64 0,.int .i64 2])) w':=fun hb hk=>⟨by rw[Cj hb],hk⟩;go_enter func41,ntmps41;by_cases c1:j.par<1
 ·have F:=γ (hHead (w':=(w.alloc (.cells #[.int .i64 j.par,.slice na j.nodes.length cap] 24))) (by rw[HD.o,decide_eq_true c1];rfl) (δ.alloc _))
  clear hHead;go_wp2;go_ret2;exact F.o
 by_cases c2:4<j.par
 ·have F:=γ (hHead (w':=(w.alloc (.cells #[.int .i64 j.par,.slice na j.nodes.length cap] 24))) (by rw[HD.o,decide_eq_true c2];simp) (δ.alloc _))
  clear hHead;go_wp2;go_ret2;exact F.o
 by_cases c3:j.nodes.length<2
 ·have F:=γ (hHead (w':=(w.alloc (.cells #[.int .i64 j.par,.slice na j.nodes.length cap] 24))) (by rw[HD.o,decide_eq_true c3];simp) (δ.alloc _))
  clear hHead;have c3':(j.nodes.length:Int)-1<1:=(by omega);go_wp2;go_ret2;exact F.o
 by_cases c4:12<j.nodes.length
 ·have F:=γ (hHead (w':=(w.alloc (.cells #[.int .i64 j.par,.slice na j.nodes.length cap] 24))) (by rw[HD.o,decide_eq_true c4];simp) (δ.alloc _))
  clear hHead;have c4':12<=(j.nodes.length:Int)-1:=(by omega);go_wp2;go_ret2;exact F.o
 have kA:ε η w (w.alloc (.cells #[.int .i64 j.par,.slice na j.nodes.length cap] 24)):=δ.alloc _;have cp:=YK j _ _ (H3.o.2.pure kA);have hcl:=DT (j.nodes.map (·.x)) 1001;obtain⟨m,hm⟩:=acu (jl (j.nodes.map (·.x)) 1001);rw[hm]at cp hcl;rw[hm]at HD;clear hm;have ae0:j.nodes.length<=12:=(by omega);have hn2:2<=j.nodes.length:=(by omega);by_cases c5:1000<1001-m
 ·have F:=γ (fun w' hk=>hHead (w':=w') (by rw[HD.o,decide_eq_true c5];simp) hk)
  clear hHead;go_wp2_with (go_at_call 85;refine cp.mono ?_;rintro e w2 ⟨rfl,k2⟩);go_ret2;exact F.o _ (kA.trans k2)
 have hOk:fE j=false:=(by rw[HD.o,decide_eq_false c1,decide_eq_false c2,decide_eq_false c3,decide_eq_false c4,decide_eq_false c5];rfl);have HO:=γ hOk;clear hOk hHead HD hp1 hp2;have c3':1<=(j.nodes.length:Int)-1:=(by omega);have c4':(j.nodes.length:Int)-1<12:=(by omega);have b0:(w.alloc (.cells #[.int .i64 j.par,.slice na j.nodes.length cap] 24)).cell? ⟨w.heap.size,0,none⟩=some (.int .i64 j.par):=(by simp);have b1:(w.alloc (.cells #[.int .i64 j.par,.slice na j.nodes.length cap] 24)).cell? ⟨w.heap.size,1,none⟩=some (.slice na j.nodes.length cap):=(by simp);have B0:=γ (θ b0 b1);clear b0 b1;have KA:=γ kA;clear kA;have c5': ¬(1000<((1001-m:Nat):Int)):=(by omega);go_wp2_with (go_at_call 85;refine cp.mono ?_;rintro e W0 ⟨rfl,k2⟩;have x0:=k2.cell id B0.o.1;have x1:=k2.cell id B0.o.2);have K0:=γ (KA.o.trans k2);clear k2 B0 KA cp hcl c5 c5';have HX:=γ (θ x0 x1);clear x0 x1;go_loopg [5,43] j.nodes.length (fun g vo vi wr=> ∃(k:Nat),k<=j.nodes.length/\vi= .int .i64 (k:Int)/\j.nodes.length-k<=g/\wr.ownsRow W0.heap.size 9 1 vo k (strs (qL j.nodes k))/\ε η W0 wr/\(qL j.nodes k).Nodup/\ ∀m,m<k->lW j.nodes m=0)
 case atStart=>exact⟨0,by omega,rfl,by omega,World.ownsRow_nil _ _ _ _,ε.refl _ _,nodup_nil,fun m hm=>by omega⟩
 case round=>
  obtain⟨k,hkl,rfl,hg,hown,hkp,hnd,hbad⟩:=hrel;obtain⟨oa,oc,rfl⟩:=au hown;by_cases hlt:k<j.nodes.length
  ·obtain⟨d,hd⟩: ∃d,j.nodes[k]?=some d:=⟨_,ι hlt⟩
   obtain⟨b,off,pi,ci,p,cap',rfl,hc,hj⟩:=H3.o.1 k d hd;obtain⟨c0,c1,c2,c3,c4,c5,c6⟩:=hc.kept (K0.o.trans hkp) id;have kA:ε η wr (wr.alloc (.cells (bQ d pi ci p cap') 42)):=δ.alloc _;have hbB:(wr.alloc (.cells (bQ d pi ci p cap') 42)).heap[wr.heap.size]?=some (.cells (bQ d pi ci p cap') 42 (0,0)):=heap_alloc_new _ _;have cm:=abg d _ k _ (hj.pure (K0.o.trans (hkp.trans kA))) (by omega);have G:=γ (θ hg (θ hown (θ (hkp.trans kA) (θ hd (θ kA (θ hnd (θ hbad hbB)))))));clear hd hj hc hg hown hkp kA hnd hbad hbB H3
   cases hm:bf k d with
   |false=>rw[hm]at cm;have F:=γ (fun w' hk=>show oQ w (iw j) (.returned (.tuple #[.int .i64 (k:Int),.int .i64 120])) w' from⟨by rw[Ah HO.o hlt G.o.2.2.2.2.2.2.1 (Rw G.o.2.2.2.1 hm) (by decide)],hk⟩);clear hm;go_wp2_with (go_at_call 86;refine cm.mono ?_;rintro e W1 ⟨rfl,k1⟩);go_ret2;exact F.o _ (K0.o.trans (G.o.2.2.1.trans k1))
   |true=>
    rw[hm]at cm;have HM:=γ hm;clear hm;go_wp2_with fail;refine cm.mono ?_;clear cm;rintro e W1 ⟨rfl,k1⟩;have x0:W1.cell? ⟨wr.heap.size,0,none⟩=some (.string d.uid):=ζ (k1.heap G.o.2.2.2.2.2.2.2 id) rfl;have kW:ε η wr W1:=G.o.2.2.2.2.1.trans k1;obtain⟨ti,hi9,hz9,hs9,hb9⟩:=abn;obtain⟨g',cap2,w',p1,p2,p3⟩:=lK (x:= .string d.uid) (bytes:=16) underlying163 hi9 hz9 hs9 hb9 rfl rfl (kW.owns G.o.2.1 (fun _ _ h=>h)) (by omega) (by omega) (ω G.o.2.2.1.size k1.size) 173;have hrow:w'.ownsRow W0.heap.size 9 1 (.slice (some ⟨g',0,none⟩) (k+1) cap2) (k+1) (strs (qL j.nodes (k+1))):=(by rw[FX G.o.2.2.2.1];unfold strs at p2⊢;rw[aay];exact p2);have ct:=U7 _ _ w' (Reads.aN hrow);have hlen:(qL j.nodes (k+1)).length=k+1:=(by unfold qL;rw[length_map,υ];omega);have kN:ε η W0 w':=(G.o.2.2.1.trans k1).new p3 (fun i hi hs=>by have h1:=(aY G.o.2.1 hs).1;omega);have P:=γ (θ hrow kN);clear p2 p3 hi9 hz9 hs9 hb9 hrow kN kW;have hnn:=Sv G.o.2.2.2.1 G.o.2.2.2.2.2.1
    cases hu:jR j.nodes k d with
    |true=>have e1:decide (qL j.nodes (k+1)).Nodup=false:=decide_eq_false fun h=>(by rw[hnn.1 h]at hu;cases hu);rw[e1]at ct;have F:=γ (fun w' hk=>show oQ w (iw j) (.returned (.tuple #[.int .i64 (k:Int),.int .i64 121])) w' from⟨by rw[Ah HO.o hlt G.o.2.2.2.2.2.2.1 (Ru G.o.2.2.2.1 HM.o hu) (by decide)],hk⟩);clear hu hnn e1;go_wp2_with (first|(at_builtin;refine wpList_append_run rfl (.tmp 53) (.tmp 56) 163 rfl _ _ _ rfl rfl p1 ?_)|(go_at_call 87;refine ct.mono ?_;rintro e w3 ⟨rfl,rfl⟩));go_ret2;exact F.o _ (K0.o.trans P.o.2)
    |false=>
     have e1:decide (qL j.nodes (k+1)).Nodup=true:=decide_eq_true (hnn.2 hu);rw[e1]at ct
     have F:=γ (θ (hnn.2 hu) (show∀m,m<k+1->lW j.nodes m=0 from fun m hm=>by
      by_cases h:m<k
      ·exact G.o.2.2.2.2.2.2.1 m h
      ·have:m=k:=by omega
       subst this
       exact(sQ G.o.2.2.2.1).2 ⟨HM.o,hu⟩))
     clear hu hnn e1;go_wp2_with (first|(at_builtin;refine wpList_append_run rfl (.tmp 53) (.tmp 56) 163 rfl _ _ _ rfl rfl p1 ?_)|(go_at_call 87;refine ct.mono ?_;rintro e w3 ⟨rfl,rfl⟩));go_roundg (j.nodes.length-(k+1))
     case rel=>exact⟨k+1,by omega,by go_num,ξ _,P.o.1,P.o.2,F.o.1,F.o.2⟩
     case measure=>have:=G.o.1;omega
  ·have e1:k=j.nodes.length:=by omega
   subst e1;have x1:=hkp.cell id HX.o.2;have KB:=γ (K0.o.trans hkp);have HXB:=γ (θ (hkp.cell id HX.o.1) x1);have HB:=γ hbad;clear hown hkp hnd hbad HX K0 hg hlt;go_wp2_with fail;clear x1;generalize wr=WB at*;go_loopg [8,9,65] j.nodes.length (fun g vf vo vi w2=> ∃(k:Nat),k<=j.nodes.length/\vi= .int .i64 (k:Int)/\j.nodes.length-k<=g/\vf= .int .i64 (((j.nodes.take k).countP fun d=>d.kind==4:Nat):Int)/\w2.ownsRow WB.heap.size 3 1 vo k (ints (bK (j.nodes.take k)))/\ε η WB w2/\(∀x∈bK (j.nodes.take k),0<=x/\x<=64)/\ ∀m e,m<k->j.nodes[m]?=some e->aS j.nodes m e=false)
   case atStart=>exact⟨0,by omega,rfl,by omega,rfl,World.ownsRow_nil _ _ _ _,ε.refl _ _,fun x hx=>by simp[bK]at hx,fun m e hm=>by omega⟩
   case round=>
    obtain⟨k,hkl,rfl,hg,rfl,hown,hkp,hwb,hbad⟩:=hrel;obtain⟨Ur,YP,rfl⟩:=au hown;by_cases hlt:k<j.nodes.length
    ·obtain⟨d,hd⟩: ∃d,j.nodes[k]?=some d:=⟨_,ι hlt⟩
     obtain⟨b,off,pi,ci,p,cap',rfl,hc,hj⟩:=H3.o.1 k d hd;obtain⟨c0,c1,c2,c3,c4,c5,c6⟩:=hc.kept (KB.o.trans hkp) id;have kA:ε η wr (wr.alloc (.cells (bQ d pi ci p cap') 42)):=δ.alloc _;have hbB:(wr.alloc (.cells (bQ d pi ci p cap') 42)).heap[wr.heap.size]?=some (.cells (bQ d pi ci p cap') 42 (0,0)):=heap_alloc_new _ _;obtain⟨acN,hlow⟩:=PY ((sQ hd).1 (HB.o k hlt)).1;have hin:Reads w 1 (.slice pi d.ins.length ci) (ints d.ins):=by
      obtain⟨_,_,_,_,e,_,hx,_⟩:=hj
      injection e with e
      simp only[List.cons.injEq,and_true,true_and]at e;obtain⟨e1,e2⟩:=e;rw[e1];exact hx
     have hkind:0<=d.kind/\d.kind<=255:=(by obtain⟨_,_,_,_,e,_,_,_,h4,h5,_⟩:=hj;exact⟨h4,h5⟩);obtain⟨ti,hi3,hz3,hs3,hb3⟩:=rU;obtain⟨g',cap2,w',p1,p2,p3⟩:=lK (x:= .int .i64 0) (bytes:=8) underlying37 hi3 hz3 hs3 hb3 rfl rfl (kA.owns hown (fun _ _ h=>h)) (by omega) (by omega) (ω hkp.size kA.size) 45;have hne:(Value.slice Ur k YP).ownBlock≠some wr.heap.size:=fun e=>(by have:=(aY hown e).2;omega);have afd:w'.heap[wr.heap.size]?=some (.cells (bQ d pi ci p cap') 42 (0,0)):=p3.heap hbB hne;have kN:ε η WB w':=(hkp.trans kA).new p3 (fun i hi hs=>by have h1:=(aY hown hs).1;omega);have hrow:w'.ownsRow WB.heap.size 3 1 (.slice (some ⟨g',0,none⟩) (k+1) cap2) (k+1) (ints (bK (j.nodes.take k)++[iU (bK (j.nodes.take k)) d.ins 0])):=(by unfold ints at p2⊢;rw[aay];exact p2);have G:=γ (θ hg (θ hd (θ hbad (θ hin (θ hlow (θ hwb hj))))));have P:=γ (θ hrow (θ kN afd));rw[World.size_alloc]at p1;have P1:=γ p1;have hwl:(bK (j.nodes.take k)).length=k:=(by rw[pX,υ];omega);have hfl:(j.nodes.take k).countP (fun d=>d.kind==4)<=k:=ω countP_le_length (by rw[υ];omega);have HWL:=γ (θ hwl hfl);have i1:(bQ d pi ci p cap')[1]?=some (.int .u8 d.kind):=rfl;clear hc hd hbad hg hown hkp hin hlow hwb hj hi3 hz3 hs3 hb3 p1 p2 p3 hne hbB afd kN hrow kA hwl hfl i1;go_wp2_with (at_builtin;refine wpList_append_run rfl (.tmp 70) (.tmp 71) 37 rfl _ _ _ rfl rfl P1.o ?_;have y2:w'.cell? ⟨wr.heap.size,2,none⟩=some (.slice pi d.ins.length ci):=ζ P.o.2.2 rfl);generalize wr.heap.size=B at*;obtain⟨W,hW⟩:=acu (bK (j.nodes.take k));rw[hW]at G P HWL;have HW:=γ hW;clear hW P1 c0 c1 c2 c3 c4 c5 c6;have INP:=γ G.o.2.2.2.1;go_loopg [76] d.ins.length (fun g vi w3=> ∃(m:Nat),m<=d.ins.length/\vi= .int .i64 (m:Int)/\d.ins.length-m<=g/\w3.ownsRow WB.heap.size 3 1 (.slice (some ⟨g',0,none⟩) (k+1) cap2) (k+1) (ints (W++[iU W d.ins m]))/\ε η WB w3/\w3.heap[B]?=some (.cells (bQ d pi ci p cap') 42 (0,0)))
     case atStart=>exact⟨0,by omega,rfl,by omega,P.o⟩
     case round=>
      obtain⟨m,hml,rfl,hgm,hown,hkp,hbB⟩:=hrel;by_cases hmt:m<d.ins.length
      ·obtain⟨x,hx⟩: ∃x,d.ins[m]?=some x:=⟨_,ι hmt⟩
       obtain⟨hx0,hx1⟩:=G.o.2.2.2.2.1 x (ς hx);obtain⟨xn,rfl⟩:=Int.eq_ofNat_of_zero_le hx0;obtain⟨pa,pc,pe,_,jI,hcell⟩:=(INP.o.pure (KB.o.trans hkp)).at
       injection pe with pe1 Em BZ
       subst pe1 BZ;obtain⟨bi,bW,rfl,hcell2⟩:=hcell.resolve_left (fun h=>by rw[h]at hmt;simp at hmt);have y0:=hcell2 m _ hx;clear hcell2;have hxk:xn<k:=(by omega);have hwl:=HWL.o.1;have y1:=hown.cellAt k (by omega);rw[uU (x:=iU W d.ins m) (by rw[Ψ (by omega),hwl,Nat.sub_self];rfl)]at y1;have y2:=hown.cellAt xn (by omega);rw[uU (x:=W.getD xn 0) (by rw[Ω (by omega),σ,ι (by omega)];rfl)]at y2;have y3:=hown.frozenAt k;have hsb:=xk (ins:=d.ins) G.o.2.2.2.2.2.1 m;have hgb:=H7 G.o.2.2.2.2.2.1 xn;obtain⟨s1,s2⟩:=(hown.drew).stored k (.int .i64 (iU W d.ins m+W.getD xn 0));have hsk:=BJ (W:=W) hx;have hset:(ints (W++[iU W d.ins m])).set k (.int .i64 (iU W d.ins m+W.getD xn 0))=ints (W++[iU W d.ins (m+1)]):=(by rw[hsk];unfold ints;rw[aay,set_append_right _ _ (by rw[length_map];omega),length_map,hwl,Nat.sub_self,aay];rfl);rw[hset]at s1;have hgW:WB.heap.size<=g':=(aY hown (b:=g') rfl).1;have hgB:g'≠B:=fun e=>row_ne hown hbB (by decide) (by rw[e];rfl);have kS:ε (fun q=>q=g') wr (wr.drew.setCell ⟨g',k,none⟩ (.int .i64 (iU W d.ins m+W.getD xn 0))):=ε.setCell (S:=fun q=>q=g') (p:=⟨g',k,none⟩) ((ε.refl (fun q=>q=g') wr).drew) (.inl rfl) _;have F:=γ (θ s1 (θ (hkp.new kS (fun i hi hs=>by omega)) (kS.heap hbB (fun e=>hgB e.symm))));have GM:=γ hgm;have qk:(k:Int)<(k:Int)+1:=(by omega);have qx:(xn:Int)<(k:Int)+1:=(by omega);have q1: -9223372036854775808<=iU W d.ins m+W.getD xn 0:=(by omega);have q2:iU W d.ins m+W.getD xn 0<=9223372036854775807:=(by omega);clear s1 s2 hset hown hkp hbB hcell kS hgm hsk hx hgB hgW hwl;go_wp2;refine acv [0,1,2,3,4,5,6,7,8,9,10] ?_;simp only[aco];iterate 10 (apply aj rfl rfl;(intro W hW;have z1:=hW.cell id y1;have z2:=hW.cell id y2;go_simp;rfl);go_frame)
       apply ay rfl rfl;intro K hK;go_wp2;refine hK _ _ (fun h=>absurd rfl h) (jG (by kernel_rfl) ?_);clear hK;go_wp2;go_roundg (d.ins.length-(m+1))
       case rel=>have e64:wrap64 (iU W d.ins m+W[xn]?.getD 0)=iU W d.ins m+W.getD xn 0:=(by rw[σ]at q1 q2⊢;exact zx ⟨q1,q2⟩);refine⟨m+1,by omega,by go_num,ξ _,?_⟩;rw[e64];exact F.o
       case measure=>have:=GM.o;omega
      ·have e1:m=d.ins.length:=by omega
       subst e1;have hS:=xk (ins:=d.ins) G.o.2.2.2.2.2.1 d.ins.length;obtain⟨S,hSd⟩:=acu (iU W d.ins d.ins.length);rw[hSd]at hown hS;have hwl:=HWL.o.1;have hfl:=HWL.o.2;obtain⟨fl,hfd⟩:=acu ((j.nodes.take k).countP (fun d=>d.kind==4));rw[hfd]at hfl;have hfs:=H8 G.o.2.1;rw[hfd]at hfs;have hws:=Jj G.o.2.1;have hwg:=EU G.o.2.1;rw[HW.o]at hws hwg;have hwo:=Jk W d;rw[hSd]at hwo;have y1:=hown.cellAt k (by omega);rw[uU (x:=S) (by rw[Ψ (by omega),hwl,Nat.sub_self];rfl)]at y1;have y3:=hown.frozenAt k;have c1:wr.cell? ⟨B,1,none⟩=some (.int .u8 d.kind):=ζ hbB rfl;have hgW:WB.heap.size<=g':=(aY hown (b:=g') rfl).1;have hgB:g'≠B:=fun e=>row_ne hown hbB (by decide) (by rw[e];rfl)
       have Dp:=γ (show aS j.nodes k d=false-> ∀x∈bK (j.nodes.take (k+1)),0<=x/\x<=64 from fun hg x hx=>by
        rw[hws]at hx
        rcases aax.1 hx with hx|hx
        ·exact G.o.2.2.2.2.2.1 x hx
        ·rw[ach.1 hx]
         have h1: ¬(64<(bK j.nodes).getD k 0):=fun h=>(by have h2:=(oH (nodes:=j.nodes) (k:=k) (d:=d) rfl rfl rfl).2 (.inr (.inr (.inr (.inr (.inr h)))));rw[hg]at h2;cases h2);rw[hwg]at h1;refine⟨?_,by omega⟩;rw[hwo];split
         ·omega
         ·split<;>omega)
       by_cases k1:d.kind=1
       ·skip
        have hn4: ¬d.kind=4:=(by omega);rw[if_pos k1]at hwo;rw[if_neg hn4,Nat.add_zero]at hfs;rw[hwo]at hws hwg;obtain⟨s1,s2⟩:=hown.stored k (.int .i64 (1));have hset:(ints (W++[S])).set k (.int .i64 (1))=ints (bK (j.nodes.take (k+1))):=(by rw[hws];unfold ints;rw[aay,set_append_right _ _ (by rw[length_map];omega),length_map,hwl,Nat.sub_self,aay];rfl);rw[hset]at s1;have kS:ε (fun q=>q=g') wr (wr.setCell ⟨g',k,none⟩ (.int .i64 (1))):=ε.setCell (S:=fun q=>q=g') (p:=⟨g',k,none⟩) (ε.refl (fun q=>q=g') wr) (.inl rfl) _;obtain⟨W4,iW⟩:=acu (wr.setCell ⟨g',k,none⟩ (.int .i64 (1)));rw[iW]at s1 kS;have yj:ε η WB W4:=hkp.new kS (fun i hi hs=>by omega);have FK:=kS.heap hbB (fun e=>hgB e.symm);have c14:W4.cell? ⟨B,1,none⟩=some (.int .u8 d.kind):=ζ FK rfl;have LC:=s1.cellAt k (by omega);rw[hws,uU (x:=1) (by rw[Ψ (by omega),hwl,Nat.sub_self];rfl)]at LC;have x04:=yj.cell id HXB.o.1;have x14:=yj.cell id HXB.o.2;have x0':=hkp.cell id HXB.o.1;have x1':=hkp.cell id HXB.o.2;have hg0:g'≠w.heap.size:=fun e=>(by have:=block_lt_of_cell HXB.o.1;simp only at this;omega);have hg0':w.heap.size≠g':=fun e=>hg0 e.symm;have cr:=y7 j _ k _ (H3.o.2.pure (KB.o.trans yj)) (by omega);obtain⟨many,gu⟩:=acu (fV j.nodes k);rw[gu]at cr;have hsh:=γ (oH (d:=d) gu hfs hwg);have R:=γ (θ s1 (θ yj FK));have FL:=γ (show Value.int .i64 (fl:Int)= .int .i64 (((j.nodes.take (k+1)).countP (fun d=>d.kind==4):Nat):Int) by rw[show((j.nodes.take (k+1)).countP (fun d=>d.kind==4))=fl from hfs]);have HY:=γ (θ c14 (θ LC iW));clear hown hkp hbB hgB hgW hws hwg hfs gu hwo hSd s1 s2 kS hset yj FK c14 LC x04 x14 iW;go_wp2_with fail;rw[HY.o.2.2];have c1:=HY.o.1;have y1:=HY.o.2.1;clear hg0 hg0' y3;refine cr.mono ?_;clear cr;rintro e W5 ⟨ra,rc,rfl,k5⟩;have c1:=k5.cell id c1;have y1:=k5.cell id y1;have FB:=γ (show∀x:Int,x=(k:Int)->aS j.nodes k d=true->oQ w (iw j) (.returned (.tuple #[.int .i64 x,.int .i64 122])) W5 from fun x hx h=>⟨by rw[qN HO.o HB.o G.o.2.1 G.o.2.2.1 h,hx],KB.o.trans (R.o.2.1.trans k5)⟩);have K5:=γ (θ k5 hsh.o);clear k5 hsh x0' x1';by_cases hk0:k=0
        ·have y1z:=y1
         rw[hk0]at y1z;go_wp2_with fail;all_goals first
          |(go_ret2
            refine FB.o _ (by omega) (K5.o.2.2 ?_)
            (try simp only[Dk,acp]at*);omega)
          |(have hgood:aS j.nodes k d=false:=by
             cases hsb:aS j.nodes k d with
             |false=>rfl
             |true=>
              have h3:=K5.o.2.1 hsb;exfalso;clear hsb
              revert h3
              (try simp only[Dk,acp]at*);intro h3;omega
            go_roundg (j.nodes.length-(k+1))
            case rel=>
             refine⟨k+1,by omega,by go_num,ξ _,by first|exact FL.o|(have h:=FL.o;have hz:fl=0:=(by omega);rw[hz]at h;exact h),by first|exact K5.o.1.owns R.o.1 (fun _ _ h=>h)|(have h:=K5.o.1.owns R.o.1 (fun _ _ h=>h);rw[show k+1=1 by omega]at h⊢;exact h),R.o.2.1.trans K5.o.1,Dp.o hgood,fun m e hm he=>?_⟩;by_cases h:m<k
             ·exact G.o.2.2.1 m e h he
             ·have e1:m=k:=by omega
              subst e1;have e2:=G.o.2.1;rw[he]at e2
              injection e2 with e2
              rw[e2];exact hgood
            case measure=>have:=G.o.1;omega)
        ·skip
         go_wp2_with fail;all_goals first
          |(go_ret2
            refine FB.o _ (by omega) (K5.o.2.2 ?_)
            (try simp only[Dk,acp]at*);omega)
          |(have hgood:aS j.nodes k d=false:=by
             cases hsb:aS j.nodes k d with
             |false=>rfl
             |true=>
              have h3:=K5.o.2.1 hsb;exfalso;clear hsb
              revert h3
              (try simp only[Dk,acp]at*);intro h3;omega
            go_roundg (j.nodes.length-(k+1))
            case rel=>
             refine⟨k+1,by omega,by go_num,ξ _,FL.o,K5.o.1.owns R.o.1 (fun _ _ h=>h),R.o.2.1.trans K5.o.1,Dp.o hgood,fun m e hm he=>?_⟩;by_cases h:m<k
             ·exact G.o.2.2.1 m e h he
             ·have e1:m=k:=by omega
              subst e1;have e2:=G.o.2.1;rw[he]at e2
              injection e2 with e2
              rw[e2];exact hgood
            case measure=>have:=G.o.1;omega)
       ·by_cases k4:d.kind=4
        ·skip
         rw[if_neg k1,if_pos k4]at hwo;rw[if_pos k4]at hfs;have q1: -9223372036854775808<=S*4:=(by omega);have q2:S*4<=9223372036854775807:=(by omega);rw[hwo]at hws hwg;obtain⟨s1,s2⟩:=hown.stored k (.int .i64 (S*4));have hset:(ints (W++[S])).set k (.int .i64 (S*4))=ints (bK (j.nodes.take (k+1))):=(by rw[hws];unfold ints;rw[aay,set_append_right _ _ (by rw[length_map];omega),length_map,hwl,Nat.sub_self,aay];rfl);rw[hset]at s1;have kS:ε (fun q=>q=g') wr (wr.setCell ⟨g',k,none⟩ (.int .i64 (S*4))):=ε.setCell (S:=fun q=>q=g') (p:=⟨g',k,none⟩) (ε.refl (fun q=>q=g') wr) (.inl rfl) _;obtain⟨W4,iW⟩:=acu (wr.setCell ⟨g',k,none⟩ (.int .i64 (S*4)));rw[iW]at s1 kS;have yj:ε η WB W4:=hkp.new kS (fun i hi hs=>by omega);have FK:=kS.heap hbB (fun e=>hgB e.symm);have c14:W4.cell? ⟨B,1,none⟩=some (.int .u8 d.kind):=ζ FK rfl;have LC:=s1.cellAt k (by omega);rw[hws,uU (x:=S*4) (by rw[Ψ (by omega),hwl,Nat.sub_self];rfl)]at LC;have x04:=yj.cell id HXB.o.1;have x14:=yj.cell id HXB.o.2;have x0':=hkp.cell id HXB.o.1;have x1':=hkp.cell id HXB.o.2;have hg0:g'≠w.heap.size:=fun e=>(by have:=block_lt_of_cell HXB.o.1;simp only at this;omega);have hg0':w.heap.size≠g':=fun e=>hg0 e.symm;have cr:=y7 j _ k _ (H3.o.2.pure (KB.o.trans yj)) (by omega);obtain⟨many,gu⟩:=acu (fV j.nodes k);rw[gu]at cr;have hsh:=γ (oH (d:=d) gu hfs hwg);have R:=γ (θ s1 (θ yj FK));have FL:=γ (show Value.int .i64 ((fl:Int)+1)= .int .i64 (((j.nodes.take (k+1)).countP (fun d=>d.kind==4):Nat):Int) by rw[show((j.nodes.take (k+1)).countP (fun d=>d.kind==4))=fl+1 from hfs];rfl);have HY:=γ (θ c14 (θ LC iW));clear hown hkp hbB hgB hgW hws hwg hfs gu hwo hSd s1 s2 kS hset yj FK c14 LC x04 x14 iW;go_wp2_with fail;rw[HY.o.2.2];have c1:=HY.o.1;have y1:=HY.o.2.1;clear hg0 hg0' y3;refine cr.mono ?_;clear cr;rintro e W5 ⟨ra,rc,rfl,k5⟩;have c1:=k5.cell id c1;have y1:=k5.cell id y1;have FB:=γ (show∀x:Int,x=(k:Int)->aS j.nodes k d=true->oQ w (iw j) (.returned (.tuple #[.int .i64 x,.int .i64 122])) W5 from fun x hx h=>⟨by rw[qN HO.o HB.o G.o.2.1 G.o.2.2.1 h,hx],KB.o.trans (R.o.2.1.trans k5)⟩);have K5:=γ (θ k5 hsh.o);clear k5 hsh x0' x1';go_wp2_with fail;all_goals first
          |(go_ret2
            refine FB.o _ (by omega) (K5.o.2.2 ?_)
            (try simp only[Dk,acp]at*);omega)
          |(have hgood:aS j.nodes k d=false:=by
             cases hsb:aS j.nodes k d with
             |false=>rfl
             |true=>
              have h3:=K5.o.2.1 hsb;exfalso;clear hsb
              revert h3
              (try simp only[Dk,acp]at*);intro h3;omega
            go_roundg (j.nodes.length-(k+1))
            case rel=>
             refine⟨k+1,by omega,by go_num,ξ _,FL.o,K5.o.1.owns R.o.1 (fun _ _ h=>h),R.o.2.1.trans K5.o.1,Dp.o hgood,fun m e hm he=>?_⟩;by_cases h:m<k
             ·exact G.o.2.2.1 m e h he
             ·have e1:m=k:=by omega
              subst e1;have e2:=G.o.2.1;rw[he]at e2
              injection e2 with e2
              rw[e2];exact hgood
            case measure=>have:=G.o.1;omega)
        ·rw[if_neg k1,if_neg k4,Int.mul_one]at hwo
         rw[if_neg k4,Nat.add_zero]at hfs;rw[hwo]at hws hwg;rw[<-hws]at hown;have x0:=hkp.cell id HXB.o.1;have x1:=hkp.cell id HXB.o.2;have cr:=y7 j _ k _ (H3.o.2.pure (KB.o.trans hkp)) (by omega);obtain⟨many,gu⟩:=acu (fV j.nodes k);rw[gu]at cr;have hsh:=γ (oH (d:=d) gu hfs hwg);have R:=γ (θ hown (θ hkp hbB));have FL:=γ (show Value.int .i64 (fl:Int)= .int .i64 (((j.nodes.take (k+1)).countP (fun d=>d.kind==4):Nat):Int) by rw[<-hfs];rfl);clear hown hkp hbB hgB hgW hws hwg hfs gu hwo hSd;go_wp2_with fail;refine cr.mono ?_;clear cr;rintro e W5 ⟨ra,rc,rfl,k5⟩;have c1:=k5.cell id c1;have y1:=k5.cell id y1;have FB:=γ (show∀x:Int,x=(k:Int)->aS j.nodes k d=true->oQ w (iw j) (.returned (.tuple #[.int .i64 x,.int .i64 122])) W5 from fun x hx h=>⟨by rw[qN HO.o HB.o G.o.2.1 G.o.2.2.1 h,hx],KB.o.trans (R.o.2.1.trans k5)⟩);have K5:=γ (θ k5 hsh.o);clear k5 hsh x0 x1;go_wp2_with fail;all_goals first
          |(go_ret2
            refine FB.o _ (by omega) (K5.o.2.2 ?_)
            (try simp only[Dk,acp]at*);omega)
          |(have hgood:aS j.nodes k d=false:=by
             cases hsb:aS j.nodes k d with
             |false=>rfl
             |true=>
              have h3:=K5.o.2.1 hsb;exfalso;clear hsb
              revert h3
              (try simp only[Dk,acp]at*);intro h3;omega
            go_roundg (j.nodes.length-(k+1))
            case rel=>
             refine⟨k+1,by omega,by go_num,ξ _,FL.o,K5.o.1.owns R.o.1 (fun _ _ h=>h),R.o.2.1.trans K5.o.1,Dp.o hgood,fun m e hm he=>?_⟩;by_cases h:m<k
             ·exact G.o.2.2.1 m e h he
             ·have e1:m=k:=by omega
              subst e1;have e2:=G.o.2.1;rw[he]at e2
              injection e2 with e2
              rw[e2];exact hgood
            case measure=>have:=G.o.1;omega)
    ·have e1:k=j.nodes.length:=by omega
     subst e1;have F:=γ (show oQ w (iw j) (.returned (.tuple #[.int .i64 0,.int .i64 0])) wr from⟨by rw[IX HO.o HB.o hbad],KB.o.trans hkp⟩);clear hown hkp hbad hg hlt;go_wp2;go_ret2;exact F.o
end
section
open Go Go.RowKit
def afM (l:List UInt8):List Value:=l.map fun x=> .int .u8 x.toNat
@[simp] theorem agc (l:List UInt8):(afM l).length=l.length:=by simp[afM]
end
section
open Go Go.RowKit
attribute [local irreducible] dI
end
section
open Go Go.RowKit
theorem TK (a:Nat)(ha:a<9223372036854775808):bits .xor .i64 (a:Int) (-1)= -1-(a:Int):=by show IntKind.i64.wrap ((BitVec.ofInt 64 (a:Int)^^^BitVec.ofInt 64 (-1)).toNat:Int)=_;have h1:BitVec.ofInt 64 (-1)=BitVec.allOnes 64:=(by decide);rw[h1,BitVec.xor_allOnes,BitVec.toNat_not,ofInt_u64 a (by omega)];simp[IntKind.wrap,IntKind.bits,IntKind.signed];omega
theorem Ql (a:Nat)(ha:a<9223372036854775808):bits .xor .i64 (a:Int) 0=(a:Int):=by show IntKind.i64.wrap ((BitVec.ofInt 64 (a:Int)^^^BitVec.ofInt 64 0).toNat:Int)=_;have h1:BitVec.ofInt 64 0=0#64:=(by decide);rw[h1,BitVec.xor_zero,ofInt_u64 a (by omega)];simp[IntKind.wrap,IntKind.bits,IntKind.signed];omega
theorem aam {u:Nat}(hu:u<18446744073709551616):bits .xor .i64 ((u/2:Nat):Int) (-((u%2:Nat):Int))=mF u:=by
 unfold mF;have h2:u%2=0\/u%2=1:=by omega
 rcases h2 with h2|h2
 ·rw[h2,if_pos rfl];exact Ql _ (by omega)
 ·rw[h2,if_neg (by omega)]
  have:=TK (u/2) (by omega);rw[show(-((1:Nat):Int))= -1 from rfl,this];omega
theorem AQ (u:Nat)(hu:u<18446744073709551616)(w:World):Calls prog 96 #[.int .u64 (u:Int)] w fun e w'=>e= .returned (.int .i64 (mF u))/\w=w':=by have e1:bits .and .u64 (u:Int) 1=((u%2:Nat):Int):=(by have:=u64_and_nat u 1 hu (by omega);rw[nat_mask1]at this;exact this);have hb:=aam hu;obtain⟨v,hv⟩:=acu (u%2);have hv2:v<2:=(by omega);rw[hv]at e1 hb;have HV:=γ hv;have HB:=γ hb;clear hv hb;go_enter func96,ntmps96;go_wp2;go_ret;exact⟨gV (by rw[show((u:Int)/2)=((u/2:Nat):Int) by omega];exact HB.o),rfl⟩
theorem aaZ (k:Nat):(2:Nat)^(7*k)=128^k:=by rw[Nat.pow_mul]
theorem adF {U d k:Nat}(h1:U<128^k)(h2:U+d*128^k<18446744073709551616):bits .or .u64 (U:Int) (IntKind.u64.wrap ((d:Int)*2^(7*k)))=((U+d*128^k:Nat):Int):=by
 have e1:(d:Int)*2^(7*k)=((d*128^k:Nat):Int):=(by rw[<-aaZ];simp);rw[e1,IntKind.wrap_u64,Int.emod_eq_of_lt (by omega) (by omega),u64_or_nat _ _ (by omega) (by omega),Nat.or_comm,nat_join (7*k) _ _ (by rw[aaZ];simp) (by rw[aaZ];exact h1)]
 congr 1
 omega
theorem adY {c:Nat}(h:c<256):bits .and .u8 (c:Int) 128=if 128<=c then 128 else 0:=by
 have:=u8_and_nat c 128 h (by omega);rw[show(128:Nat)=2^7 from rfl,nat_bit]at this;have e:c/2^7%2=if 128<=c then 1 else 0:=(by split<;>omega);rw[e]at this;split
 ·rename_i hc;rw[if_pos hc]at this;exact this
 ·rename_i hc;rw[if_neg hc]at this;exact this
def TkQ (w:World)(x:Int×Nat×Int)(e:Ending)(w':World):Prop:=e= .returned (.tuple #[.int .i64 x.1,.int .i64 (x.2.1:Int),.int .i64 x.2.2])/\w=w'
theorem aal (s:ByteArray)(hs:s.size<=maxLen)(w:World):Calls prog 48 #[.string s] w (TkQ w (tk s.data.toList)):=by
 unfold maxLen at hs;go_enter func48,ntmps48;go_wp2_with fail
 go_step3
 go_wp2_with fail
 go_step3
 go_wp2;go_loopg [5,6] 11 (fun g vu vi wr=> ∃k U:Nat,vi= .int .i64 (k:Int)/\vu= .int .u64 (U:Int)/\k<=9/\k<=s.size/\U<128^k/\11-k<=g/\tk s.data.toList=gY k U (s.data.toList.drop k)/\wr=w)
 case atStart=>exact⟨0,0,rfl,rfl,by omega,by omega,by decide,by omega,rfl,rfl⟩
 case round=>
  obtain⟨k,U,rfl,rfl,hk9,hks,hU,hg,hT,rfl⟩:=hrel;have HT:=γ (θ hT (θ hU hg));clear hT hU hg;by_cases hlt:k<s.size
  ·obtain⟨c,hc⟩:=acu (s[k].toNat)
   have hc256:c<256:=(by rw[<-hc];exact s[k].toNat_lt);have hU2:U<9223372036854775808:=(by have h1:128^k<=128^9:=Nat.pow_le_pow_right (by omega) hk9;rw[VD]at h1;have:=HT.o.2.1;omega);have hdr:s.data.toList.drop k=s[k]::s.data.toList.drop (k+1):=(by rw[acn (by simpa using hlt)];rfl);have HD:=γ hdr;have HC:=γ hc;clear hdr;by_cases hbad:k=9/\1<c
   ·obtain⟨rfl,hc1⟩:=hbad
    have hcb:(1:Int)<(s[9].toNat:Int):=(by omega);clear hc;go_wp2_with fail;try rw[Exit.noGoto_ret]
    go_ret3
    have e:=HT.o.1;rw[HD.o,gY,HC.o,if_pos ⟨rfl,hc1⟩]at e;rw[e];exact⟨rfl,rfl⟩
   ·have h9:k=9-> ¬(1:Int)<(s[k].toNat:Int):=fun h h1=>hbad ⟨h,by omega⟩
    have b1:bits .andNot .u8 (s[k].toNat:Int) 128=((c%128:Nat):Int):=by rw[hc];have:=u8_andNot_nat c 128 hc256 (by omega);rw[show 255-128=127 from rfl,nat_mask7]at this;exact this
    obtain⟨d,hd⟩:=acu (c%128);rw[hd]at b1;have hd2:d<128:=(by omega);have hV:U+d*128^k<18446744073709551616/\(k<=8->U+d*128^k<128^(k+1)):=by
     have hUk:=HT.o.2.1;constructor
     ·by_cases hk:k=9
      ·subst hk
       have:d<=1:=(by have:=h9 rfl;omega);rw[VD]at*;have:d*9223372036854775808<=1*9223372036854775808:=Nat.mul_le_mul_right _ this;omega
      ·have h1:128^k<=128^8:=Nat.pow_le_pow_right (by omega) (by omega)
       have h2:d*128^k<=127*128^k:=Nat.mul_le_mul_right _ (by omega);have h3:(128:Nat)^8=72057594037927936:=(by decide);omega
     ·intro _
      have h2:d*128^k<=127*128^k:=Nat.mul_le_mul_right _ (by omega);rw[Nat.pow_succ];omega
    have b2:=adF HT.o.2.1 hV.1;obtain⟨V,hVV⟩:=acu (U+d*128^k);rw[hVV]at b2 hV;have b4:bits .and .u8 (s[k].toNat:Int) 128=if 128<=c then 128 else 0:=(by rw[hc];exact adY hc256);have hsk: ∀h:c=0,((s[k].toNat:Int)==0)=true:=fun h=>(by rw[hc,h];rfl);have VZ: ∀h:c≠0,((s[k].toNat:Int)==0)=false:=fun h=>(by rw[hc];exact beq_eq_false_iff_ne.2 (by omega));have hV1:=hV.1;have e0:=HT.o.1;rw[HD.o,gY,HC.o,if_neg hbad,hd,hVV]at e0;have E0:=γ e0;have HH:=γ (θ hd (θ hV.2 hbad));clear hd hc hbad e0 hV hVV;by_cases hbig:128<=c
    ·have hk9':((k:Int)==9)=false:=beq_eq_false_iff_ne.2 (by have:=HH.o.2.2;omega)
     have hk8:k<=8:=(by have:=HH.o.2.2;omega);have F:=γ (show tk s.data.toList=gY (k+1) V (s.data.toList.drop (k+1))/\V<128^(k+1)from⟨by rw[E0.o,if_pos hbig],HH.o.2.1 hk8⟩);rw[if_pos hbig]at b4;clear h9 hsk VZ;go_wp2;go_roundg (11-(k+1))
     case rel=>exact⟨k+1,V,by go_num,rfl,by omega,by omega,F.o.2,ξ _,F.o.1,rfl⟩
     case measure=>have:=HT.o.2.2;omega
    ·rw[if_neg hbig]at b4 E0
     have hk:((k:Int)==9)=false\/(((k:Int)==9)=true/\ ¬(1:Int)<(s[k].toNat:Int)):=by
      by_cases h:k=9
      ·exact .inr ⟨by rw[h];rfl,h9 h⟩
      ·exact .inl (beq_eq_false_iff_ne.2 (by omega))
     clear h9;by_cases c0:c=0
     ·have z0:=hsk c0
      clear hsk VZ;by_cases k0:0<k
      ·have F:=γ (show tk s.data.toList=(0,0,21) by rw[E0.o,if_pos ⟨c0,k0⟩])
       have k1:(1:Int)<(k:Int)+1:=by omega
       rcases hk with hk|⟨hk,h1⟩
       ·go_wp2_with fail
        try rw[Exit.noGoto_ret]
        go_ret3
        rw[F.o];exact⟨rfl,rfl⟩
       ·go_wp2_with fail
        try rw[Exit.noGoto_ret]
        go_ret3
        rw[F.o];exact⟨rfl,rfl⟩
      ·have F:=γ (show tk s.data.toList=(mF V,k+1,0) by rw[E0.o,if_neg (fun h=>k0 h.2)])
       have k1: ¬(1:Int)<(k:Int)+1:=by omega
       rcases hk with hk|⟨hk,h1⟩
       ·go_wp2_with fail
        refine(AQ V hV1 _).mono ?_;rintro e w' ⟨rfl,rfl⟩;go_wp2_with fail;try rw[Exit.noGoto_ret]
        go_ret3
        rw[F.o];exact⟨rfl,rfl⟩
       ·go_wp2_with fail
        refine(AQ V hV1 _).mono ?_;rintro e w' ⟨rfl,rfl⟩;go_wp2_with fail;try rw[Exit.noGoto_ret]
        go_ret3
        rw[F.o];exact⟨rfl,rfl⟩
     ·have z0:=VZ c0
      have F:=γ (show tk s.data.toList=(mF V,k+1,0) by rw[E0.o,if_neg (fun h=>c0 h.1)]);clear hsk VZ
      rcases hk with hk|⟨hk,h1⟩
      ·go_wp2_with fail
       refine(AQ V hV1 _).mono ?_;rintro e w' ⟨rfl,rfl⟩;go_wp2_with fail;try rw[Exit.noGoto_ret]
       go_ret3
       rw[F.o];exact⟨rfl,rfl⟩
      ·go_wp2_with fail
       refine(AQ V hV1 _).mono ?_;rintro e w' ⟨rfl,rfl⟩;go_wp2_with fail;try rw[Exit.noGoto_ret]
       go_ret3
       rw[F.o];exact⟨rfl,rfl⟩
  ·go_wp2_with fail
   try rw[Exit.noGoto_ret]
   go_ret3
   have e:=HT.o.1;rw[drop_eq_nil_of_le (by simpa using hlt)]at e;rw[e];exact⟨rfl,rfl⟩
def kR {α:Type}(w:World)(E S:Nat):Rd α->Prop
 | .ok _ r=>w.heap[E]?=some (.cells #[.int .i64 0] 28 (0,0))/\ ∃s:ByteArray,w.heap[S]?=some (.cells #[.string s] 9 (0,0))/\s.data.toList=r/\s.size<=maxLen
 | .err f=>w.heap[E]?=some (.cells #[.int .i64 f] 28 (0,0))/\f≠0/\ ∃s:ByteArray,w.heap[S]?=some (.cells #[.string s] 9 (0,0))
def ad8 (a b:Nat):Nat->Prop:=fun k=>k=a\/k=b
def numAt {α:Type}(lo hi:Int)(x:Rd α):Rd Int:=x.bind fun _ r=>num lo hi r
def dQ (lo:Int):Rd Int->Int
 | .ok n _=>n
 | .err _=>lo
def rX {α:Type}(w:World)(E S:Nat)(lo hi:Int)(x:Rd α)(e:Ending)(w':World):Prop:=
 e= .returned (.int .i64 (dQ lo (numAt lo hi x)))/\kR w' E S (numAt lo hi x)/\ε (ad8 E S) w w'
theorem F9: ∀(l:List UInt8)(i u:Nat),(gY i u l).2.1<=i+l.length
 |[],_,_=>Nat.zero_le _
 |c::r,i,u=>by
  have h:=F9 r (i+1) (u+c.toNat%128*128^i);unfold gY;rw[φ];split
  ·exact Nat.zero_le _
  ·split
   ·omega
   ·split
    ·exact Nat.zero_le _
    ·show i+1<=_;omega
theorem Yb (l:List UInt8):(tk l).2.1<=l.length:=by have:=F9 l 0 0;unfold tk;omega
theorem kR.set {w:World}{E S:Nat}{a u:Value}{f:Int}{s:ByteArray}(yu:E≠S)(h1:w.heap[E]?=some (.cells #[a] 28 (0,0)))(h2:w.heap[S]?=some (.cells #[u] 9 (0,0)))(hu:u= .string s):
 (w.setCell ⟨E,0,none⟩ (.int .i64 f)).heap[E]?=some (.cells #[.int .i64 f] 28 (0,0))/\(w.setCell ⟨E,0,none⟩ (.int .i64 f)).heap[S]?=some (.cells #[.string s] 9 (0,0)):=
 ⟨one_setCell h1,by rw[Below.heap_setCell _ _ _ _ (fun e=>yu e.symm),h2,hu]⟩
theorem kR.set2 {w:World}{E S:Nat}{a u:Value}{t:ByteArray}(yu:E≠S)(h1:w.heap[E]?=some (.cells #[a] 28 (0,0)))(h2:w.heap[S]?=some (.cells #[u] 9 (0,0))):
 (w.setCell ⟨S,0,none⟩ (.string t)).heap[E]?=some (.cells #[a] 28 (0,0))/\(w.setCell ⟨S,0,none⟩ (.string t)).heap[S]?=some (.cells #[.string t] 9 (0,0)):=
 ⟨by rw[Below.heap_setCell _ _ _ _ yu,h1],one_setCell h2⟩
theorem tY {α:Type}(lo hi:Int)(E S:Nat)(x:Rd α)(w:World)(yu:E≠S)(h:kR w E S x):
 Calls prog 47 #[.int .i64 lo,.int .i64 hi,.pointer (some ⟨E,0,none⟩),.pointer (some ⟨S,0,none⟩)] w (rX w E S lo hi x):=by
 cases x with
 |err f=>obtain⟨h1,h2,s,h3⟩:=h;have c0:=cell_of_one h1;have F:rX (α:=α) w E S lo hi (.err f) (.returned (.int .i64 lo)) w:=⟨rfl,⟨h1,h2,s,h3⟩,ε.refl _ _⟩;have FF:=γ F;have hf:(f !=0)=true:=bne_iff_ne.2 h2;clear F h1 h2 h3;go_enter func47,ntmps47;go_wp2;go_ret;exact FF.o
 |ok a r=>
  obtain⟨h1,s,h2,rfl,h3⟩:=h;have c0:=cell_of_one h1;have c1:=cell_of_one h2;have f0:=free_of_one h1;have f1:=free_of_one h2;have hE:=lt_of_block h1;have hS:=lt_of_block h2;have hb:=aal s h3;obtain⟨x,hx⟩:=acu (tk s.data.toList);rw[hx]at hb;obtain⟨n,z,f⟩:=x;have HX:=γ (θ hx (θ h1 (θ h2 h3)));have HB:=γ hb;clear hx h1 h2 h3 hb;by_cases hf:f=0
  ·subst hf
   have hz:z<=s.size:=(by have:=Yb s.data.toList;rw[HX.o.1]at this;exact this);have hzi: ¬(s.size:Int)<(z:Int):=(by omega);have hE0:=fun(f:Int)=>kR.set (w:=w) (f:=f) yu HX.o.2.1 HX.o.2.2.1 rfl
   have hst: ∀f:Int,((((w.setCell ⟨E,0,none⟩ (.int .i64 0)).setCell ⟨S,0,none⟩ (.string (s.extract z s.size))).setCell ⟨E,0,none⟩ (.int .i64 f)).heap[E]?=some (.cells #[.int .i64 f] 28 (0,0))/\(((w.setCell ⟨E,0,none⟩ (.int .i64 0)).setCell ⟨S,0,none⟩ (.string (s.extract z s.size))).setCell ⟨E,0,none⟩ (.int .i64 f)).heap[S]?=some (.cells #[.string (s.extract z s.size)] 9 (0,0))):=fun f=>
    have h2:=kR.set2 (t:=s.extract z s.size) yu (hE0 0).1 (hE0 0).2
    kR.set (f:=f) yu h2.1 h2.2 rfl
   have h2:=kR.set2 (t:=s.extract z s.size) yu (hE0 0).1 (hE0 0).2;have hk2:ε (ad8 E S) w ((w.setCell ⟨E,0,none⟩ (.int .i64 0)).setCell ⟨S,0,none⟩ (.string (s.extract z s.size))):=(δ.setCell (.inl (.inl rfl)) _).setCell (.inl (.inr rfl)) _;have hsz:(s.extract z s.size).size<=maxLen:=(by have:=HX.o.2.2.2;simp;omega);have ST:=γ (θ hst (θ h2 (θ hk2 hsz)));have hnum:num lo hi s.data.toList=if n<lo\/hi<n then .err 21 else .ok n (s.data.toList.drop z):=(by unfold num;rw[HX.o.1];simp);have HN:=γ hnum;clear hE0 hst h2 hk2 hsz hnum;have ways:n<lo\/(¬n<lo/\hi<n)\/(¬n<lo/\ ¬hi<n):=by omega
   rcases ways with w1|⟨w1,w2⟩|⟨w1,w2⟩
   ·have hn:numAt lo hi (Rd.ok a s.data.toList)= .err 21:=by show num lo hi _=_;rw[HN.o,if_pos (.inl w1)]
    have F:acr (rX w E S lo hi (.ok a s.data.toList) (.returned (.int .i64 lo)) (((w.setCell ⟨E,0,none⟩ (.int .i64 0)).setCell ⟨S,0,none⟩ (.string (s.extract z s.size))).setCell ⟨E,0,none⟩ (.int .i64 21))):=(by unfold rX;rw[hn];exact⟨rfl,⟨(ST.o.1 21).1,by decide,_,(ST.o.1 21).2⟩,ST.o.2.2.1.setCell (.inl (.inl rfl)) _⟩);clear hn;go_enter func47,ntmps47;go_wp2_with fail;refine(HB.o _).mono ?_;rintro e w' ⟨rfl,rfl⟩;go_wp2;go_ret;exact F.o
   ·have hn:numAt lo hi (Rd.ok a s.data.toList)= .err 21:=by show num lo hi _=_;rw[HN.o,if_pos (.inr w2)]
    have F:acr (rX w E S lo hi (.ok a s.data.toList) (.returned (.int .i64 lo)) (((w.setCell ⟨E,0,none⟩ (.int .i64 0)).setCell ⟨S,0,none⟩ (.string (s.extract z s.size))).setCell ⟨E,0,none⟩ (.int .i64 21))):=(by unfold rX;rw[hn];exact⟨rfl,⟨(ST.o.1 21).1,by decide,_,(ST.o.1 21).2⟩,ST.o.2.2.1.setCell (.inl (.inl rfl)) _⟩);clear hn;go_enter func47,ntmps47;go_wp2_with fail;refine(HB.o _).mono ?_;rintro e w' ⟨rfl,rfl⟩;go_wp2;go_ret;exact F.o
   ·have hn:numAt lo hi (Rd.ok a s.data.toList)= .ok n (s.data.toList.drop z):=by show num lo hi _=_;rw[HN.o,if_neg (by omega)]
    have F:acr (rX w E S lo hi (.ok a s.data.toList) (.returned (.int .i64 n)) ((w.setCell ⟨E,0,none⟩ (.int .i64 0)).setCell ⟨S,0,none⟩ (.string (s.extract z s.size)))):=(by unfold rX;rw[hn];exact⟨rfl,⟨ST.o.2.1.1,_,ST.o.2.1.2,Lib.extract_to_end s z,ST.o.2.2.2⟩,ST.o.2.2.1⟩);clear hn;go_enter func47,ntmps47;go_wp2_with fail;refine(HB.o _).mono ?_;rintro e w' ⟨rfl,rfl⟩;go_wp2;go_ret;exact F.o
  ·have hfb:(f !=0)=true:=bne_iff_ne.2 hf
   go_enter func47,ntmps47;go_wp2_with fail;refine(HB.o _).mono ?_;rintro e w1 ⟨rfl,rfl⟩;have F:acr (rX w E S lo hi (.ok a s.data.toList) (.returned (.int .i64 lo)) (w.setCell ⟨E,0,none⟩ (.int .i64 f))):=(by have hn:numAt lo hi (Rd.ok a s.data.toList)= .err f:=(by show num lo hi _=_;unfold num;rw[HX.o.1,if_pos hf]);unfold rX;rw[hn];have hs:=kR.set (f:=f) yu HX.o.2.1 HX.o.2.2.1 rfl;exact⟨rfl,⟨hs.1,hf,s,hs.2⟩,δ.setCell (.inl (.inl rfl)) _⟩);go_wp2;go_ret;exact F.o
theorem modify_last {α:Type}(a:α)(f:α->α): ∀l:List α,(l++[a]).modify l.length f=l++[f a]
 |[]=>rfl
 |b::l=>by simp[modify_last a f l]
section
variable {P:Program} {w:World} {m:Nat} {l:List (Int×Value)} {T K E:TypeId} {q:IntKind}
theorem dW.entry (h:dW w m l)(hT:P.underlying T=some (.map K E))(hK:P.underlying K=some (.int q)){key:Int}(hn:key∉l.map (·.1)){z:Value}(hz:(zeroValue E).run P w= .ok z w):
 ∃(w1:World)(born:Int),(Instr.mapEntry T (.map (some m)) (.int .i64 key)).run P w= .ok (.tuple #[z,.int .i64 born]) w1/\ε (one m) w w1/\w1.heap.size=w.heap.size/\
  ∀v:Value,∃w2,(Instr.entryStore T (.map (some m)) (.int .i64 born) v).run P w1= .ok () w2/\dW w2 m (upd key v l)/\ε (one m) w w2/\w2.heap.size=w.heap.size:=by
 obtain⟨L,clock,h,rfl⟩:=h;have hf:uI key L 0=none:=by
  cases hf:uI key L 0 with
  |none=>rfl
  |some x=>exfalso;have h1:=Aw key L 0;rw[hf]at h1;obtain⟨j,y⟩:=x;have:=P5 (l:=L.map kv) (key:=key) (v:=y) (by rw[<-h1];rfl);exact hn (aaw.2 ⟨_,this,rfl⟩)
 have hno:=Au hf;refine⟨World.iF w m (((L++[(key,z,clock)]).map ent).toArray) (clock+1),(clock:Int),?_,nJ _ _ _ _,by simp[World.iF],fun v=>?_⟩
 ·simp[Instr.mapEntry,run_underlying hT,gU h.heap,run_checkKey hK,run_findKey hK,hf,oL h.heap,ent,hz,goInt]
 ·have hh:=nK h.heap (((L++[(key,z,clock)]).map ent).toArray) (clock+1)
  refine⟨World.iF w m (((L++[(key,v,clock)]).map ent).toArray) (clock+1),?_,?_,nJ _ _ _ _,by simp[World.iF]⟩
  ·have hidx:((L++[(key,z,clock)]).map ent).toArray.findIdx? (fun e=>(e.born:Int)==(clock:Int))=some L.length:=by
    rw[findIdx?_toArray,aay,findIdx?_append];have h0:(L.map ent).findIdx? (fun e=>(e.born:Int)==(clock:Int))=none:=(by rw[findIdx?_eq_none_iff];intro e he;obtain⟨t,ht,rfl⟩:=aaw.1 he;have:=h.old t ht;simp[ent];omega);rw[h0];simp[ent]
   have hmod:((L++[(key,z,clock)]).map ent).toArray.modify L.length (fun e=>{e with val:=v})=((L++[(key,v,clock)]).map ent).toArray:=by
    rw[modify_toArray,aay,aay]
    congr 1
    have e:(L.map ent).length=L.length:=(by simp);rw[<-e,Θ,Ξ,modify_last];simp[ent]
   simp only[Instr.entryStore,Sem.run_bind,gU hh,Result.andThen_ok,asInt,asIntOf,Sem.run_pure,hidx,hmod];rw[oL hh];simp[World.iF]
  ·refine⟨L++[(key,v,clock)],clock+1,⟨nK h.heap _ _,?_,?_,?_⟩,?_⟩
   ·rw[aay,nodup_append]
    refine⟨h.keys,by simp,?_⟩;intro a ha b hb;obtain⟨t,ht,rfl⟩:=aaw.1 ha;simp at hb;subst hb;exact hno t ht
   ·rw[aay,nodup_append]
    refine⟨h.born,by simp,?_⟩;intro a ha b hb;obtain⟨t,ht,rfl⟩:=aaw.1 ha;simp at hb;subst hb;exact Nat.ne_of_lt (h.old t ht)
   ·intro t ht
    rcases aax.1 ht with ht|ht
    ·exact Nat.lt_succ_of_lt (h.old t ht)
    ·simp at ht;subst ht;exact Nat.lt_succ_self _
   ·rw[aay,Iw]
    ·rfl
    ·intro p hp
     obtain⟨t,ht,rfl⟩:=aaw.1 hp;exact hno t ht
end
end
section
open Go Go.RowKit
def bV (j:Nat)(x:Rd Int):Rd (List Int):=x.bind fun _ r=>nums j r
theorem JK: ∀(k:Nat)(l:List UInt8),nums (k+1) l=(nums k l).bind fun ns r=>(num bC hi64 r).bind fun n r'=> .ok (ns++[n]) r'
 |0,l=>rfl
 |k+1,l=>by
  rw[nums,nums]
  cases h1:num bC hi64 l with
  |err e=>rfl
  |ok n r=>
   simp only[Rd.bind];rw[JK k r]
   cases h2:nums k r with
   |err e=>rfl
   |ok ns r2=>
    simp only[Rd.bind]
    cases h3:num bC hi64 r2 with
    |err e=>rfl
    |ok n' r3=>rfl
theorem vN (j:Nat)(x:Rd Int):bV (j+1) x=(bV j x).bind fun ns r=>(num bC hi64 r).bind fun n r'=> .ok (ns++[n]) r':=by
 cases x with
 |err f=>rfl
 |ok n r=>exact JK j r
theorem kR.same {α β:Type}{w:World}{E S:Nat}{x:Rd α}{y:Rd β}(h:kR w E S x)(hok: ∀a r,x= .ok a r-> ∃b,y= .ok b r)(herr: ∀f,x= .err f->y= .err f):kR w E S y:=by
 cases x with
 |ok a r=>obtain⟨b,rfl⟩:=hok a r rfl;exact h
 |err f=>rw[herr f rfl];exact h
theorem kR.VI {w:World}{E S j:Nat}{x:Rd Int}(h:kR w E S (numAt bC hi64 (bV j x))):kR w E S (bV (j+1) x):=by
 rw[vN];refine h.same (fun a r e=>?_) (fun f e=>?_)
 ·cases h1:bV j x with
  |err f=>rw[h1]at e;cases e
  |ok ns r1=>rw[h1]at e;have e:num bC hi64 r1= .ok a r:=e;exact⟨ns++[a],by simp only[Rd.bind];rw[e]⟩
 ·cases h1:bV j x with
  |err f'=>
   rw[h1]at e;have e:Rd.err f'=Rd.err f:=e
   injection e with e
   rw[e];rfl
  |ok ns r1=>rw[h1]at e;have e:num bC hi64 r1= .err f:=e;simp only[Rd.bind];rw[e]
theorem kR.kept {α:Type}{w w':World}{E S:Nat}{x:Rd α}{Q:Nat->Prop}(h:kR w E S x)(hk:ε Q w w')(hE: ¬Q E)(hS: ¬Q S):kR w' E S x:=by
 cases x with
 |ok a r=>obtain⟨h1,s,h2,h3⟩:=h;exact⟨hk.heap h1 hE,s,hk.heap h2 hS,h3⟩
 |err f=>obtain⟨h1,h0,s,h2⟩:=h;exact⟨hk.heap h1 hE,h0,s,hk.heap h2 hS⟩
theorem kR.lt {α:Type}{w:World}{E S:Nat}{x:Rd α}(h:kR w E S x):E<w.heap.size/\S<w.heap.size:=by
 cases x with
 |ok a r=>obtain⟨h1,s,h2,h3⟩:=h;exact⟨lt_of_block h1,lt_of_block h2⟩
 |err f=>obtain⟨h1,h0,s,h2⟩:=h;exact⟨lt_of_block h1,lt_of_block h2⟩
theorem aeg (l:List UInt8):row l=(numAt bC hi64 (Rd.ok () l)).bind fun key _=>(numAt bC hi64 (numAt bC hi64 (Rd.ok () l))).bind fun acc _=>
 (numAt 0 16 (numAt bC hi64 (numAt bC hi64 (Rd.ok () l)))).bind fun n _=>(bV n.toNat (numAt 0 16 (numAt bC hi64 (numAt bC hi64 (Rd.ok () l))))).bind fun ns r=> .ok (key,(acc,ns)) r:=by
 unfold row
 cases h1:num bC hi64 l with
 |err e=>have e1:numAt bC hi64 (Rd.ok () l)= .err e:=h1
         rw[e1];rfl
 |ok key r1=>
  have e1:numAt bC hi64 (Rd.ok () l)= .ok key r1:=h1;rw[e1];simp only[Rd.bind]
  cases h2:num bC hi64 r1 with
  |err e=>have e2:numAt bC hi64 (Rd.ok key r1)= .err e:=h2
          rw[e2]
  |ok acc r2=>
   have e2:numAt bC hi64 (Rd.ok key r1)= .ok acc r2:=h2;rw[e2];simp only
   cases h3:num 0 16 r2 with
   |err e=>have e3:numAt 0 16 (Rd.ok acc r2)= .err e:=h3
           rw[e3]
   |ok n r3=>have e3:numAt 0 16 (Rd.ok acc r2)= .ok n r3:=h3;rw[e3];rfl
theorem vO {α:Type}{lo hi:Int}{x:Rd α}(h:lo<=hi):lo<=dQ lo (numAt lo hi x)/\dQ lo (numAt lo hi x)<=hi:=by
 cases x with
 |err f=>exact⟨Int.le_refl _,h⟩
 |ok a r=>
  show lo<=dQ lo (num lo hi r)/\dQ lo (num lo hi r)<=hi;unfold num;split
  ·exact⟨Int.le_refl _,h⟩
  ·split
   ·exact⟨Int.le_refl _,h⟩
   ·simp only[dQ];omega
def jm (w:World)(l:List UInt8)(e:Ending)(w':World):Prop:=
 match nR l with
 | .ok T _=> ∃b m,e= .returned (.tuple #[.pointer (some ⟨b,0,none⟩),.int .i64 0])/\TabAt w' (up w.heap.size) b m T/\ε η w w'
 | .err f=>e= .returned (.tuple #[.pointer none,.int .i64 f])/\f≠0/\ε η w w'
def qO (T:Tab):Int:=match T.getLast? with|some p=>p.1|none=>0
abbrev Eb (w:World)(E S:Nat):Nat->Prop:=fun k=>w.heap.size<=k/\k≠E/\k≠S
structure AU {α:Type}(w wr:World)(B:Nat->Prop)(E S b m:Nat)(T:Tab)(x:Rd α):Prop where
 st:kR wr E S x
 tab:TabAt wr B b m T
 kept:ε η w wr
theorem AU.num {α:Type}{w wr w':World}{B:Nat->Prop}{E S b m:Nat}{T:Tab}{x:Rd α}{lo hi:Int}{e:Ending}(h:AU w wr B E S b m T x)(hB: ∀k,B k->k≠E/\k≠S)(hE:w.heap.size<=E)(hS:w.heap.size<=S)(hq:rX wr E S lo hi x e w'):AU w w' B E S b m T (numAt lo hi x):=
 ⟨hq.2.1,h.tab.kept hq.2.2 (fun k hk hb=>by
   rcases hk with rfl|rfl
   ·exact absurd rfl (hB _ hb).1
   ·exact absurd rfl (hB _ hb).2) (fun hk=>by
   rcases hk with e|e
   ·exact(hB _ h.tab.hm).1 e
   ·exact(hB _ h.tab.hm).2 e),
   h.kept.new hq.2.2 (fun i hi hk=>by rcases hk with e|e<;>omega)⟩
structure Dq (w wr:World)(B:Nat->Prop)(E S C b m:Nat)(T:Tab)(v2:Int)(x:Rd Int)(j:Nat)(lv:Value)(n:Nat)(L:List Int):Prop where
 inn:AU w wr B E S b m T (bV j x)
 cell:wr.heap[C]?=some (.cells #[.int .i64 v2,lv] 109 (0,0))
 own:wr.ownsRow (C+1) 2 1 lv n (ints L)
 len:L.length=j
 val: ∀ns r,bV j x= .ok ns r->L=ns
theorem mY {w:World}{C:Nat}{a u:Value}{E:TypeId}(h:w.heap[C]?=some (.cells #[a,u] E (0,0))):w.cell? ⟨C,0,none⟩=some a/\w.cell? ⟨C,1,none⟩=some u/\w.frozen? ⟨C,1,none⟩=false/\ ∀v,(w.setCell ⟨C,1,none⟩ v).heap[C]?=some (.cells #[a,v] E (0,0)):=by refine⟨by simp[World.cell?,h],by simp[World.cell?,h],by simp[World.frozen?,h],fun v=>?_⟩;have hlt:=lt_of_block h;have h':w.heap[C]= .cells #[a,u] E (0,0):=(by simpa[Array.getElem?_eq_getElem hlt]using h);show(w.heap.modify C _)[C]?=_;rw[Array.getElem?_eq_getElem (by simpa using hlt),Array.getElem_modify_self,h'];rfl
theorem eY {w:World}{base e size n:Nat}{v:Value}{xs:List Value}(h:w.ownsRow base e size v n xs){b:Nat}(hb:v.ownBlock=some b):base<=b/\b<w.heap.size:=by
 rcases h.2 with⟨rfl,_⟩|⟨g,cap,cur,rfl,h1,h2,_⟩
 ·cases hb
 ·cases hb;exact⟨h1,(κ.1 h2).1⟩
theorem LD {P:Program}{w w':World}{o:Oper}{a:Act}{K:Act->World->Prop}{Q:Exit->Act->World->Prop}(s x:Operand)(t:TypeId)
 (ho:o.op= .call {callee:= .builtin .append,args:= #[s,x],argTypes:= #[t,t]}) (v u v':Value) (hs:a.eval s=v) (hx:a.eval x=u) (hr:(Builtin.append_ #[t,t] o.type #[v,u]).run P w= .ok v' w')
 (h:K (a.put o.dst v') w'):o.wp P a w K Q:=by
 unfold Oper.wp execOp;simp only[ho,resolve,invoke,builtin,Sem.run_bind,Sem.run_pure,Result.andThen_ok,map_toArray,Θ,Ξ,hs,hx,hr];exact h
def yO (E S C:Nat):Nat->Prop:=fun k=>k=E\/k=S\/C<k
theorem Dq.step {w wr w3:World}{B:Nat->Prop}{E S C b m:Nat}{T:Tab}{v2:Int}{x:Rd Int}{j n:Nat}{lv:Value}{L:List Int}{e:Ending}(h:Dq w wr B E S C b m T v2 x j lv n L)(hB: ∀k,B k->k<C/\k≠E/\k≠S)
 (hE:w.heap.size<=E/\E<C) (hS:w.heap.size<=S/\S<C) (hj:j<16) (hq:rX wr.drew E S bC hi64 (bV j x) e w3):
 ∃v7 n7 w7,(Builtin.append_ #[97,97] 97 #[lv,.slice (some ⟨w3.heap.size,0,none⟩) 1 1]).run prog (w3.alloc (.cells #[.int .i64 (dQ bC (numAt bC hi64 (bV j x)))] 2))= .ok v7 w7/\
  ε (yO E S C) wr w3/\ε (yO E S C) wr w7/\w7.cell? ⟨C,1,none⟩=some lv/\w7.frozen? ⟨C,1,none⟩=false/\(∃a c,v7= .slice a n7 c)/\
  Dq w (w7.setCell ⟨C,1,none⟩ v7) B E S C b m T v2 x (j+1) v7 n7 (L++[dQ bC (numAt bC hi64 (bV j x))]):=by
 have hCl:=lt_of_block h.cell;have k3:ε (yO E S C) wr w3:=(hq.2.2.aW).mono (fun k _ hk=>by rcases hk with h|h;exact .inl h;exact .inr (.inl h))
 have hnS: ¬yO E S C C:=fun h=>by rcases h with h|h|h<;>omega
 have hown3:w3.ownsRow (C+1) 2 1 lv n (ints L):=(hq.2.2.aW).owns h.own (fun k hk hs=>by have:=(eY h.own hk).1;rcases hs with h|h<;>omega);have kA:ε η w3 (w3.alloc (.cells #[.int .i64 (dQ bC (numAt bC hi64 (bV j x)))] 2)):=δ.alloc _;obtain⟨vv,hvv⟩:=acu (dQ bC (numAt bC hi64 (bV j x)));have hval: ∀n r,numAt bC hi64 (bV j x)= .ok n r->vv=n:=fun n r hn=>(by rw[<-hvv,hn];rfl);rw[hvv]at kA⊢;clear hvv;have hn:n=L.length:=(by have:=hown3.1;simp[ints]at this;omega);have hl:=h.len;obtain⟨i2,hi2,hz2,hs2,hb2⟩:=info_parts Tryz.info2;obtain⟨v7,n7,w7,b1,b2,b3,b4,b5⟩:=aZ (P:=prog) (C+1) 97 97 2 i2 (.int .i64 0) 1 8 underlying97 hi2 hz2 hs2 hb2 rfl (by omega) (kA.owns hown3 (fun _ _ h=>h)) (Reads.lit w3 [.int .i64 vv] 2 1 1 rfl (by unfold maxLen;omega)) (nM [vv]) (by simp;omega) (by unfold maxLen;simp;omega) (by have:=k3.size;simp;omega);have k7:ε (yO E S C) wr w7:=k3.trans (kA.pure.trans (ε.grown b4 (fun g hg _=> .inr (.inr (by have:=(eY (kA.owns hown3 (fun _ _ h=>h)) hg).1;omega)))));have k37:ε (fun k=>C<k) w3 w7:=kA.pure.trans (ε.grown b4 (fun g hg _=>by have:=(eY (kA.owns hown3 (fun _ _ h=>h)) hg).1;omega));have c7:=mY (k7.heap h.cell hnS);have k8:ε (one C) w7 (w7.setCell ⟨C,1,none⟩ v7):=(ε.refl (one C) w7).setCell (p:=⟨C,1,none⟩) (.inl rfl) _;refine⟨v7,n7,w7,b1,k3,k7,c7.2.1,c7.2.2.1,au b2,⟨⟨?_,?_,?_⟩,c7.2.2.2 v7,?_,?_,?_⟩⟩
 ·refine kR.VI ?_
  exact((hq.2.1.kept k37 (fun h=>by omega) (fun h=>by omega)).kept k8 (fun h=>by unfold one at h;omega) (fun h=>by unfold one at h;omega))
 ·have t3:=h.inn.tab.kept k7 (fun k hk hb=>by
   exfalso;have:=hB k hb
   rcases hk with h|h|h
   ·exact this.2.1 h
   ·exact this.2.2 h
   ·omega) (fun hk=>by
   have:=hB m h.inn.tab.hm
   rcases hk with h|h|h
   ·exact this.2.1 h
   ·exact this.2.2 h
   ·omega)
  exact t3.kept k8 (fun k hk hb=>by have:=hB k hb;unfold one at hk;omega) (fun e=>by have:=hB m h.inn.tab.hm;unfold one at e;omega)
 ·refine(h.inn.kept.new k7 (fun i hi hs=>?_)).new k8 (fun i hi hs=>by unfold one at hs;omega)
  have:=h.inn.kept.size
  rcases hs with h|h|h<;>omega
 ·refine k8.owns ?_ (fun k hk e=>by have:=(eY b2 hk).1;unfold one at e;omega)
  unfold ints at b2⊢;rw[aay];exact b2
 ·rw[ν,hl];rfl
 ·intro ns r hnr
  rw[vN]at hnr
  cases h1:bV j x with
  |err f=>rw[h1]at hnr;cases hnr
  |ok ms r1=>
   rw[h1]at hnr;simp only[Rd.bind]at hnr
   cases h2:num bC hi64 r1 with
   |err f=>rw[h2]at hnr;cases hnr
   |ok q r2=>
    rw[h2]at hnr
    injection hnr with h3 h4
    rw[<-h3,h.val ms r1 h1,hval q r2 (by rw[h1];exact h2)]
end
