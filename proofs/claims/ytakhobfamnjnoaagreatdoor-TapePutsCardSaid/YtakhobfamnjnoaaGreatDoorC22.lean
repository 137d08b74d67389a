/- job.May, walked. -/
import Derived.Test.YtakhobfamnjnoaaGreatDoorC21
set_option linter.unusedVariables false
set_option linter.unusedSimpArgs false
set_option maxHeartbeats 4000000
set_option maxRecDepth 100000
namespace Go.Proofs.YtakhobfamnjnoaaGreatDoor
open Go Go.RowKit
attribute [local irreducible] kC
def qQ (w:World)(r:Int×Int)(e:Ending)(w':World):Prop:=e= .returned (.tuple #[.int .i64 r.1, .int .i64 r.2])/\Kept none' w w'
def qp (nodes:List JN)(k:Nat):List ByteArray:=(nodes.take k).map (·.uid)
theorem Iw {nodes:List JN}{k:Nat}{d:JN}(h:nodes[k]?=some d):qp nodes (k+1)=qp nodes k++[d.uid]:=by
 unfold qp;rw[List.take_add_one,h];simp
theorem Tt {nodes:List JN}{k:Nat}{d:JN}(h:nodes[k]?=some d)(hn:(qp nodes k).Nodup):(qp nodes (k+1)).Nodup↔jK nodes k d=false:=by
 rw[Iw h,List.nodup_append]
 unfold jK
 rw[decide_eq_false_iff_not]
 show _↔d.uid∉qp nodes k
 constructor
 ·intro⟨_,_,h3⟩ hm
  exact h3 _ hm _ (List.mem_singleton.2 rfl) rfl
 ·intro hm
  refine⟨hn,by simp,fun a ha b hb e=>?_⟩
  rw[List.mem_singleton.1 hb]at e
  exact hm (e▸ha)
theorem ak {a b c d:Int}:((a==b)=(c==d))↔(a=b↔c=d):=by
 rw[Bool.eq_iff_iff,beq_iff_eq,beq_iff_eq]
theorem nJ {nodes:List JN}{k:Nat}{d:JN}{many fl:Nat}{way:Int}(h1:fZ nodes k=many)(h2:JZ nodes k=fl)(h3:(cO nodes).getD k 0=way):
 aX nodes k d=true↔((d.kind=1↔ ¬k=0)\/(d.kind=9↔ ¬k+1=nodes.length)\/(many=0↔ ¬k+1=nodes.length)\/3<many\/2<fl\/64<way):=by
 unfold aX
 rw[h1,h2,h3]
 have hb: ∀p q:Prop,[Decidable p]->[Decidable q]->(((decide p !=decide q)=true)↔(p↔ ¬q)):=by
  intro p q _ _
  by_cases hp:p<;>by_cases hq:q<;>simp[hp,hq]
 simp only[Bool.or_eq_true,hb,decide_eq_true_eq,or_assoc]
theorem JY {nodes:List JN}{k:Nat}{d:JN}(hd:nodes[k]?=some d):JZ nodes k=(nodes.take k).countP (fun d=>d.kind==4)+(if d.kind=4 then 1 else 0):=by
 unfold JZ
 rw[List.take_add_one,hd,List.countP_append]
 congr 1
 by_cases h:d.kind=4
 ·simp[h]
 ·simp[h]
theorem MK {nodes:List JN}{k:Nat}{d:JN}(hd:nodes[k]?=some d):cO (nodes.take (k+1))=cO (nodes.take k)++[Ba (cO (nodes.take k)) d]:=by
 rw[List.take_add_one,hd]
 exact wG _ _
theorem abI (j:Jb)(a:Array Value)(w:World)(h:CY w a j):Calls Tryz.prog 25 #[.agg a] w (qQ w (dB j)):=by
 have hJ:=h
 obtain⟨v,rfl,hn,hp⟩:=h
 obtain⟨na,cap,rfl,h1,h2,h3⟩:=hn.at
 unfold maxLen at h2
 have H3:=Lib.hid (And.intro h3 hJ)
 clear h3 hn hJ
 obtain⟨hp1,hp2⟩:=hp
 have HD:=Lib.hid (show iH j=(decide (j.par<1)||decide (4<j.par)||decide (j.nodes.length<2)||decide (12<j.nodes.length)||decide (1000<1001-iq (j.nodes.map (·.x)) 1001))from rfl)
 have hHead: ∀{w':World},iH j=true->Kept none' w w'->qQ w (dB j) (.returned (.tuple #[.int .i64 0, .int .i64 2])) w':=fun hb hk=>⟨by rw[D5 hb],hk⟩
 go_enter Tryz.func25,Tryz.ntmps25
 by_cases c1:j.par<1
 ·have F:=Lib.hid (hHead (w':=(w.alloc (.cells #[.int .i64 j.par, .slice na j.nodes.length cap] 24))) (by rw[HD.out,decide_eq_true c1];rfl) ((Kept.refl _ _).alloc _))
  clear hHead
  go_wp2_with fail
  go_ret2
  exact F.out
 by_cases c2:4<j.par
 ·have F:=Lib.hid (hHead (w':=(w.alloc (.cells #[.int .i64 j.par, .slice na j.nodes.length cap] 24))) (by rw[HD.out,decide_eq_true c2];simp) ((Kept.refl _ _).alloc _))
  clear hHead
  go_wp2_with fail
  go_ret2
  exact F.out
 by_cases c3:j.nodes.length<2
 ·have F:=Lib.hid (hHead (w':=(w.alloc (.cells #[.int .i64 j.par, .slice na j.nodes.length cap] 24))) (by rw[HD.out,decide_eq_true c3];simp) ((Kept.refl _ _).alloc _))
  clear hHead
  have c3':(j.nodes.length:Int)-1<1:=by omega
  go_wp2_with fail
  go_ret2
  exact F.out
 by_cases c4:12<j.nodes.length
 ·have F:=Lib.hid (hHead (w':=(w.alloc (.cells #[.int .i64 j.par, .slice na j.nodes.length cap] 24))) (by rw[HD.out,decide_eq_true c4];simp) ((Kept.refl _ _).alloc _))
  clear hHead
  have c4':12<=(j.nodes.length:Int)-1:=by omega
  go_wp2_with fail
  go_ret2
  exact F.out
 have kA:Kept none' w (w.alloc (.cells #[.int .i64 j.par, .slice na j.nodes.length cap] 24)):=(Kept.refl _ _).alloc _
 have cp:=Y7 j _ _ (H3.out.2.pure kA)
 have hcl:=FH (j.nodes.map (·.x)) 1001
 obtain⟨m,hm⟩: ∃m,iq (j.nodes.map (·.x)) 1001=m:=⟨_,rfl⟩
 rw[hm]at cp hcl
 rw[hm]at HD
 clear hm
 have afQ:j.nodes.length<=12:=by omega
 have hn2:2<=j.nodes.length:=by omega
 by_cases c5:1000<1001-m
 ·have F:=Lib.hid (fun w' hk=>hHead (w':=w') (by rw[HD.out,decide_eq_true c5];simp) hk)
  clear hHead
  go_wp2_with (go_at_call 57;refine cp.mono ?_;rintro e w2 ⟨rfl,k2⟩)
  go_ret2
  exact F.out _ (kA.trans k2)
 have hOk:iH j=false:=by rw[HD.out,decide_eq_false c1,decide_eq_false c2,decide_eq_false c3,decide_eq_false c4,decide_eq_false c5];rfl
 have HO:=Lib.hid hOk
 clear hOk hHead HD hp1 hp2
 have c3':1<=(j.nodes.length:Int)-1:=by omega
 have c4':(j.nodes.length:Int)-1<12:=by omega
 have b0:(w.alloc (.cells #[.int .i64 j.par, .slice na j.nodes.length cap] 24)).cell? ⟨w.heap.size,0,none⟩=some (.int .i64 j.par):=by simp
 have b1:(w.alloc (.cells #[.int .i64 j.par, .slice na j.nodes.length cap] 24)).cell? ⟨w.heap.size,1,none⟩=some (.slice na j.nodes.length cap):=by simp
 have B0:=Lib.hid (And.intro b0 b1)
 clear b0 b1
 have KA:=Lib.hid kA
 clear kA
 have c5': ¬(1000<((1001-m:Nat):Int)):=by omega
 go_wp2_with (go_at_call 57;refine cp.mono ?_;rintro e W0 ⟨rfl,k2⟩;have x0:=k2.cell (fun h=>h) B0.out.1;have x1:=k2.cell (fun h=>h) B0.out.2)
 have K0:=Lib.hid (KA.out.trans k2)
 clear k2 B0 KA cp hcl c5 c5'
 have HX:=Lib.hid (And.intro x0 x1)
 clear x0 x1
 go_loopg [5,43] j.nodes.length (fun g vo vi wr=> ∃(k:Nat),k<=j.nodes.length/\vi= .int .i64 (k:Int)/\j.nodes.length-k<=g/\wr.ownsRow W0.heap.size 9 1 vo k (strs (qp j.nodes k))/\Kept none' W0 wr/\(qp j.nodes k).Nodup/\ ∀m,m<k->kY j.nodes m=0)
 case atStart=>exact⟨0,by omega,rfl,by omega,World.ownsRow_nil _ _ _ _,Kept.refl _ _,List.nodup_nil,fun m hm=>by omega⟩
 case round=>
  obtain⟨k,hkl,rfl,hg,hown,hkp,hnd,hbad⟩:=hrel
  obtain⟨oa,oc,rfl⟩:=dP hown
  by_cases hlt:k<j.nodes.length
  ·obtain⟨d,hd⟩: ∃d,j.nodes[k]?=some d:=⟨_,List.getElem?_eq_getElem hlt⟩
   obtain⟨b,off,pi,ci,p,cap',rfl,hc,hj⟩:=H3.out.1 k d hd
   obtain⟨c0,c1,c2,c3,c4,c5,c6⟩:=hc.kept (K0.out.trans hkp) (fun h=>h)
   have kA:Kept none' wr (wr.alloc (.cells (o7 d pi ci p cap') 79)):=(Kept.refl _ _).alloc _
   have hbB:(wr.alloc (.cells (o7 d pi ci p cap') 79)).heap[wr.heap.size]?=some (.cells (o7 d pi ci p cap') 79 (0,0)):=heap_alloc_new _ _
   have cm:=abr d _ k _ (hj.pure (K0.out.trans (hkp.trans kA))) (by omega)
   have G:=Lib.hid (And.intro hg (And.intro hown (And.intro (hkp.trans kA) (And.intro hd (And.intro kA (And.intro hnd (And.intro hbad hbB)))))))
   clear hd hj hc hg hown hkp kA hnd hbad hbB H3
   cases hm:bD k d with
   |false=>
    rw[hm]at cm
    have F:=Lib.hid (fun w' hk=>show qQ w (dB j) (.returned (.tuple #[.int .i64 (k:Int), .int .i64 120])) w' from⟨by rw[BO HO.out hlt G.out.2.2.2.2.2.2.1 (SL G.out.2.2.2.1 hm) (by decide)],hk⟩)
    clear hm
    go_wp2_with (go_at_call 58;refine cm.mono ?_;rintro e W1 ⟨rfl,k1⟩)
    go_ret2
    exact F.out _ (K0.out.trans (G.out.2.2.1.trans k1))
   |true=>
    rw[hm]at cm
    have HM:=Lib.hid hm
    clear hm
    go_wp2_with fail
    (with_reducible refine cm.mono ?_)
    clear cm
    rintro e W1 ⟨rfl,k1⟩
    have x0:W1.cell? ⟨wr.heap.size,0,none⟩=some (.string d.uid):=cells_at (k1.heap G.out.2.2.2.2.2.2.2 (fun h=>h)) rfl
    have kW:Kept none' wr W1:=G.out.2.2.2.2.1.trans k1
    obtain⟨ti,hi9,hz9,hs9,hb9⟩:=abL
    obtain⟨g',cap2,w',p1,p2,p3⟩:=pK (x:= .string d.uid) (bytes:=16) Tryz.underlying115 hi9 hz9 hs9 hb9 rfl rfl (kW.owns G.out.2.1 (fun _ _ h=>h)) (by omega) (by omega) (Nat.le_trans G.out.2.2.1.size k1.size) 173
    have hrow:w'.ownsRow W0.heap.size 9 1 (.slice (some ⟨g',0,none⟩) (k+1) cap2) (k+1) (strs (qp j.nodes (k+1))):=by
     rw[Iw G.out.2.2.2.1]
     unfold strs at p2⊢
     rw[List.map_append]
     exact p2
    have ct:=V7 _ _ w' (Reads.EZ hrow)
    have hlen:(qp j.nodes (k+1)).length=k+1:=by unfold qp;rw[List.length_map,List.length_take];omega
    have kN:Kept none' W0 w':=(G.out.2.2.1.trans k1).new p3 (fun i hi hs=>by have h1:=(kP G.out.2.1 hs).1;omega)
    have P:=Lib.hid (And.intro hrow kN)
    clear p2 p3 hi9 hz9 hs9 hb9 hrow kN kW
    have hnn:=Tt G.out.2.2.2.1 G.out.2.2.2.2.2.1
    cases hu:jK j.nodes k d with
    |true=>
     have e1:decide (qp j.nodes (k+1)).Nodup=false:=decide_eq_false fun h=>by rw[hnn.1 h]at hu;cases hu
     rw[e1]at ct
     have F:=Lib.hid (fun w' hk=>show qQ w (dB j) (.returned (.tuple #[.int .i64 (k:Int), .int .i64 121])) w' from⟨by rw[BO HO.out hlt G.out.2.2.2.2.2.2.1 (SK G.out.2.2.2.1 HM.out hu) (by decide)],hk⟩)
     clear hu hnn e1
     go_wp2_with (first|(at_builtin;refine wpList_append_run rfl (.tmp 53) (.tmp 56) 115 rfl _ _ _ rfl rfl p1 ?_)|(go_at_call 59;refine ct.mono ?_;rintro e w3 ⟨rfl,rfl⟩))
     go_ret2
     exact F.out _ (K0.out.trans P.out.2)
    |false=>
     have e1:decide (qp j.nodes (k+1)).Nodup=true:=decide_eq_true (hnn.2 hu)
     rw[e1]at ct
     have F:=Lib.hid (And.intro (hnn.2 hu) (show∀m,m<k+1->kY j.nodes m=0 from fun m hm=>by
      by_cases h:m<k
      ·exact G.out.2.2.2.2.2.2.1 m h
      ·have:m=k:=by omega
       subst this
       exact(sF G.out.2.2.2.1).2 ⟨HM.out,hu⟩))
     clear hu hnn e1
     go_wp2_with (first|(at_builtin;refine wpList_append_run rfl (.tmp 53) (.tmp 56) 115 rfl _ _ _ rfl rfl p1 ?_)|(go_at_call 59;refine ct.mono ?_;rintro e w3 ⟨rfl,rfl⟩))
     go_roundg (j.nodes.length-(k+1))
     case rel=>exact⟨k+1,by omega,by go_num,Nat.le_refl _,P.out.1,P.out.2,F.out.1,F.out.2⟩
     case measure=>have:=G.out.1;omega
  ·have e1:k=j.nodes.length:=by omega
   subst e1
   have x1:=hkp.cell (fun h=>h) HX.out.2
   have KB:=Lib.hid (K0.out.trans hkp)
   have HXB:=Lib.hid (And.intro (hkp.cell (fun h=>h) HX.out.1) x1)
   have HB:=Lib.hid hbad
   clear hown hkp hnd hbad HX K0 hg hlt
   go_wp2_with fail
   clear x1
   generalize wr=WB at*
   go_loopg [8,9,65] j.nodes.length (fun g vf vo vi w2=> ∃(k:Nat),k<=j.nodes.length/\vi= .int .i64 (k:Int)/\j.nodes.length-k<=g/\vf= .int .i64 (((j.nodes.take k).countP fun d=>d.kind==4:Nat):Int)/\w2.ownsRow WB.heap.size 3 1 vo k (ints (cO (j.nodes.take k)))/\Kept none' WB w2/\(∀x∈cO (j.nodes.take k),0<=x/\x<=64)/\ ∀m e,m<k->j.nodes[m]?=some e->aX j.nodes m e=false)
   case atStart=>exact⟨0,by omega,rfl,by omega,rfl,World.ownsRow_nil _ _ _ _,Kept.refl _ _,fun x hx=>by simp[cO]at hx,fun m e hm=>by omega⟩
   case round=>
    obtain⟨k,hkl,rfl,hg,rfl,hown,hkp,hwb,hbad⟩:=hrel
    obtain⟨F8,F7,rfl⟩:=dP hown
    by_cases hlt:k<j.nodes.length
    ·obtain⟨d,hd⟩: ∃d,j.nodes[k]?=some d:=⟨_,List.getElem?_eq_getElem hlt⟩
     obtain⟨b,off,pi,ci,p,cap',rfl,hc,hj⟩:=H3.out.1 k d hd
     obtain⟨c0,c1,c2,c3,c4,c5,c6⟩:=hc.kept (KB.out.trans hkp) (fun h=>h)
     have kA:Kept none' wr (wr.alloc (.cells (o7 d pi ci p cap') 79)):=(Kept.refl _ _).alloc _
     have hbB:(wr.alloc (.cells (o7 d pi ci p cap') 79)).heap[wr.heap.size]?=some (.cells (o7 d pi ci p cap') 79 (0,0)):=heap_alloc_new _ _
     obtain⟨ac1,hlow⟩:=QC ((sF hd).1 (HB.out k hlt)).1
     have hin:Reads w 1 (.slice pi d.ins.length ci) (ints d.ins):=by
      obtain⟨_,_,_,_,e,_,hx,_⟩:=hj
      injection e with e
      simp only[List.cons.injEq,and_true,true_and]at e
      obtain⟨e1,e2⟩:=e
      rw[e1];exact hx
     have hkind:0<=d.kind/\d.kind<=255:=by
      obtain⟨_,_,_,_,e,_,_,_,h4,h5,_⟩:=hj
      exact⟨h4,h5⟩
     obtain⟨ti,hi3,hz3,hs3,hb3⟩:=rM
     obtain⟨g',cap2,w',p1,p2,p3⟩:=pK (x:= .int .i64 0) (bytes:=8) Tryz.underlying74 hi3 hz3 hs3 hb3 rfl rfl (kA.owns hown (fun _ _ h=>h)) (by omega) (by omega) (Nat.le_trans hkp.size kA.size) 45
     have hne:(Value.slice F8 k F7).ownBlock≠some wr.heap.size:=fun e=>by have:=(kP hown e).2;omega
     have afY:w'.heap[wr.heap.size]?=some (.cells (o7 d pi ci p cap') 79 (0,0)):=p3.heap hbB hne
     have kN:Kept none' WB w':=(hkp.trans kA).new p3 (fun i hi hs=>by have h1:=(kP hown hs).1;omega)
     have hrow:w'.ownsRow WB.heap.size 3 1 (.slice (some ⟨g',0,none⟩) (k+1) cap2) (k+1) (ints (cO (j.nodes.take k)++[iW (cO (j.nodes.take k)) d.ins 0])):=by
      unfold ints at p2⊢
      rw[List.map_append]
      exact p2
     have G:=Lib.hid (And.intro hg (And.intro hd (And.intro hbad (And.intro hin (And.intro hlow (And.intro hwb hj))))))
     have P:=Lib.hid (And.intro hrow (And.intro kN afY))
     rw[World.size_alloc]at p1
     have P1:=Lib.hid p1
     have hwl:(cO (j.nodes.take k)).length=k:=by rw[pF,List.length_take];omega
     have hfl:(j.nodes.take k).countP (fun d=>d.kind==4)<=k:=Nat.le_trans List.countP_le_length (by rw[List.length_take];omega)
     have HWL:=Lib.hid (And.intro hwl hfl)
     have i1:(o7 d pi ci p cap')[1]?=some (.int .u8 d.kind):=rfl
     clear hc hd hbad hg hown hkp hin hlow hwb hj hi3 hz3 hs3 hb3 p1 p2 p3 hne hbB afY kN hrow kA hwl hfl i1
     go_wp2_with (at_builtin;refine wpList_append_run rfl (.tmp 70) (.tmp 71) 74 rfl _ _ _ rfl rfl P1.out ?_;have y2:w'.cell? ⟨wr.heap.size,2,none⟩=some (.slice pi d.ins.length ci):=cells_at P.out.2.2 rfl)
     generalize wr.heap.size=B at*
     obtain⟨W,hW⟩: ∃W,cO (j.nodes.take k)=W:=⟨_,rfl⟩
     rw[hW]at G P HWL
     have HW:=Lib.hid hW
     clear hW P1 c0 c1 c2 c3 c4 c5 c6
     have INP:=Lib.hid G.out.2.2.2.1
     go_loopg [76] d.ins.length (fun g vi w3=> ∃(m:Nat),m<=d.ins.length/\vi= .int .i64 (m:Int)/\d.ins.length-m<=g/\w3.ownsRow WB.heap.size 3 1 (.slice (some ⟨g',0,none⟩) (k+1) cap2) (k+1) (ints (W++[iW W d.ins m]))/\Kept none' WB w3/\w3.heap[B]?=some (.cells (o7 d pi ci p cap') 79 (0,0)))
     case atStart=>exact⟨0,by omega,rfl,by omega,P.out⟩
     case round=>
      obtain⟨m,hml,rfl,hgm,hown,hkp,hbB⟩:=hrel
      by_cases hmt:m<d.ins.length
      ·obtain⟨x,hx⟩: ∃x,d.ins[m]?=some x:=⟨_,List.getElem?_eq_getElem hmt⟩
       obtain⟨hx0,hx1⟩:=G.out.2.2.2.2.1 x (List.mem_of_getElem? hx)
       obtain⟨xn,rfl⟩:=Int.eq_ofNat_of_zero_le hx0
       obtain⟨pa,pc,pe,_,pcap,hcell⟩:=(INP.out.pure (KB.out.trans hkp)).at
       injection pe with pe1 UQ Qj
       subst pe1 Qj
       obtain⟨bi,BJ,rfl,hcell2⟩:=hcell.resolve_left (fun h=>by rw[h]at hmt;simp at hmt)
       have y0:=hcell2 m _ hx
       clear hcell2
       have hxk:xn<k:=by omega
       have hwl:=HWL.out.1
       have y1:=hown.cellAt k (by omega)
       rw[uS (x:=iW W d.ins m) (by rw[List.getElem?_append_right (by omega),hwl,Nat.sub_self];rfl)]at y1
       have y2:=hown.cellAt xn (by omega)
       rw[uS (x:=W.getD xn 0) (by rw[List.getElem?_append_left (by omega),List.getD_eq_getElem?_getD,List.getElem?_eq_getElem (by omega)];rfl)]at y2
       have y3:=hown.frozenAt k
       have hsb:=wH (ins:=d.ins) G.out.2.2.2.2.2.1 m
       have hgb:=JR G.out.2.2.2.2.2.1 xn
       obtain⟨s1,s2⟩:=(hown.drew).stored k (.int .i64 (iW W d.ins m+W.getD xn 0))
       have hsk:=Dx (W:=W) hx
       have hset:(ints (W++[iW W d.ins m])).set k (.int .i64 (iW W d.ins m+W.getD xn 0))=ints (W++[iW W d.ins (m+1)]):=by
        rw[hsk]
        unfold ints
        rw[List.map_append,List.set_append_right _ _ (by rw[List.length_map];omega),List.length_map,hwl,Nat.sub_self,List.map_append]
        rfl
       rw[hset]at s1
       have hgW:WB.heap.size<=g':=(kP hown (b:=g') rfl).1
       have hgB:g'≠B:=fun e=>row_ne hown hbB (by decide) (by rw[e];rfl)
       have kS:Kept (fun q=>q=g') wr (wr.drew.setCell ⟨g',k,none⟩ (.int .i64 (iW W d.ins m+W.getD xn 0))):=Kept.setCell (S:=fun q=>q=g') (p:=⟨g',k,none⟩) ((Kept.refl (fun q=>q=g') wr).drew) (.inl rfl) _
       have F:=Lib.hid (And.intro s1 (And.intro (hkp.new kS (fun i hi hs=>by omega)) (kS.heap hbB (fun e=>hgB e.symm))))
       have GM:=Lib.hid hgm
       have qk:(k:Int)<(k:Int)+1:=by omega
       have qx:(xn:Int)<(k:Int)+1:=by omega
       have q1: -9223372036854775808<=iW W d.ins m+W.getD xn 0:=by omega
       have q2:iW W d.ins m+W.getD xn 0<=9223372036854775807:=by omega
       clear s1 s2 hset hown hkp hbB hcell kS hgm hsk hx hgB hgW hwl
       go_wp2_with fail
       refine aZ [0,1,2,3,4,5,6,7,8,9,10] (fun W=>Kept none' wr W) (by kernel_rfl) (by kernel_rfl) rfl (Kept.refl _ _).drew ?_
       simp only[List.map_cons,List.map_nil,List.getElem?_toArray,List.getElem?_cons_zero,List.getElem?_cons_succ,Option.getD_some]
       iterate 10 (apply bC rfl rfl;(intro W hW;have z1:=hW.cell (fun h=>h) y1;have z2:=hW.cell (fun h=>h) y2;go_simp;rfl);go_frame)
       apply iC rfl rfl
       intro K hK
       go_wp2_with fail
       refine hK _ _ (fun h=>absurd rfl h) (adp (by kernel_rfl) ?_)
       clear hK
       go_wp2_with fail
       go_roundg (d.ins.length-(m+1))
       case rel=>
        have e64:wrap64 (iW W d.ins m+W[xn]?.getD 0)=iW W d.ins m+W.getD xn 0:=by
         rw[List.getD_eq_getElem?_getD]at q1 q2⊢
         exact ado ⟨q1,q2⟩
        refine⟨m+1,by omega,by go_num,Nat.le_refl _,?_⟩
        rw[e64]
        exact F.out
       case measure=>have:=GM.out;omega
      ·have e1:m=d.ins.length:=by omega
       subst e1
       have hS:=wH (ins:=d.ins) G.out.2.2.2.2.2.1 d.ins.length
       obtain⟨S,hSd⟩: ∃S,iW W d.ins d.ins.length=S:=⟨_,rfl⟩
       rw[hSd]at hown hS
       have hwl:=HWL.out.1
       have hfl:=HWL.out.2
       obtain⟨fl,hfd⟩: ∃fl,(j.nodes.take k).countP (fun d=>d.kind==4)=fl:=⟨_,rfl⟩
       rw[hfd]at hfl
       have hfs:=JY G.out.2.1
       rw[hfd]at hfs
       have hws:=MK G.out.2.1
       have hwg:=Pm G.out.2.1
       rw[HW.out]at hws hwg
       have hwo:=ML W d
       rw[hSd]at hwo
       have y1:=hown.cellAt k (by omega)
       rw[uS (x:=S) (by rw[List.getElem?_append_right (by omega),hwl,Nat.sub_self];rfl)]at y1
       have y3:=hown.frozenAt k
       have c1:wr.cell? ⟨B,1,none⟩=some (.int .u8 d.kind):=cells_at hbB rfl
       have hgW:WB.heap.size<=g':=(kP hown (b:=g') rfl).1
       have hgB:g'≠B:=fun e=>row_ne hown hbB (by decide) (by rw[e];rfl)
       have Ou:=Lib.hid (show aX j.nodes k d=false-> ∀x∈cO (j.nodes.take (k+1)),0<=x/\x<=64 from fun hg x hx=>by
        rw[hws]at hx
        rcases List.mem_append.1 hx with hx|hx
        ·exact G.out.2.2.2.2.2.1 x hx
        ·rw[List.mem_singleton.1 hx]
         have h1: ¬(64<(cO j.nodes).getD k 0):=fun h=>by
          have h2:=(nJ (nodes:=j.nodes) (k:=k) (d:=d) rfl rfl rfl).2 (.inr (.inr (.inr (.inr (.inr h)))))
          rw[hg]at h2;cases h2
         rw[hwg]at h1
         refine⟨?_,by omega⟩
         rw[hwo]
         split
         ·omega
         ·split<;>omega)
       by_cases k1:d.kind=1
       ·skip
        have hn4: ¬d.kind=4:=by omega
        rw[if_pos k1]at hwo
        rw[if_neg hn4,Nat.add_zero]at hfs
        rw[hwo]at hws hwg
        obtain⟨s1,s2⟩:=hown.stored k (.int .i64 (1))
        have hset:(ints (W++[S])).set k (.int .i64 (1))=ints (cO (j.nodes.take (k+1))):=by
         rw[hws]
         unfold ints
         rw[List.map_append,List.set_append_right _ _ (by rw[List.length_map];omega),List.length_map,hwl,Nat.sub_self,List.map_append]
         rfl
        rw[hset]at s1
        have kS:Kept (fun q=>q=g') wr (wr.setCell ⟨g',k,none⟩ (.int .i64 (1))):=Kept.setCell (S:=fun q=>q=g') (p:=⟨g',k,none⟩) (Kept.refl (fun q=>q=g') wr) (.inl rfl) _
        obtain⟨W4,Rz⟩: ∃W4,wr.setCell ⟨g',k,none⟩ (.int .i64 (1))=W4:=⟨_,rfl⟩
        rw[Rz]at s1 kS
        have yA:Kept none' WB W4:=hkp.new kS (fun i hi hs=>by omega)
        have Hy:=kS.heap hbB (fun e=>hgB e.symm)
        have c14:W4.cell? ⟨B,1,none⟩=some (.int .u8 d.kind):=cells_at Hy rfl
        have O9:=s1.cellAt k (by omega)
        rw[hws,uS (x:=1) (by rw[List.getElem?_append_right (by omega),hwl,Nat.sub_self];rfl)]at O9
        have x04:=yA.cell (fun h=>h) HXB.out.1
        have x14:=yA.cell (fun h=>h) HXB.out.2
        have x0':=hkp.cell (fun h=>h) HXB.out.1
        have x1':=hkp.cell (fun h=>h) HXB.out.2
        have hg0:g'≠w.heap.size:=fun e=>by have:=block_lt_of_cell HXB.out.1;simp only at this;omega
        have hg0':w.heap.size≠g':=fun e=>hg0 e.symm
        have cr:=zB j _ k _ (H3.out.2.pure (KB.out.trans yA)) (by omega)
        obtain⟨many,iE⟩: ∃many,fZ j.nodes k=many:=⟨_,rfl⟩
        rw[iE]at cr
        have hsh:=Lib.hid (nJ (d:=d) iE hfs hwg)
        have R:=Lib.hid (And.intro s1 (And.intro yA Hy))
        have FL:=Lib.hid (show Value.int .i64 (fl:Int)= .int .i64 (((j.nodes.take (k+1)).countP (fun d=>d.kind==4):Nat):Int) by rw[show((j.nodes.take (k+1)).countP (fun d=>d.kind==4))=fl from hfs])
        have HY:=Lib.hid (And.intro c14 (And.intro O9 Rz))
        clear hown hkp hbB hgB hgW hws hwg hfs iE hwo hSd s1 s2 kS hset yA Hy c14 O9 x04 x14 Rz
        go_wp2_with fail
        rw[HY.out.2.2]
        have c1:=HY.out.1
        have y1:=HY.out.2.1
        clear hg0 hg0' y3
        (with_reducible refine cr.mono ?_)
        clear cr
        rintro e W5 ⟨ra,rc,rfl,k5⟩
        have c1:=k5.cell (fun h=>h) c1
        have y1:=k5.cell (fun h=>h) y1
        have FB:=Lib.hid (show∀x:Int,x=(k:Int)->aX j.nodes k d=true->qQ w (dB j) (.returned (.tuple #[.int .i64 x, .int .i64 122])) W5 from fun x hx h=>⟨by rw[qC HO.out HB.out G.out.2.1 G.out.2.2.1 h,hx],KB.out.trans (R.out.2.1.trans k5)⟩)
        have K5:=Lib.hid (And.intro k5 hsh.out)
        clear k5 hsh x0' x1'
        by_cases hk0:k=0
        ·have y1z:=y1
         rw[hk0]at y1z
         go_wp2_with fail
         all_goals first
          |(go_ret2
            refine FB.out _ (by omega) (K5.out.2.2 ?_)
            first|(rename_i q1;(try simp only[ak,beq_iff_eq,beq_eq_false_iff_ne,ne_eq]at q1);omega)|(rename_i q1 q2;(try simp only[ak,beq_iff_eq,beq_eq_false_iff_ne,ne_eq]at q1);(try simp only[ak,beq_iff_eq,beq_eq_false_iff_ne,ne_eq]at q2);omega)|(rename_i q1 q2 q3;(try simp only[ak,beq_iff_eq,beq_eq_false_iff_ne,ne_eq]at q1);(try simp only[ak,beq_iff_eq,beq_eq_false_iff_ne,ne_eq]at q2);(try simp only[ak,beq_iff_eq,beq_eq_false_iff_ne,ne_eq]at q3);omega)|(rename_i q1 q2 q3 q4;(try simp only[ak,beq_iff_eq,beq_eq_false_iff_ne,ne_eq]at q1);(try simp only[ak,beq_iff_eq,beq_eq_false_iff_ne,ne_eq]at q2);(try simp only[ak,beq_iff_eq,beq_eq_false_iff_ne,ne_eq]at q3);(try simp only[ak,beq_iff_eq,beq_eq_false_iff_ne,ne_eq]at q4);omega)|(rename_i q1 q2 q3 q4 q5;(try simp only[ak,beq_iff_eq,beq_eq_false_iff_ne,ne_eq]at q1);(try simp only[ak,beq_iff_eq,beq_eq_false_iff_ne,ne_eq]at q2);(try simp only[ak,beq_iff_eq,beq_eq_false_iff_ne,ne_eq]at q3);(try simp only[ak,beq_iff_eq,beq_eq_false_iff_ne,ne_eq]at q4);(try simp only[ak,beq_iff_eq,beq_eq_false_iff_ne,ne_eq]at q5);omega)|(rename_i q1 q2 q3 q4 q5 q6;(try simp only[ak,beq_iff_eq,beq_eq_false_iff_ne,ne_eq]at q1);(try simp only[ak,beq_iff_eq,beq_eq_false_iff_ne,ne_eq]at q2);(try simp only[ak,beq_iff_eq,beq_eq_false_iff_ne,ne_eq]at q3);(try simp only[ak,beq_iff_eq,beq_eq_false_iff_ne,ne_eq]at q4);(try simp only[ak,beq_iff_eq,beq_eq_false_iff_ne,ne_eq]at q5);(try simp only[ak,beq_iff_eq,beq_eq_false_iff_ne,ne_eq]at q6);omega)|(rename_i q1 q2 q3 q4 q5 q6 q7;(try simp only[ak,beq_iff_eq,beq_eq_false_iff_ne,ne_eq]at q1);(try simp only[ak,beq_iff_eq,beq_eq_false_iff_ne,ne_eq]at q2);(try simp only[ak,beq_iff_eq,beq_eq_false_iff_ne,ne_eq]at q3);(try simp only[ak,beq_iff_eq,beq_eq_false_iff_ne,ne_eq]at q4);(try simp only[ak,beq_iff_eq,beq_eq_false_iff_ne,ne_eq]at q5);(try simp only[ak,beq_iff_eq,beq_eq_false_iff_ne,ne_eq]at q6);(try simp only[ak,beq_iff_eq,beq_eq_false_iff_ne,ne_eq]at q7);omega))
          |(have hgood:aX j.nodes k d=false:=by
             cases hsb:aX j.nodes k d with
             |false=>rfl
             |true=>
              have h3:=K5.out.2.1 hsb
              exfalso
              clear hsb
              revert h3
              first|(rename_i q1;(try simp only[ak,beq_iff_eq,beq_eq_false_iff_ne,ne_eq]at q1);intro h3;omega)|(rename_i q1 q2;(try simp only[ak,beq_iff_eq,beq_eq_false_iff_ne,ne_eq]at q1);(try simp only[ak,beq_iff_eq,beq_eq_false_iff_ne,ne_eq]at q2);intro h3;omega)|(rename_i q1 q2 q3;(try simp only[ak,beq_iff_eq,beq_eq_false_iff_ne,ne_eq]at q1);(try simp only[ak,beq_iff_eq,beq_eq_false_iff_ne,ne_eq]at q2);(try simp only[ak,beq_iff_eq,beq_eq_false_iff_ne,ne_eq]at q3);intro h3;omega)|(rename_i q1 q2 q3 q4;(try simp only[ak,beq_iff_eq,beq_eq_false_iff_ne,ne_eq]at q1);(try simp only[ak,beq_iff_eq,beq_eq_false_iff_ne,ne_eq]at q2);(try simp only[ak,beq_iff_eq,beq_eq_false_iff_ne,ne_eq]at q3);(try simp only[ak,beq_iff_eq,beq_eq_false_iff_ne,ne_eq]at q4);intro h3;omega)|(rename_i q1 q2 q3 q4 q5;(try simp only[ak,beq_iff_eq,beq_eq_false_iff_ne,ne_eq]at q1);(try simp only[ak,beq_iff_eq,beq_eq_false_iff_ne,ne_eq]at q2);(try simp only[ak,beq_iff_eq,beq_eq_false_iff_ne,ne_eq]at q3);(try simp only[ak,beq_iff_eq,beq_eq_false_iff_ne,ne_eq]at q4);(try simp only[ak,beq_iff_eq,beq_eq_false_iff_ne,ne_eq]at q5);intro h3;omega)|(rename_i q1 q2 q3 q4 q5 q6;(try simp only[ak,beq_iff_eq,beq_eq_false_iff_ne,ne_eq]at q1);(try simp only[ak,beq_iff_eq,beq_eq_false_iff_ne,ne_eq]at q2);(try simp only[ak,beq_iff_eq,beq_eq_false_iff_ne,ne_eq]at q3);(try simp only[ak,beq_iff_eq,beq_eq_false_iff_ne,ne_eq]at q4);(try simp only[ak,beq_iff_eq,beq_eq_false_iff_ne,ne_eq]at q5);(try simp only[ak,beq_iff_eq,beq_eq_false_iff_ne,ne_eq]at q6);intro h3;omega)|(rename_i q1 q2 q3 q4 q5 q6 q7;(try simp only[ak,beq_iff_eq,beq_eq_false_iff_ne,ne_eq]at q1);(try simp only[ak,beq_iff_eq,beq_eq_false_iff_ne,ne_eq]at q2);(try simp only[ak,beq_iff_eq,beq_eq_false_iff_ne,ne_eq]at q3);(try simp only[ak,beq_iff_eq,beq_eq_false_iff_ne,ne_eq]at q4);(try simp only[ak,beq_iff_eq,beq_eq_false_iff_ne,ne_eq]at q5);(try simp only[ak,beq_iff_eq,beq_eq_false_iff_ne,ne_eq]at q6);(try simp only[ak,beq_iff_eq,beq_eq_false_iff_ne,ne_eq]at q7);intro h3;omega)
            go_roundg (j.nodes.length-(k+1))
            case rel=>
             refine⟨k+1,by omega,by go_num,Nat.le_refl _,by first|exact FL.out|(have h:=FL.out;have hz:fl=0:=(by omega);rw[hz]at h;exact h),by first|exact K5.out.1.owns R.out.1 (fun _ _ h=>h)|(have h:=K5.out.1.owns R.out.1 (fun _ _ h=>h);rw[show k+1=1 by omega]at h⊢;exact h),R.out.2.1.trans K5.out.1,Ou.out hgood,fun m e hm he=>?_⟩
             by_cases h:m<k
             ·exact G.out.2.2.1 m e h he
             ·have e1:m=k:=by omega
              subst e1
              have e2:=G.out.2.1
              rw[he]at e2
              injection e2 with e2
              rw[e2];exact hgood
            case measure=>have:=G.out.1;omega)
        ·skip
         go_wp2_with fail
         all_goals first
          |(go_ret2
            refine FB.out _ (by omega) (K5.out.2.2 ?_)
            first|(rename_i q1;(try simp only[ak,beq_iff_eq,beq_eq_false_iff_ne,ne_eq]at q1);omega)|(rename_i q1 q2;(try simp only[ak,beq_iff_eq,beq_eq_false_iff_ne,ne_eq]at q1);(try simp only[ak,beq_iff_eq,beq_eq_false_iff_ne,ne_eq]at q2);omega)|(rename_i q1 q2 q3;(try simp only[ak,beq_iff_eq,beq_eq_false_iff_ne,ne_eq]at q1);(try simp only[ak,beq_iff_eq,beq_eq_false_iff_ne,ne_eq]at q2);(try simp only[ak,beq_iff_eq,beq_eq_false_iff_ne,ne_eq]at q3);omega)|(rename_i q1 q2 q3 q4;(try simp only[ak,beq_iff_eq,beq_eq_false_iff_ne,ne_eq]at q1);(try simp only[ak,beq_iff_eq,beq_eq_false_iff_ne,ne_eq]at q2);(try simp only[ak,beq_iff_eq,beq_eq_false_iff_ne,ne_eq]at q3);(try simp only[ak,beq_iff_eq,beq_eq_false_iff_ne,ne_eq]at q4);omega)|(rename_i q1 q2 q3 q4 q5;(try simp only[ak,beq_iff_eq,beq_eq_false_iff_ne,ne_eq]at q1);(try simp only[ak,beq_iff_eq,beq_eq_false_iff_ne,ne_eq]at q2);(try simp only[ak,beq_iff_eq,beq_eq_false_iff_ne,ne_eq]at q3);(try simp only[ak,beq_iff_eq,beq_eq_false_iff_ne,ne_eq]at q4);(try simp only[ak,beq_iff_eq,beq_eq_false_iff_ne,ne_eq]at q5);omega)|(rename_i q1 q2 q3 q4 q5 q6;(try simp only[ak,beq_iff_eq,beq_eq_false_iff_ne,ne_eq]at q1);(try simp only[ak,beq_iff_eq,beq_eq_false_iff_ne,ne_eq]at q2);(try simp only[ak,beq_iff_eq,beq_eq_false_iff_ne,ne_eq]at q3);(try simp only[ak,beq_iff_eq,beq_eq_false_iff_ne,ne_eq]at q4);(try simp only[ak,beq_iff_eq,beq_eq_false_iff_ne,ne_eq]at q5);(try simp only[ak,beq_iff_eq,beq_eq_false_iff_ne,ne_eq]at q6);omega)|(rename_i q1 q2 q3 q4 q5 q6 q7;(try simp only[ak,beq_iff_eq,beq_eq_false_iff_ne,ne_eq]at q1);(try simp only[ak,beq_iff_eq,beq_eq_false_iff_ne,ne_eq]at q2);(try simp only[ak,beq_iff_eq,beq_eq_false_iff_ne,ne_eq]at q3);(try simp only[ak,beq_iff_eq,beq_eq_false_iff_ne,ne_eq]at q4);(try simp only[ak,beq_iff_eq,beq_eq_false_iff_ne,ne_eq]at q5);(try simp only[ak,beq_iff_eq,beq_eq_false_iff_ne,ne_eq]at q6);(try simp only[ak,beq_iff_eq,beq_eq_false_iff_ne,ne_eq]at q7);omega))
          |(have hgood:aX j.nodes k d=false:=by
             cases hsb:aX j.nodes k d with
             |false=>rfl
             |true=>
              have h3:=K5.out.2.1 hsb
              exfalso
              clear hsb
              revert h3
              first|(rename_i q1;(try simp only[ak,beq_iff_eq,beq_eq_false_iff_ne,ne_eq]at q1);intro h3;omega)|(rename_i q1 q2;(try simp only[ak,beq_iff_eq,beq_eq_false_iff_ne,ne_eq]at q1);(try simp only[ak,beq_iff_eq,beq_eq_false_iff_ne,ne_eq]at q2);intro h3;omega)|(rename_i q1 q2 q3;(try simp only[ak,beq_iff_eq,beq_eq_false_iff_ne,ne_eq]at q1);(try simp only[ak,beq_iff_eq,beq_eq_false_iff_ne,ne_eq]at q2);(try simp only[ak,beq_iff_eq,beq_eq_false_iff_ne,ne_eq]at q3);intro h3;omega)|(rename_i q1 q2 q3 q4;(try simp only[ak,beq_iff_eq,beq_eq_false_iff_ne,ne_eq]at q1);(try simp only[ak,beq_iff_eq,beq_eq_false_iff_ne,ne_eq]at q2);(try simp only[ak,beq_iff_eq,beq_eq_false_iff_ne,ne_eq]at q3);(try simp only[ak,beq_iff_eq,beq_eq_false_iff_ne,ne_eq]at q4);intro h3;omega)|(rename_i q1 q2 q3 q4 q5;(try simp only[ak,beq_iff_eq,beq_eq_false_iff_ne,ne_eq]at q1);(try simp only[ak,beq_iff_eq,beq_eq_false_iff_ne,ne_eq]at q2);(try simp only[ak,beq_iff_eq,beq_eq_false_iff_ne,ne_eq]at q3);(try simp only[ak,beq_iff_eq,beq_eq_false_iff_ne,ne_eq]at q4);(try simp only[ak,beq_iff_eq,beq_eq_false_iff_ne,ne_eq]at q5);intro h3;omega)|(rename_i q1 q2 q3 q4 q5 q6;(try simp only[ak,beq_iff_eq,beq_eq_false_iff_ne,ne_eq]at q1);(try simp only[ak,beq_iff_eq,beq_eq_false_iff_ne,ne_eq]at q2);(try simp only[ak,beq_iff_eq,beq_eq_false_iff_ne,ne_eq]at q3);(try simp only[ak,beq_iff_eq,beq_eq_false_iff_ne,ne_eq]at q4);(try simp only[ak,beq_iff_eq,beq_eq_false_iff_ne,ne_eq]at q5);(try simp only[ak,beq_iff_eq,beq_eq_false_iff_ne,ne_eq]at q6);intro h3;omega)|(rename_i q1 q2 q3 q4 q5 q6 q7;(try simp only[ak,beq_iff_eq,beq_eq_false_iff_ne,ne_eq]at q1);(try simp only[ak,beq_iff_eq,beq_eq_false_iff_ne,ne_eq]at q2);(try simp only[ak,beq_iff_eq,beq_eq_false_iff_ne,ne_eq]at q3);(try simp only[ak,beq_iff_eq,beq_eq_false_iff_ne,ne_eq]at q4);(try simp only[ak,beq_iff_eq,beq_eq_false_iff_ne,ne_eq]at q5);(try simp only[ak,beq_iff_eq,beq_eq_false_iff_ne,ne_eq]at q6);(try simp only[ak,beq_iff_eq,beq_eq_false_iff_ne,ne_eq]at q7);intro h3;omega)
            go_roundg (j.nodes.length-(k+1))
            case rel=>
             refine⟨k+1,by omega,by go_num,Nat.le_refl _,FL.out,K5.out.1.owns R.out.1 (fun _ _ h=>h),R.out.2.1.trans K5.out.1,Ou.out hgood,fun m e hm he=>?_⟩
             by_cases h:m<k
             ·exact G.out.2.2.1 m e h he
             ·have e1:m=k:=by omega
              subst e1
              have e2:=G.out.2.1
              rw[he]at e2
              injection e2 with e2
              rw[e2];exact hgood
            case measure=>have:=G.out.1;omega)
       ·by_cases k4:d.kind=4
        ·skip
         rw[if_neg k1,if_pos k4]at hwo
         rw[if_pos k4]at hfs
         have q1: -9223372036854775808<=S*4:=by omega
         have q2:S*4<=9223372036854775807:=by omega
         rw[hwo]at hws hwg
         obtain⟨s1,s2⟩:=hown.stored k (.int .i64 (S*4))
         have hset:(ints (W++[S])).set k (.int .i64 (S*4))=ints (cO (j.nodes.take (k+1))):=by
          rw[hws]
          unfold ints
          rw[List.map_append,List.set_append_right _ _ (by rw[List.length_map];omega),List.length_map,hwl,Nat.sub_self,List.map_append]
          rfl
         rw[hset]at s1
         have kS:Kept (fun q=>q=g') wr (wr.setCell ⟨g',k,none⟩ (.int .i64 (S*4))):=Kept.setCell (S:=fun q=>q=g') (p:=⟨g',k,none⟩) (Kept.refl (fun q=>q=g') wr) (.inl rfl) _
         obtain⟨W4,Rz⟩: ∃W4,wr.setCell ⟨g',k,none⟩ (.int .i64 (S*4))=W4:=⟨_,rfl⟩
         rw[Rz]at s1 kS
         have yA:Kept none' WB W4:=hkp.new kS (fun i hi hs=>by omega)
         have Hy:=kS.heap hbB (fun e=>hgB e.symm)
         have c14:W4.cell? ⟨B,1,none⟩=some (.int .u8 d.kind):=cells_at Hy rfl
         have O9:=s1.cellAt k (by omega)
         rw[hws,uS (x:=S*4) (by rw[List.getElem?_append_right (by omega),hwl,Nat.sub_self];rfl)]at O9
         have x04:=yA.cell (fun h=>h) HXB.out.1
         have x14:=yA.cell (fun h=>h) HXB.out.2
         have x0':=hkp.cell (fun h=>h) HXB.out.1
         have x1':=hkp.cell (fun h=>h) HXB.out.2
         have hg0:g'≠w.heap.size:=fun e=>by have:=block_lt_of_cell HXB.out.1;simp only at this;omega
         have hg0':w.heap.size≠g':=fun e=>hg0 e.symm
         have cr:=zB j _ k _ (H3.out.2.pure (KB.out.trans yA)) (by omega)
         obtain⟨many,iE⟩: ∃many,fZ j.nodes k=many:=⟨_,rfl⟩
         rw[iE]at cr
         have hsh:=Lib.hid (nJ (d:=d) iE hfs hwg)
         have R:=Lib.hid (And.intro s1 (And.intro yA Hy))
         have FL:=Lib.hid (show Value.int .i64 ((fl:Int)+1)= .int .i64 (((j.nodes.take (k+1)).countP (fun d=>d.kind==4):Nat):Int) by rw[show((j.nodes.take (k+1)).countP (fun d=>d.kind==4))=fl+1 from hfs];rfl)
         have HY:=Lib.hid (And.intro c14 (And.intro O9 Rz))
         clear hown hkp hbB hgB hgW hws hwg hfs iE hwo hSd s1 s2 kS hset yA Hy c14 O9 x04 x14 Rz
         go_wp2_with fail
         rw[HY.out.2.2]
         have c1:=HY.out.1
         have y1:=HY.out.2.1
         clear hg0 hg0' y3
         (with_reducible refine cr.mono ?_)
         clear cr
         rintro e W5 ⟨ra,rc,rfl,k5⟩
         have c1:=k5.cell (fun h=>h) c1
         have y1:=k5.cell (fun h=>h) y1
         have FB:=Lib.hid (show∀x:Int,x=(k:Int)->aX j.nodes k d=true->qQ w (dB j) (.returned (.tuple #[.int .i64 x, .int .i64 122])) W5 from fun x hx h=>⟨by rw[qC HO.out HB.out G.out.2.1 G.out.2.2.1 h,hx],KB.out.trans (R.out.2.1.trans k5)⟩)
         have K5:=Lib.hid (And.intro k5 hsh.out)
         clear k5 hsh x0' x1'
         go_wp2_with fail
         all_goals first
          |(go_ret2
            refine FB.out _ (by omega) (K5.out.2.2 ?_)
            first|(rename_i q1;(try simp only[ak,beq_iff_eq,beq_eq_false_iff_ne,ne_eq]at q1);omega)|(rename_i q1 q2;(try simp only[ak,beq_iff_eq,beq_eq_false_iff_ne,ne_eq]at q1);(try simp only[ak,beq_iff_eq,beq_eq_false_iff_ne,ne_eq]at q2);omega)|(rename_i q1 q2 q3;(try simp only[ak,beq_iff_eq,beq_eq_false_iff_ne,ne_eq]at q1);(try simp only[ak,beq_iff_eq,beq_eq_false_iff_ne,ne_eq]at q2);(try simp only[ak,beq_iff_eq,beq_eq_false_iff_ne,ne_eq]at q3);omega)|(rename_i q1 q2 q3 q4;(try simp only[ak,beq_iff_eq,beq_eq_false_iff_ne,ne_eq]at q1);(try simp only[ak,beq_iff_eq,beq_eq_false_iff_ne,ne_eq]at q2);(try simp only[ak,beq_iff_eq,beq_eq_false_iff_ne,ne_eq]at q3);(try simp only[ak,beq_iff_eq,beq_eq_false_iff_ne,ne_eq]at q4);omega)|(rename_i q1 q2 q3 q4 q5;(try simp only[ak,beq_iff_eq,beq_eq_false_iff_ne,ne_eq]at q1);(try simp only[ak,beq_iff_eq,beq_eq_false_iff_ne,ne_eq]at q2);(try simp only[ak,beq_iff_eq,beq_eq_false_iff_ne,ne_eq]at q3);(try simp only[ak,beq_iff_eq,beq_eq_false_iff_ne,ne_eq]at q4);(try simp only[ak,beq_iff_eq,beq_eq_false_iff_ne,ne_eq]at q5);omega)|(rename_i q1 q2 q3 q4 q5 q6;(try simp only[ak,beq_iff_eq,beq_eq_false_iff_ne,ne_eq]at q1);(try simp only[ak,beq_iff_eq,beq_eq_false_iff_ne,ne_eq]at q2);(try simp only[ak,beq_iff_eq,beq_eq_false_iff_ne,ne_eq]at q3);(try simp only[ak,beq_iff_eq,beq_eq_false_iff_ne,ne_eq]at q4);(try simp only[ak,beq_iff_eq,beq_eq_false_iff_ne,ne_eq]at q5);(try simp only[ak,beq_iff_eq,beq_eq_false_iff_ne,ne_eq]at q6);omega)|(rename_i q1 q2 q3 q4 q5 q6 q7;(try simp only[ak,beq_iff_eq,beq_eq_false_iff_ne,ne_eq]at q1);(try simp only[ak,beq_iff_eq,beq_eq_false_iff_ne,ne_eq]at q2);(try simp only[ak,beq_iff_eq,beq_eq_false_iff_ne,ne_eq]at q3);(try simp only[ak,beq_iff_eq,beq_eq_false_iff_ne,ne_eq]at q4);(try simp only[ak,beq_iff_eq,beq_eq_false_iff_ne,ne_eq]at q5);(try simp only[ak,beq_iff_eq,beq_eq_false_iff_ne,ne_eq]at q6);(try simp only[ak,beq_iff_eq,beq_eq_false_iff_ne,ne_eq]at q7);omega))
          |(have hgood:aX j.nodes k d=false:=by
             cases hsb:aX j.nodes k d with
             |false=>rfl
             |true=>
              have h3:=K5.out.2.1 hsb
              exfalso
              clear hsb
              revert h3
              first|(rename_i q1;(try simp only[ak,beq_iff_eq,beq_eq_false_iff_ne,ne_eq]at q1);intro h3;omega)|(rename_i q1 q2;(try simp only[ak,beq_iff_eq,beq_eq_false_iff_ne,ne_eq]at q1);(try simp only[ak,beq_iff_eq,beq_eq_false_iff_ne,ne_eq]at q2);intro h3;omega)|(rename_i q1 q2 q3;(try simp only[ak,beq_iff_eq,beq_eq_false_iff_ne,ne_eq]at q1);(try simp only[ak,beq_iff_eq,beq_eq_false_iff_ne,ne_eq]at q2);(try simp only[ak,beq_iff_eq,beq_eq_false_iff_ne,ne_eq]at q3);intro h3;omega)|(rename_i q1 q2 q3 q4;(try simp only[ak,beq_iff_eq,beq_eq_false_iff_ne,ne_eq]at q1);(try simp only[ak,beq_iff_eq,beq_eq_false_iff_ne,ne_eq]at q2);(try simp only[ak,beq_iff_eq,beq_eq_false_iff_ne,ne_eq]at q3);(try simp only[ak,beq_iff_eq,beq_eq_false_iff_ne,ne_eq]at q4);intro h3;omega)|(rename_i q1 q2 q3 q4 q5;(try simp only[ak,beq_iff_eq,beq_eq_false_iff_ne,ne_eq]at q1);(try simp only[ak,beq_iff_eq,beq_eq_false_iff_ne,ne_eq]at q2);(try simp only[ak,beq_iff_eq,beq_eq_false_iff_ne,ne_eq]at q3);(try simp only[ak,beq_iff_eq,beq_eq_false_iff_ne,ne_eq]at q4);(try simp only[ak,beq_iff_eq,beq_eq_false_iff_ne,ne_eq]at q5);intro h3;omega)|(rename_i q1 q2 q3 q4 q5 q6;(try simp only[ak,beq_iff_eq,beq_eq_false_iff_ne,ne_eq]at q1);(try simp only[ak,beq_iff_eq,beq_eq_false_iff_ne,ne_eq]at q2);(try simp only[ak,beq_iff_eq,beq_eq_false_iff_ne,ne_eq]at q3);(try simp only[ak,beq_iff_eq,beq_eq_false_iff_ne,ne_eq]at q4);(try simp only[ak,beq_iff_eq,beq_eq_false_iff_ne,ne_eq]at q5);(try simp only[ak,beq_iff_eq,beq_eq_false_iff_ne,ne_eq]at q6);intro h3;omega)|(rename_i q1 q2 q3 q4 q5 q6 q7;(try simp only[ak,beq_iff_eq,beq_eq_false_iff_ne,ne_eq]at q1);(try simp only[ak,beq_iff_eq,beq_eq_false_iff_ne,ne_eq]at q2);(try simp only[ak,beq_iff_eq,beq_eq_false_iff_ne,ne_eq]at q3);(try simp only[ak,beq_iff_eq,beq_eq_false_iff_ne,ne_eq]at q4);(try simp only[ak,beq_iff_eq,beq_eq_false_iff_ne,ne_eq]at q5);(try simp only[ak,beq_iff_eq,beq_eq_false_iff_ne,ne_eq]at q6);(try simp only[ak,beq_iff_eq,beq_eq_false_iff_ne,ne_eq]at q7);intro h3;omega)
            go_roundg (j.nodes.length-(k+1))
            case rel=>
             refine⟨k+1,by omega,by go_num,Nat.le_refl _,FL.out,K5.out.1.owns R.out.1 (fun _ _ h=>h),R.out.2.1.trans K5.out.1,Ou.out hgood,fun m e hm he=>?_⟩
             by_cases h:m<k
             ·exact G.out.2.2.1 m e h he
             ·have e1:m=k:=by omega
              subst e1
              have e2:=G.out.2.1
              rw[he]at e2
              injection e2 with e2
              rw[e2];exact hgood
            case measure=>have:=G.out.1;omega)
        ·rw[if_neg k1,if_neg k4,Int.mul_one]at hwo
         rw[if_neg k4,Nat.add_zero]at hfs
         rw[hwo]at hws hwg
         rw[<-hws]at hown
         have x0:=hkp.cell (fun h=>h) HXB.out.1
         have x1:=hkp.cell (fun h=>h) HXB.out.2
         have cr:=zB j _ k _ (H3.out.2.pure (KB.out.trans hkp)) (by omega)
         obtain⟨many,iE⟩: ∃many,fZ j.nodes k=many:=⟨_,rfl⟩
         rw[iE]at cr
         have hsh:=Lib.hid (nJ (d:=d) iE hfs hwg)
         have R:=Lib.hid (And.intro hown (And.intro hkp hbB))
         have FL:=Lib.hid (show Value.int .i64 (fl:Int)= .int .i64 (((j.nodes.take (k+1)).countP (fun d=>d.kind==4):Nat):Int) by rw[<-hfs];rfl)
         clear hown hkp hbB hgB hgW hws hwg hfs iE hwo hSd
         go_wp2_with fail
         (with_reducible refine cr.mono ?_)
         clear cr
         rintro e W5 ⟨ra,rc,rfl,k5⟩
         have c1:=k5.cell (fun h=>h) c1
         have y1:=k5.cell (fun h=>h) y1
         have FB:=Lib.hid (show∀x:Int,x=(k:Int)->aX j.nodes k d=true->qQ w (dB j) (.returned (.tuple #[.int .i64 x, .int .i64 122])) W5 from fun x hx h=>⟨by rw[qC HO.out HB.out G.out.2.1 G.out.2.2.1 h,hx],KB.out.trans (R.out.2.1.trans k5)⟩)
         have K5:=Lib.hid (And.intro k5 hsh.out)
         clear k5 hsh x0 x1
         go_wp2_with fail
         all_goals first
          |(go_ret2
            refine FB.out _ (by omega) (K5.out.2.2 ?_)
            first|(rename_i q1;(try simp only[ak,beq_iff_eq,beq_eq_false_iff_ne,ne_eq]at q1);omega)|(rename_i q1 q2;(try simp only[ak,beq_iff_eq,beq_eq_false_iff_ne,ne_eq]at q1);(try simp only[ak,beq_iff_eq,beq_eq_false_iff_ne,ne_eq]at q2);omega)|(rename_i q1 q2 q3;(try simp only[ak,beq_iff_eq,beq_eq_false_iff_ne,ne_eq]at q1);(try simp only[ak,beq_iff_eq,beq_eq_false_iff_ne,ne_eq]at q2);(try simp only[ak,beq_iff_eq,beq_eq_false_iff_ne,ne_eq]at q3);omega)|(rename_i q1 q2 q3 q4;(try simp only[ak,beq_iff_eq,beq_eq_false_iff_ne,ne_eq]at q1);(try simp only[ak,beq_iff_eq,beq_eq_false_iff_ne,ne_eq]at q2);(try simp only[ak,beq_iff_eq,beq_eq_false_iff_ne,ne_eq]at q3);(try simp only[ak,beq_iff_eq,beq_eq_false_iff_ne,ne_eq]at q4);omega)|(rename_i q1 q2 q3 q4 q5;(try simp only[ak,beq_iff_eq,beq_eq_false_iff_ne,ne_eq]at q1);(try simp only[ak,beq_iff_eq,beq_eq_false_iff_ne,ne_eq]at q2);(try simp only[ak,beq_iff_eq,beq_eq_false_iff_ne,ne_eq]at q3);(try simp only[ak,beq_iff_eq,beq_eq_false_iff_ne,ne_eq]at q4);(try simp only[ak,beq_iff_eq,beq_eq_false_iff_ne,ne_eq]at q5);omega)|(rename_i q1 q2 q3 q4 q5 q6;(try simp only[ak,beq_iff_eq,beq_eq_false_iff_ne,ne_eq]at q1);(try simp only[ak,beq_iff_eq,beq_eq_false_iff_ne,ne_eq]at q2);(try simp only[ak,beq_iff_eq,beq_eq_false_iff_ne,ne_eq]at q3);(try simp only[ak,beq_iff_eq,beq_eq_false_iff_ne,ne_eq]at q4);(try simp only[ak,beq_iff_eq,beq_eq_false_iff_ne,ne_eq]at q5);(try simp only[ak,beq_iff_eq,beq_eq_false_iff_ne,ne_eq]at q6);omega)|(rename_i q1 q2 q3 q4 q5 q6 q7;(try simp only[ak,beq_iff_eq,beq_eq_false_iff_ne,ne_eq]at q1);(try simp only[ak,beq_iff_eq,beq_eq_false_iff_ne,ne_eq]at q2);(try simp only[ak,beq_iff_eq,beq_eq_false_iff_ne,ne_eq]at q3);(try simp only[ak,beq_iff_eq,beq_eq_false_iff_ne,ne_eq]at q4);(try simp only[ak,beq_iff_eq,beq_eq_false_iff_ne,ne_eq]at q5);(try simp only[ak,beq_iff_eq,beq_eq_false_iff_ne,ne_eq]at q6);(try simp only[ak,beq_iff_eq,beq_eq_false_iff_ne,ne_eq]at q7);omega))
          |(have hgood:aX j.nodes k d=false:=by
             cases hsb:aX j.nodes k d with
             |false=>rfl
             |true=>
              have h3:=K5.out.2.1 hsb
              exfalso
              clear hsb
              revert h3
              first|(rename_i q1;(try simp only[ak,beq_iff_eq,beq_eq_false_iff_ne,ne_eq]at q1);intro h3;omega)|(rename_i q1 q2;(try simp only[ak,beq_iff_eq,beq_eq_false_iff_ne,ne_eq]at q1);(try simp only[ak,beq_iff_eq,beq_eq_false_iff_ne,ne_eq]at q2);intro h3;omega)|(rename_i q1 q2 q3;(try simp only[ak,beq_iff_eq,beq_eq_false_iff_ne,ne_eq]at q1);(try simp only[ak,beq_iff_eq,beq_eq_false_iff_ne,ne_eq]at q2);(try simp only[ak,beq_iff_eq,beq_eq_false_iff_ne,ne_eq]at q3);intro h3;omega)|(rename_i q1 q2 q3 q4;(try simp only[ak,beq_iff_eq,beq_eq_false_iff_ne,ne_eq]at q1);(try simp only[ak,beq_iff_eq,beq_eq_false_iff_ne,ne_eq]at q2);(try simp only[ak,beq_iff_eq,beq_eq_false_iff_ne,ne_eq]at q3);(try simp only[ak,beq_iff_eq,beq_eq_false_iff_ne,ne_eq]at q4);intro h3;omega)|(rename_i q1 q2 q3 q4 q5;(try simp only[ak,beq_iff_eq,beq_eq_false_iff_ne,ne_eq]at q1);(try simp only[ak,beq_iff_eq,beq_eq_false_iff_ne,ne_eq]at q2);(try simp only[ak,beq_iff_eq,beq_eq_false_iff_ne,ne_eq]at q3);(try simp only[ak,beq_iff_eq,beq_eq_false_iff_ne,ne_eq]at q4);(try simp only[ak,beq_iff_eq,beq_eq_false_iff_ne,ne_eq]at q5);intro h3;omega)|(rename_i q1 q2 q3 q4 q5 q6;(try simp only[ak,beq_iff_eq,beq_eq_false_iff_ne,ne_eq]at q1);(try simp only[ak,beq_iff_eq,beq_eq_false_iff_ne,ne_eq]at q2);(try simp only[ak,beq_iff_eq,beq_eq_false_iff_ne,ne_eq]at q3);(try simp only[ak,beq_iff_eq,beq_eq_false_iff_ne,ne_eq]at q4);(try simp only[ak,beq_iff_eq,beq_eq_false_iff_ne,ne_eq]at q5);(try simp only[ak,beq_iff_eq,beq_eq_false_iff_ne,ne_eq]at q6);intro h3;omega)|(rename_i q1 q2 q3 q4 q5 q6 q7;(try simp only[ak,beq_iff_eq,beq_eq_false_iff_ne,ne_eq]at q1);(try simp only[ak,beq_iff_eq,beq_eq_false_iff_ne,ne_eq]at q2);(try simp only[ak,beq_iff_eq,beq_eq_false_iff_ne,ne_eq]at q3);(try simp only[ak,beq_iff_eq,beq_eq_false_iff_ne,ne_eq]at q4);(try simp only[ak,beq_iff_eq,beq_eq_false_iff_ne,ne_eq]at q5);(try simp only[ak,beq_iff_eq,beq_eq_false_iff_ne,ne_eq]at q6);(try simp only[ak,beq_iff_eq,beq_eq_false_iff_ne,ne_eq]at q7);intro h3;omega)
            go_roundg (j.nodes.length-(k+1))
            case rel=>
             refine⟨k+1,by omega,by go_num,Nat.le_refl _,FL.out,K5.out.1.owns R.out.1 (fun _ _ h=>h),R.out.2.1.trans K5.out.1,Ou.out hgood,fun m e hm he=>?_⟩
             by_cases h:m<k
             ·exact G.out.2.2.1 m e h he
             ·have e1:m=k:=by omega
              subst e1
              have e2:=G.out.2.1
              rw[he]at e2
              injection e2 with e2
              rw[e2];exact hgood
            case measure=>have:=G.out.1;omega)
    ·have e1:k=j.nodes.length:=by omega
     subst e1
     have F:=Lib.hid (show qQ w (dB j) (.returned (.tuple #[.int .i64 0, .int .i64 0])) wr from⟨by rw[LJ HO.out HB.out hbad],KB.out.trans hkp⟩)
     clear hown hkp hbad hg hlt
     go_wp2_with fail
     go_ret2
     exact F.out
end Go.Proofs.YtakhobfamnjnoaaGreatDoor
