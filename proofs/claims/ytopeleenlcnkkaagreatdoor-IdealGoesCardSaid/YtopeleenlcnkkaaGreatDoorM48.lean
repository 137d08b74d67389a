/- How many bytes states have. -/
import Derived.Test.YtopeleenlcnkkaaGreatDoorM47
set_option linter.unusedVariables false
set_option linter.unusedSimpArgs false
set_option maxHeartbeats 2000000
set_option maxRecDepth 100000
namespace Go.Proofs.YtopeleenlcnkkaaGreatDoor
section
open Go Go.RowKit
theorem dV.uids {w:World}{v:Value}{L:List JN}(h:dV w v L): ∀d∈L,d.uid.size<=maxLen:=fun d hd=>by
 obtain⟨cs,h1,h2,h3⟩:=h
 obtain⟨i,hi⟩:=List.getElem?_of_mem hd
 obtain⟨pi,ci,p,c,_,_,_,_,_,_,_,h⟩:=h3 i d hi
 exact h
theorem V4 {T:Tab}(h:dB T):(strOf (aV (lq T))).size<=maxLen:=by
 obtain⟨h1,h2⟩:=rows_ok h.key h.cell
 have hl:=h.len
 have h3: ∀n∈lq T,aK n:=by
  intro n hn
  unfold lq at hn
  rcases List.mem_cons.1 hn with rfl|hn
  ·exact .small (by omega) (by omega)
  ·exact h1 n hn
 have h4:=rF h3
 rw[CX]
 unfold lq at h4⊢
 rw[List.length_cons]at h4
 unfold maxLen
 omega
theorem wJ {nodes:List JN}{Ts:Tabs}(hT:bY nodes Ts)(hu: ∀d∈nodes,d.uid.size<=maxLen): ∀s∈aB nodes Ts,s.1.size<=maxLen/\s.2.size<=maxLen:=fun s hs=>by
 obtain⟨i,d,T,hd,zS,rfl⟩:=nX hs
 refine⟨hu d (List.mem_of_getElem? hd),?_⟩
 cases hst:stateful d.kind with
 |false=>rw[hT.not i d hd hst]at zS;cases zS
 |true=>
  obtain⟨U,hU,hok,_⟩:=hT.has i d hd hst
  rw[hU]at zS
  cases zS
  exact V4 hok
theorem TB (nodes:List JN)(Ts:Tabs):(aB nodes Ts).length<=nodes.length:=by
 unfold aB
 refine Nat.le_trans (List.length_filterMap_le _ _) ?_
 rw[List.length_zip];omega
end
section
open Go Go.RowKit
attribute [local irreducible] bU dW H2.dG
abbrev TM:ByteArray:=⟨#[114]⟩
abbrev Uu:ByteArray:=⟨#[2,10,4,0]⟩
theorem Ut (u:ByteArray)(w:World):Calls Tryz.prog 41 #[.string u, .bool true] w fun e w'=> ∃v,e= .returned v/\Reads w' 2 v (fU [(u,Uu)])/\Kept none' w w':=by
 have hlit:=Reads.lit w [.string u, .string Uu] 33 2 1 rfl (by unfold maxLen;omega)
 have HL:=Lib.hid hlit
 clear hlit
 go_enter Tryz.func41,Tryz.ntmps41
 go_wp2_with fail
 go_ret
 exact⟨_,rfl,HL.out,(Kept.refl _ _).alloc _⟩
def J8:Jb:=⟨2,oP⟩
def Qe:Jb:=⟨2,Qd⟩
theorem Qh:dA J8 Qe [(TM,Uu)]=(TM,240):=by kernel_rfl
theorem oK (w:World)(m:Int)(hm:w.cell? ⟨0,0,none⟩=some (.int .i64 m)):Calls Tryz.prog 16 #[] w (Gives w (.bool true)):=by
 have c1:=BN PU 2 oP w CU m hm
 have HM:=Lib.hid hm
 clear hm
 go_enter Tryz.func16,Tryz.ntmps16
 go_wp2_with fail
 (with_reducible refine c1.mono ?_)
 clear c1
 rintro e w1 ⟨va,J,lo,D,rfl,hj,hJ,k1⟩
 have hja:=hj.job
 obtain⟨pO,oL,hva⟩: ∃a c,va= .slice a 3 c:=by obtain⟨a,c,h,_⟩:=hja.zy.at;exact⟨a,c,h⟩
 subst hva
 have c2:=BN Yt 2 Qd w1 Qc m (k1.cell (p:=⟨0,0,none⟩) (fun h=>h) HM.out)
 have K1:=Lib.hid (And.intro hja k1)
 clear hja k1 hj hJ
 go_wp2_with fail
 (with_reducible refine c2.mono ?_)
 clear c2
 rintro e w2 ⟨vb,J',lo',D',rfl,hj,hJ,k2⟩
 have hjb:=hj.job
 obtain⟨vb1,qA,hvb⟩: ∃a c,vb= .slice a 3 c:=by obtain⟨a,c,h,_⟩:=hjb.zy.at;exact⟨a,c,h⟩
 subst hvb
 have kA:Kept none' w2 ((w2.alloc (.cells #[.int .i64 2, .slice pO 3 oL] 24)).alloc (.cells #[.int .i64 2, .slice vb1 3 qA] 24)):=((Kept.refl _ _).alloc _).alloc _
 have t0:((w2.alloc (.cells #[.int .i64 2, .slice pO 3 oL] 24)).alloc (.cells #[.int .i64 2, .slice vb1 3 qA] 24)).heap[w2.heap.size]?=some (.cells #[.int .i64 2, .slice pO 3 oL] 24 (0,0)):=((Kept.refl none' _).alloc _).heap (heap_alloc_new w2 _) (fun h=>h)
 have t1:((w2.alloc (.cells #[.int .i64 2, .slice pO 3 oL] 24)).alloc (.cells #[.int .i64 2, .slice vb1 3 qA] 24)).heap[w2.heap.size+1]?=some (.cells #[.int .i64 2, .slice vb1 3 qA] 24 (0,0)):=by
  have:=heap_alloc_new (w2.alloc (.cells #[.int .i64 2, .slice pO 3 oL] 24)) (.cells #[.int .i64 2, .slice vb1 3 qA] 24)
  rwa[World.size_alloc]at this
 obtain⟨W3,hW3⟩: ∃W3,((w2.alloc (.cells #[.int .i64 2, .slice pO 3 oL] 24)).alloc (.cells #[.int .i64 2, .slice vb1 3 qA] 24))=W3:=⟨_,rfl⟩
 rw[hW3]at kA t0 t1
 have p0:=cells_at t0 (j:=0) (v:= .int .i64 2) rfl
 have p1:=cells_at t0 (j:=1) (v:= .slice pO 3 oL) rfl
 have r0:=cells_at t1 (j:=0) (v:= .int .i64 2) rfl
 have r1:=cells_at t1 (j:=1) (v:= .slice vb1 3 qA) rfl
 have K2:=Lib.hid (And.intro (K1.out.1.pure (k2.trans kA)) (And.intro (hjb.pure kA) (K1.out.2.trans (k2.trans kA))))
 have HW:=Lib.hid hW3
 clear hjb k2 hj hJ kA t0 t1 hW3
 go_wp2_with fail
 rw[HW.out]
 clear HW
 refine ak [0,1,2,3,4,5,6,7,8] (fun W=>Kept none' W3 W) (by kernel_rfl) (by kernel_rfl) rfl (Kept.refl _ _).drew ?_
 simp only[List.map_cons,List.map_nil,List.getElem?_toArray,List.getElem?_cons_zero,List.getElem?_cons_succ,Option.getD_some]
 iterate 2 (apply aj rfl rfl;(intro W hW;have a0:=hW.cell (p:=⟨w2.heap.size,0,none⟩) (fun h=>h) p0;have a1:=hW.cell (p:=⟨w2.heap.size,1,none⟩) (fun h=>h) p1;have b0:=hW.cell (p:=⟨w2.heap.size+1,0,none⟩) (fun h=>h) r0;have b1:=hW.cell (p:=⟨w2.heap.size+1,1,none⟩) (fun h=>h) r1;go_simp;rfl);go_frame)
 clear p0 p1 r0 r1
 apply aA rfl rfl
 intro K hK
 go_wp2_with fail
 (with_reducible refine(Ut TM W3.drew).mono ?_)
 rintro e w4 ⟨v4,rfl,hv4,k4⟩
 have uf:Kept none' W3 w4:=(Kept.refl none' W3).drew.trans k4
 obtain⟨v4a,v4c,aev,-⟩:=hv4.jM
 subst aev
 go_wp2_with fail
 refine hK _ _ (fun _=>uf) ?_
 clear hK
 have cc:=check_any J8 Qe _ _ _ [(TM,Uu)] w4 (K2.out.1.pure uf) (K2.out.2.1.pure uf) hv4 (by intro s hs;simp at hs;subst hs;decide)
 rw[Qh,show J8.par=2 from rfl,show Qe.par=2 from rfl,show([(TM,Uu)]:List St).length=1 from rfl]at cc
 have K4:=Lib.hid uf
 clear hv4 k4 uf
 apply aA rfl rfl
 intro K hK
 go_wp2_with fail
 (with_reducible refine cc.mono ?_)
 clear cc
 rintro e w5 ⟨rfl,k5⟩
 have oH:=K4.out.trans k5
 go_wp2_with fail
 refine hK _ _ (fun _=>oH) ?_
 clear hK k5
 iterate 5 (apply aj rfl rfl;(intro W hW;go_simp;rfl);go_frame)
 refine aI (fun _=>oH) ?_
 have F:=Lib.hid (K2.out.2.2.trans oH)
 clear oH
 go_wp2_with fail
 go_ret
 exact⟨rfl,F.out⟩
end
section
open Go Go.RowKit
theorem uq {nodes:List JN}{Ts:Tabs}{s:St}:s∈aB nodes Ts↔ ∃(i:Nat)(d:JN)(T:Tab),nodes[i]?=some d/\Ts[i]?=some (some T)/\s=(d.uid,strOf (aV (lq T))):=
 ⟨nX,fun⟨_,_,_,h1,h2,h3⟩=>h3▸PX h1 h2⟩
theorem PV {nodes:List JN}{Ts:Tabs}{i:Nat}{d:JN}{T:Tab}(hd:nodes[i]?=some d)(hn:Ts[i]?=some none){s:St}:
 s∈aB nodes (Ts.set i (some T))↔s=(d.uid,strOf (aV (lq T)))\/s∈aB nodes Ts:=by
 rw[uq,uq]
 have hlt:=(List.getElem?_eq_some_iff.1 hn).1
 constructor
 ·rintro⟨k,e,U,h1,h2,h3⟩
  rw[List.getElem?_set]at h2
  by_cases hik:i=k
  ·subst hik
   rw[if_pos rfl,if_pos hlt]at h2
   injection h2 with h2;injection h2 with h2;subst h2
   rw[hd]at h1;injection h1 with h1;subst h1
   exact .inl h3
  ·rw[if_neg hik]at h2
   exact .inr ⟨k,e,U,h1,h2,h3⟩
 ·rintro(h|⟨k,e,U,h1,h2,h3⟩)
  ·exact⟨i,d,T,hd,by rw[List.getElem?_set,if_pos rfl,if_pos hlt],h⟩
  ·refine⟨k,e,U,h1,?_,h3⟩
   rw[List.getElem?_set,if_neg ?_]
   ·exact h2
   ·rintro rfl;rw[hn]at h2;cases h2
def Canon (s:St):Prop:= ∃T,dB T/\s.2=strOf (aV (lq T))
theorem Ui {nodes:List JN}{l:List St}{Ts Us:Tabs}(h:oO nodes Ts)(e:dI nodes l Ts= .ok Us):Us.length=nodes.length:=(BQ h e).len
theorem FP {nodes:List JN}: ∀{l:List St}{Ts Us:Tabs},oO nodes Ts->(∀s∈l,Canon s)->dI nodes l Ts= .ok Us-> ∀s,(s∈l\/s∈aB nodes Ts)↔s∈aB nodes Us
 |[],Ts,Us,_,_,e,s=>by injection e with e;subst e;simp
 |x::l,Ts,Us,h,hc,e,s=>by
  obtain⟨X,hX,hx⟩:=hc x (by simp)
  unfold dI at e
  split at e
  ·cases e
  ·rename_i hno
   simp only[not_or,Bool.not_eq_false,Bool.not_eq_true]at hno
   obtain⟨h1,h2,h3⟩:=hno
   rcases kU nodes x.1 with⟨h4,_⟩|⟨i,d,h4,h5,h55,h6,_⟩
   ·omega
   rw[h6]at h2 e
   rw[h4,Int.toNat_natCast]at h3
   have hlt:i<Ts.length:=by rw[h.len];exact(List.getElem?_eq_some_iff.1 h5).1
   have hn:Ts[i]?=some none:=by
    rw[List.getD_eq_getElem?_getD]at h3
    cases g:Ts[i]? with
    |none=>rw[List.getElem?_eq_none_iff]at g;omega
    |some t=>cases t with
     |none=>rfl
     |some T=>rw[g]at h3;simp at h3
   rw[hx,mF,pU hX]at e
   simp only at e
   split at e
   ·rename_i hf
    rw[h4,Int.toNat_natCast]at e
    have ih:=FP (h.set h5 h2 hX hf) (fun t ht=>hc t (by simp[ht])) e s
    rw[PV h5 hn]at ih
    rw[<-ih]
    have hxe:x=(d.uid,strOf (aV (lq X))):=by rw[<-hx,h55]
    rw[<-hxe,List.mem_cons]
    constructor
    ·rintro((h|h)|h)
     ·exact .inr (.inl h)
     ·exact .inl h
     ·exact .inr (.inr h)
    ·rintro(h|h|h)
     ·exact .inl (.inr h)
     ·exact .inl (.inl h)
     ·exact .inr h
   ·cases e
theorem XV {nodes:List JN}{Ts:Tabs}(hl:Ts.length=nodes.length){s:St}(hs:fC s.2≠[]):s∈aB nodes (kF nodes Ts)↔s∈aB nodes Ts:=by
 rw[uq,uq]
 constructor
 ·rintro⟨i,d,T,h1,h2,h3⟩
  obtain⟨t,ht⟩: ∃t,Ts[i]?=some t:=⟨_,List.getElem?_eq_getElem (by rw[hl];exact(List.getElem?_eq_some_iff.1 h1).1)⟩
  rw[qj nodes Ts i h1 ht]at h2
  injection h2 with h2
  split at h2
  ·injection h2 with h2
   subst h2
   exact absurd (by rw[h3];exact pR dB.nil) hs
  ·subst h2
   exact⟨i,d,T,h1,ht,h3⟩
 ·rintro⟨i,d,T,h1,h2,h3⟩
  exact⟨i,d,T,h1,by rw[qj nodes Ts i h1 h2];simp,h3⟩
theorem vG {nodes:List JN}{Ts:Tabs}(h:bY nodes Ts){s:St}(hs:s∈aB nodes Ts):Canon s:=by
 obtain⟨i,d,T,h1,h2,h3⟩:=nX hs
 cases hst:stateful d.kind with
 |false=>have:=h.not i d h1 hst;rw[h2]at this;cases this
 |true=>
  obtain⟨U,hU,hok,_⟩:=h.has i d h1 hst
  rw[h2]at hU;injection hU with hU;injection hU with hU;subst hU
  exact⟨T,hok,by rw[h3]⟩
theorem Oe {a b:Jb}{Ts:Tabs}(hT:bY a.nodes Ts){x:List St}(h:lH a b (aB a.nodes Ts)= .ok x){s:St}(hs:fC s.2≠[]):s∈x↔s∈aB a.nodes Ts:=by
 obtain⟨_,Us,hl,rfl⟩:=MF h
 unfold dH at hl
 split at hl
 ·cases e:dI b.nodes (eX (aB a.nodes Ts)) (bV b.nodes)with
  |error f=>rw[e]at hl;cases hl
  |ok Vs=>
   rw[e]at hl
   injection hl with hl
   subst hl
   rw[XV (Ui (zx _) e) hs,<-FP (zx _) (fun t ht=>vG hT (List.mem_filter.1 ht).1) e s]
   have hno: ¬s∈aB b.nodes (bV b.nodes):=by
    intro hm
    obtain⟨i,d,T,_,h2,_⟩:=nX hm
    unfold bV at h2
    rw[List.getElem?_replicate]at h2
    split at h2<;>simp at h2
   try unfold eX
   rw[List.mem_filter]
   simp[hno,hs]
 ·cases hl
theorem zh {j:Jb}(hj:dw j=true)(Ts:Tabs):((aB j.nodes Ts).map (·.1)).Nodup:=by
 have key: ∀(m k:Nat),k+m=j.nodes.length->((aB (j.nodes.drop k) (Ts.drop k)).map (·.1)).Nodup:=by
  intro m
  induction m with
  |zero=>intro k hk;rw[List.drop_eq_nil_of_le (by omega)];simp[aB]
  |succ m ih=>
   intro k hk
   have hkn:k<j.nodes.length:=by omega
   rw[List.drop_eq_getElem_cons hkn]
   by_cases hkt:k<Ts.length
   ·rw[List.drop_eq_getElem_cons hkt,uM]
    cases Ts[k]with
    |none=>simpa using ih (k+1) (by omega)
    |some T=>
     simp only[List.cons_append,List.nil_append,List.map_cons,List.nodup_cons]
     refine⟨?_,ih (k+1) (by omega)⟩
     intro hm
     obtain⟨s,hs,he⟩:=List.mem_map.1 hm
     obtain⟨i,d,U,h1,_,rfl⟩:=nX hs
     rw[List.getElem?_drop]at h1
     have a1:=qB hj h1
     have a2:=qB hj (List.getElem?_eq_getElem hkn)
     simp only at he
     have e9:((k:Nat):Int)=((k+1+i:Nat):Int):=by rw[<-a1,<-a2,he]
     omega
   ·rw[show Ts.drop k=[]from List.drop_eq_nil_of_le (by omega)]
    simp[aB]
 have:=key j.nodes.length 0 (by omega)
 simpa using this
end
end Go.Proofs.YtopeleenlcnkkaaGreatDoor
