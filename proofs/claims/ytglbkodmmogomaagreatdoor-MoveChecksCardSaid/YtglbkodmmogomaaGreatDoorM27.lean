/- Numbers out of bytes (plain): what is read, and that it is what was put. -/
import Derived.Test.YtglbkodmmogomaaGreatDoorM25
import Derived.Test.YtglbkodmmogomaaGreatDoorM26
set_option linter.unusedVariables false
set_option linter.unusedSimpArgs false
set_option maxHeartbeats 8000000
set_option maxRecDepth 100000
namespace Go.Proofs.YtglbkodmmogomaaGreatDoor
section

end
section
open Go Go.RowKit
theorem GI {α β:Type}{a f:Int}(h:(Rd.err a:Rd α)= .err f):(Rd.err a:Rd β)= .err f:=by injection h with h;rw[h]
theorem row_of {r:List UInt8}{x1 x2 x3:Rd Int}{M:Nat}(h1:numAt aP hi64 (Rd.ok () r)=x1)(h2:numAt aP hi64 x1=x2)(h3:numAt 0 16 x2=x3)(hM:bK 0 x3=(M:Int)):
 (∀f,aU M x3= .err f->row r= .err f)/\(∀ns r4,aU M x3= .ok ns r4->row r= .ok (bK aP x1,(bK aP x2,ns)) r4):=by
 rw[Tc,h1,h2,h3]
 cases x1 with
 |err f1=>
  have e2:x2= .err f1:=by rw[<-h2];rfl
  subst e2
  have e3:x3= .err f1:=by rw[<-h3];rfl
  subst e3
  exact⟨fun f h=>GI (α:=List Int) h,fun ns r4 h=>by cases h⟩
 |ok key r1=>
  cases x2 with
  |err f2=>
   have e3:x3= .err f2:=by rw[<-h3];rfl
   subst e3
   exact⟨fun f h=>GI (α:=List Int) h,fun ns r4 h=>by cases h⟩
  |ok acc r2=>
   cases x3 with
   |err f3=>exact⟨fun f h=>GI (α:=List Int) h,fun ns r4 h=>by cases h⟩
   |ok n r3=>
    have hn:n=(M:Int):=hM
    subst hn
    simp only[Rd.bind,Int.toNat_natCast]
    refine⟨fun f h=>by rw[h],fun ns r4 h=>by rw[h];rfl⟩
theorem Ak (T:Tab)(p:Int×Cell):mD (T++[p])=p.1:=by unfold mD;rw[List.getLast?_append];rfl
theorem iM {T:Tab}{key:Int}:eX T key=((decide (T.length=0)||bD (mD T) key)&&decide (aO T (grp key)<40)):=by
 unfold eX mD
 cases hl:T.getLast? with
 |none=>rw[List.getLast?_eq_none_iff]at hl;subst hl;rfl
 |some q=>
  have:T.length≠0:=fun h=>by rw[List.eq_nil_of_length_eq_zero h]at hl;cases hl
  rw[decide_eq_false this,Bool.false_or]
theorem LX {T:Tab}{k:Int}{c:Cell}:cu (T++[(k,c)])->jE k c T=T++[(k,c)]:=by
 intro h
 have hT:=h.snoc.1
 refine cu.ext hT.jE h fun p=>?_
 have hk: ∀q∈T,q.1≠k:=fun q hq e=>by
  unfold cu at h
  rw[List.pairwise_append]at h
  have:=h.2.2 q hq (k,c) (by simp)
  simp only[e]at this
  rw[dA]at this
  cases this
 rw[jF hT,List.mem_append,List.mem_singleton]
 constructor
 ·rintro(h1|⟨h1,_⟩)
  ·exact .inr h1
  ·exact .inl h1
 ·rintro(h1|h1)
  ·exact .inr ⟨h1,hk p h1⟩
  ·exact .inl h1
theorem TabAt.push {w w':World}{B:Nat->Prop}{b m:Nat}{T:Tab}(h:TabAt w B b m T){l:List (Int×Value)}(hl:dh w m l)(hperm:(l.map (·.1)).Perm (aQ T))
 (hc: ∀p∈l,∃c,(p.1,c)∈T/\CellIs w B p.2 c) {p:Int×Cell} {v:Value} (hl':dh w' m (upd p.1 v l)) (hk:Kept (one m) w w') (hv:CellIs w' B v p.2) (h1:bF p.1) (h2:Hr p.2) (hm:eX T p.1=true):TabAt w' B b m (T++[p]):=by
 have hok:=h.ok.push h1 h2 hm
 have e:jE p.1 p.2 T=T++[p]:=LX (k:=p.1) (c:=p.2) hok.rises
 rw[<-e]
 exact h.put hl hperm hc hl' hk hv (by rw[e];exact hok)
theorem Jf {T:Tab}{p:Int×Cell}{l:List (Int×Value)}(hok:iy (T++[p]))(hperm:(l.map (·.1)).Perm (aQ T)):p.1∉l.map (·.1):=by
 intro hm
 have hm2:=hperm.mem_iff.1 hm
 have hnd:=hok.rises.nodup
 unfold aQ at hnd hm2
 rw[List.map_append,List.nodup_append]at hnd
 exact hnd.2.2 _ hm2 p.1 (by simp) rfl
theorem Nq (w:World)(q:Nat)(os:Array Obj):Kept none' w (Sort.grow (w.drewN q) os):=
 ⟨rfl,rfl,rfl,by simp[Sort.grow,World.drewN],fun k hk _=>by simp[Sort.grow,World.drewN,Array.getElem?_append_left hk]⟩
theorem take_any (s:ByteArray)(hs:s.size<=maxLen)(w:World):Calls Tryz.prog 15 #[.string s] w (fC w s.data.toList):=by
 go_enter Tryz.func15,Tryz.ntmps15
 go_wp2_with fail
 obtain⟨W0,hW0⟩: ∃W0,((w.alloc (.cells #[.string s] 9)).alloc (.cells #[.int .i64 0] 28))=W0:=⟨_,rfl⟩
 have hst:iG W0 (w.heap.size+1) w.heap.size (Rd.ok () s.data.toList):=by
  rw[<-hW0]
  refine⟨by have:=heap_alloc_new (w.alloc (.cells #[.string s] 9)) (.cells #[.int .i64 0] 28);rwa[World.size_alloc]at this,s,?_,rfl,hs⟩
  rw[Below.heap_alloc _ _ _ (by simp)]
  exact heap_alloc_new _ _
 have k0:Kept none' w W0:=by rw[<-hW0];exact((Kept.refl _ _).alloc _).alloc _
 have hs0:W0.heap.size=w.heap.size+2:=by rw[<-hW0];simp
 rw[hW0]
 clear hW0
 obtain⟨S,hS⟩: ∃S,w.heap.size=S:=⟨_,rfl⟩
 obtain⟨E,hE⟩: ∃E,S+1=E:=⟨_,rfl⟩
 rw[hS,hE]at hst⊢
 rw[hS]at hs0
 refine(new_any W0).mono ?_
 rintro e W1 ⟨b,m,rfl,t1,k1⟩
 have rZ:E≠S:=by omega
 have I0:qI w W1 (yC w E S) E S b m [] (Rd.ok () s.data.toList):=⟨hst.kept k1 (fun h=>h) (fun h=>h),t1.mono (fun k hk _=>by unfold up at hk;omega),k0.trans k1⟩
 have J0:=Lib.hid I0
 have tJ:=Lib.hid (And.intro hS hE)
 clear I0 hst k0 hs0 t1 k1 hS hE
 go_wp2_with fail
 (with_reducible refine(ou 0 320 E S (Rd.ok () s.data.toList) W1 rZ J0.out.st).mono ?_)
 rintro e W2 hq
 have J1:=Lib.hid (J0.out.num (fun k hk=>hk.2) (by have:=tJ.out;omega) (by have:=tJ.out;omega) hq)
 obtain⟨rfl,_,_⟩:=hq
 clear J0
 cases hx:numAt 0 320 (Rd.ok () s.data.toList)with
 |err f=>
  rw[hx]at J1
  have hT:gK s.data.toList= .err f:=by
   have hx':num 0 320 s.data.toList= .err f:=hx
   unfold gK
   rw[hx']
   rfl
  have hf:f≠0:=Jc (show num 0 320 s.data.toList= .err f from hx)
  have F:Hid (fC w s.data.toList (.returned (.tuple #[.pointer none, .int .i64 f])) W2.drew):=by
   show fC _ _ _ _
   unfold fC
   rw[hT]
   exact⟨rfl,hf,J1.out.kept.drew⟩
  have hf1:(f==0)=false:=beq_eq_false_iff_ne.2 hf
  have hf2:(f !=0)=true:=bne_iff_ne.2 hf
  have c0:=cell_of_one J1.out.st.1
  have KD:=Lib.hid (show Kept none' W2 W2.drew from(Kept.refl _ _).drew)
  simp only[bK]
  clear hx hT hf
  go_wp2_with fail
  go_loopg [15] 1 (fun g vi wr=>vi= .int .i64 0/\wr=W2)
  case atStart=>exact⟨rfl,rfl⟩
  case round=>
   obtain⟨rfl,rfl⟩:=hrel
   go_wp2_with fail
   refine ak [0,1,2] (fun W=>Kept none' wr W) (by kernel_rfl) (by kernel_rfl) rfl KD.out ?_
   simp only[List.map_cons,List.map_nil,List.getElem?_toArray,List.getElem?_cons_zero,List.getElem?_cons_succ,Option.getD_some]
   iterate 3 (apply aj rfl rfl;(intro W hW;have z0:=hW.cell (fun h=>h) c0;go_simp;rfl);go_frame)
   refine aG (fun _=>KD.out) ?_
   go_wp2_with fail
   go_ret2
   exact F.out
 |ok n0 r0=>
  rw[hx]at J1
  have hnb:=pV (x:=Rd.ok () s.data.toList) (lo:=0) (hi:=320) (by decide)
  rw[hx]at hnb
  simp only[bK]at hnb⊢
  obtain⟨N,rfl⟩:=Int.eq_ofNat_of_zero_le hnb.1
  have hN:N<=320:=by omega
  have hT:gK s.data.toList=(bZ N [] r0).bind fun T r=>if r=[]then .ok T []else .err 21:=by
   have hx':num 0 320 s.data.toList= .ok (N:Int) r0:=hx
   unfold gK
   rw[hx']
   rfl
  have HT:=Lib.hid hT
  clear hx hnb hT
  go_wp2_with fail
  go_loopg [7,15] 320 (fun g vl vi wr=> ∃(k:Nat)(T:Tab)(r:List UInt8),k<=N/\vi= .int .i64 (k:Int)/\vl= .int .i64 (mD T)/\T.length=k/\qI w wr (yC w E S) E S b m T (Rd.ok () r)/\bZ N [] r0=bZ (N-k) T r/\N-k<=g)
  case atStart=>exact⟨0,[],r0,by omega,rfl,rfl,rfl,⟨J1.out.st,J1.out.tab,J1.out.kept⟩,rfl,by omega⟩
  case round=>
   obtain⟨k,T,r,hk,rfl,rfl,hTl,hi,hrr,hg⟩:=hrel
   have HI:=Lib.hid (And.intro hi (And.intro hrr (And.intro hg hTl)))
   clear hi hrr hg hTl
   by_cases hlt:k<N
   ·go_wp2_with fail
    (with_reducible refine(ou (-9223372036854775808) 9223372036854775807 E S (Rd.ok () r) wr rZ HI.out.1.st).mono ?_)
    rintro e W3 hq
    have hq:nK wr E S aP hi64 (Rd.ok () r) e W3:=hq
    have I3:=Lib.hid (HI.out.1.num (fun k hk=>hk.2) (by have:=tJ.out;omega) (by have:=tJ.out;omega) hq)
    obtain⟨rfl,_,_⟩:=hq
    obtain⟨x1,hx1⟩: ∃x1,numAt aP hi64 (Rd.ok () r)=x1:=⟨_,rfl⟩
    rw[hx1]at I3⊢
    obtain⟨v1,hv1⟩: ∃v1,bK aP x1=v1:=⟨_,rfl⟩
    rw[hv1]
    have X1:=Lib.hid (And.intro hx1 hv1)
    clear hx1 hv1
    go_wp2_with fail
    (with_reducible refine(ou (-9223372036854775808) 9223372036854775807 E S x1 W3 rZ I3.out.st).mono ?_)
    rintro e W4 hq
    have hq:nK W3 E S aP hi64 x1 e W4:=hq
    have I4:=Lib.hid (I3.out.num (fun k hk=>hk.2) (by have:=tJ.out;omega) (by have:=tJ.out;omega) hq)
    obtain⟨rfl,_,_⟩:=hq
    obtain⟨x2,hx2⟩: ∃x2,numAt aP hi64 x1=x2:=⟨_,rfl⟩
    rw[hx2]at I4⊢
    obtain⟨v2,hv2⟩: ∃v2,bK aP x2=v2:=⟨_,rfl⟩
    rw[hv2]
    have X2:=Lib.hid (And.intro hx2 hv2)
    clear hx2 hv2 I3
    go_wp2_with fail
    obtain⟨C,hC⟩: ∃C,W4.heap.size=C:=⟨_,rfl⟩
    obtain⟨W5,xJ⟩: ∃W5,W4.alloc (.cells #[.int .i64 v2, .slice none 0 0] 109)=W5:=⟨_,rfl⟩
    have k5:Kept none' W4 W5:=by rw[<-xJ];exact(Kept.refl _ _).alloc _
    have hcb:W5.heap[C]?=some (.cells #[.int .i64 v2, .slice none 0 0] 109 (0,0)):=by rw[<-xJ,<-hC];exact heap_alloc_new _ _
    have hs5:W5.heap.size=C+1:=by rw[<-xJ,<-hC];simp
    have Xc:E<C/\S<C:=by rw[<-hC];exact I4.out.st.lt
    have WR:m<C/\b<C:=by rw[<-hC];exact I4.out.tab.lt
    have TU:w.heap.size<=C:=by rw[<-hC];exact I4.out.kept.size
    rw[xJ,hC]
    obtain⟨B5,QX⟩: ∃B5:Nat->Prop,B5=fun k=>yC w E S k/\k<C:=⟨_,rfl⟩
    have t5:TabAt W5 B5 b m T:=(I4.out.tab.mono (fun k hk hl=>by rw[QX];exact⟨hk,by omega⟩)).pure k5
    have hB: ∀k,B5 k->k<C/\k≠E/\k≠S:=fun k hk=>by rw[QX]at hk;exact⟨hk.2,hk.1.2⟩
    have hB': ∀k,B5 k->yC w E S k:=fun k hk=>by rw[QX]at hk;exact hk.1
    have I5:=Lib.hid (And.intro (show qI w W5 B5 E S b m T x2 from⟨I4.out.st.kept k5 (fun h=>h) (fun h=>h),t5,I4.out.kept.trans k5⟩) (And.intro hcb (And.intro hs5 (And.intro Xc (And.intro WR (And.intro TU (And.intro hB hB')))))))
    clear k5 hcb hs5 Xc WR TU xJ hC I4 t5 hB hB' QX
    (with_reducible refine(ou 0 16 E S x2 W5 rZ I5.out.1.st).mono ?_)
    rintro e W6 hq
    have I6:=Lib.hid (I5.out.1.num (fun k hk=>(I5.out.2.2.2.2.2.2.1 k hk).2) (by have:=tJ.out;omega) (by have:=tJ.out;omega) hq)
    have UD:W6.heap[C]?=some (.cells #[.int .i64 v2, .slice none 0 0] 109 (0,0)):=hq.2.2.heap I5.out.2.1 (fun h=>by
     have:=I5.out.2.2.2.1
     rcases h with h|h<;>omega)
    have hs6:C<W6.heap.size:=by have:=hq.2.2.size;have:=I5.out.2.2.1;omega
    obtain⟨rfl,_,_⟩:=hq
    obtain⟨x3,hx3⟩: ∃x3,numAt 0 16 x2=x3:=⟨_,rfl⟩
    have hr3:=pV (x:=x2) (lo:=0) (hi:=16) (by decide)
    rw[hx3]at I6 hr3⊢
    obtain⟨M,hM⟩: ∃M:Nat,bK 0 x3=(M:Int):=⟨(bK 0 x3).toNat,by omega⟩
    rw[hM]at hr3⊢
    have X4:M<=16:=by omega
    have X3:=Lib.hid (And.intro hx3 hM)
    have J6:=Lib.hid (And.intro UD hs6)
    clear hr3 hx3 hM UD hs6
    go_wp2_with fail
    have hc0:xQ w W6 B5 E S C b m T v2 x3 0 (.slice none 0 0) 0 []:=by
     refine⟨⟨?_,I6.out.tab,I6.out.kept⟩,J6.out.1,World.ownsRow_nil _ _ _ _,rfl,fun ns r h=>?_⟩
     ·exact I6.out.st.same (fun a r h=>⟨[],by rw[h];rfl⟩) (fun f h=>by rw[h];rfl)
     ·cases x3 with
      |err f=>cases h
      |ok a r'=>injection h with h1 h2
    have Vp:=Lib.hid hc0
    clear hc0 I6 J6
    have hB:=I5.out.2.2.2.2.2.2.1
    have HB:=Lib.hid hB
    clear hB
    go_loopg [25] 16 (fun g vj wr2=> ∃(j n:Nat)(lv:Value)(L:List Int),j<=M/\vj= .int .i64 (j:Int)/\xQ w wr2 B5 E S C b m T v2 x3 j lv n L/\M-j<=g)
    case atStart=>exact⟨0,0,_,[],by omega,rfl,Vp.out,by omega⟩
    case round=>
     obtain⟨j,n,lv,L,hj,rfl,hi,hg⟩:=hrel
     have HI2:=Lib.hid (And.intro hi hg)
     clear hi hg
     by_cases hjl:j<M
     ·have c1:=(jq HI2.out.1.cell).2.1
      obtain⟨la,lc,rfl⟩:=ay HI2.out.1.own
      have KD:=Lib.hid (show Kept (sW E S C) wr wr.drew from(Kept.refl _ _).drew)
      go_wp2_with fail
      refine ak [0,1,2,3,4,5,6,7] (fun W=>Kept (sW E S C) wr W) (by kernel_rfl) (by kernel_rfl) rfl KD.out ?_
      simp only[List.map_cons,List.map_nil,List.getElem?_toArray,List.getElem?_cons_zero,List.getElem?_cons_succ,Option.getD_some]
      have Uk: ¬sW E S C C:=fun h=>by
       have:=I5.out.2.2.2.1
       rcases h with h|h|h<;>omega
      iterate 3 (apply aj rfl rfl;(intro W hW;have z1:=hW.cell (p:=⟨C,1,none⟩) Uk c1;go_simp;rfl);go_frame)
      apply aB rfl rfl
      intro K hK
      go_wp2_with fail
      (with_reducible refine(ou (-9223372036854775808) 9223372036854775807 E S (aU j x3) wr.drew rZ (HI2.out.1.inn.st.kept (Kept.refl none' wr).drew (fun h=>h) (fun h=>h))).mono ?_)
      rintro e W7 hq
      have hq:nK wr.drew E S aP hi64 (aU j x3) e W7:=hq
      obtain⟨v7,n7,w7,f1,f2,f3,f4,f5,⟨a7,c7,rfl⟩,f6⟩:=HI2.out.1.step HB.out (by have:=tJ.out;have:=I5.out.2.2.2.1;omega) (by have:=tJ.out;have:=I5.out.2.2.2.1;omega) (by omega) hq
      obtain⟨rfl,_,_⟩:=hq
      obtain⟨vv,hvv⟩: ∃vv,bK aP (numAt aP hi64 (aU j x3))=vv:=⟨_,rfl⟩
      rw[hvv]at f1 f6⊢
      have F6:=Lib.hid f6
      have F1:=Lib.hid f1
      clear f6 f1 hvv
      go_wp2_with fail
      refine hK _ _ (fun _=>f2) ?_
      clear hK
      apply aB rfl rfl
      intro K hK
      go_wp2_with fail
      refine hK _ _ (fun _=>f2.alloc _) ?_
      clear hK
      apply aB rfl rfl
      intro K hK
      refine Ew (.tmp 28) (.tmp 31) 97 rfl (.slice la n lc) (.slice (some ⟨W7.heap.size,0,none⟩) 1 1) _ rfl rfl F1.out ?_
      refine hK _ _ (fun _=>f3) ?_
      clear hK
      apply aj rfl rfl
      ·intro W hW;go_simp;rfl
      go_frame
      apply aB rfl rfl
      intro K hK
      go_wp2_with fail
      refine hK _ _ (fun h=>absurd rfl h) (nN (by kernel_rfl) ?_)
      clear hK
      go_wp2_with fail
      go_roundg (M-(j+1))
      case rel=>exact⟨j+1,n7,_,_,by omega,by go_num,F6.out,Nat.le_refl _⟩
      case measure=>have:=HI2.out.2;omega
     ·have Ux:j=M:=by omega
      subst Ux
      have hro:=row_of X1.out.1 X2.out.1 X3.out.1 X3.out.2
      rw[X1.out.2,X2.out.2]at hro
      have eN:N-k=(N-(k+1))+1:=by omega
      cases hx4:aU j x3 with
      |err f=>
       have hst:=HI2.out.1.inn.st
       rw[hx4]at hst
       have c0:=cell_of_one hst.1
       have hf:=hst.2.1
       have hf1:(f==0)=false:=beq_eq_false_iff_ne.2 hf
       have hf2:(f !=0)=true:=bne_iff_ne.2 hf
       have F:Hid (fC w s.data.toList (.returned (.tuple #[.pointer none, .int .i64 f])) wr.drew):=by
        show fC _ _ _ _
        unfold fC
        rw[HT.out,HI.out.2.1,eN,bZ,hro.1 f hx4]
        exact⟨rfl,hf,HI2.out.1.inn.kept.drew⟩
       clear hst hf hro eN hx4
       go_wp2_with fail
       refine ak [0,1,2] (fun W=>Kept none' wr W) (by kernel_rfl) (by kernel_rfl) rfl (Kept.refl none' wr).drew ?_
       simp only[List.map_cons,List.map_nil,List.getElem?_toArray,List.getElem?_cons_zero,List.getElem?_cons_succ,Option.getD_some]
       iterate 3 (apply aj rfl rfl;(intro W hW;have z0:=hW.cell (fun h=>h) c0;go_simp;rfl);go_frame)
       refine aG (fun _=>(Kept.refl none' wr).drew) ?_
       go_wp2_with fail
       go_ret2
       exact F.out
      |ok ns r4=>
       have hst:=HI2.out.1.inn.st
       rw[hx4]at hst
       have c0:=cell_of_one hst.1
       have f0:=free_of_one hst.1
       have hEl:=lt_of_block hst.1
       have hrow:=hro.2 ns r4 hx4
       have hL:=HI2.out.1.val ns r4 hx4
       have RW:=Lib.hid (And.intro hst (And.intro hrow (And.intro hL eN)))
       clear hro hx4 hst hrow hL eN
       have hlen:=HI.out.2.2.2
       obtain⟨la,lc,hlv⟩:=ay HI2.out.1.own
       subst hlv
       have D9:=Lib.hid hlen
       clear hlen
       by_cases hkz:k=0
       ·have hk0: ¬(0:Int)<(k:Int):=by omega
        have HZ:=Lib.hid hkz
        clear hkz
        go_wp2_with fail
        (with_reducible refine(xg v1 _).mono ?_)
        rintro e w' ⟨rfl,rfl⟩
        go_wp2_with fail
        (with_reducible refine(Fj B5 b m T (grp v1) _ (HI2.out.1.inn.tab.pure (Kept.refl none' wr))).mono ?_)
        rintro e WM ⟨rfl,kM⟩
        have KB:=Lib.hid (show Kept none' wr WM from((Kept.refl none' wr)).trans kM)
        clear kM
        by_cases Gu:40<=aO T (grp v1)
        ·have zy:(40:Int)<=((aO T (grp v1):Nat):Int):=by omega
         have kK:=Lib.hid (show eX T v1=false from by rw[iM,decide_eq_false (by omega: ¬aO T (grp v1)<40),Bool.and_false])
         have hb1:=KB.out.heap RW.out.1.1 (fun h=>h)
         have cb:=cell_of_one hb1
         have fb:=free_of_one hb1
         have NR:=lt_of_block hb1
         have cb2:=cell_of_one (one_setCell (u:= .int .i64 21) hb1)
         have F:Hid (fC w s.data.toList (.returned (.tuple #[.pointer none, .int .i64 21])) (WM.setCell ⟨E,0,none⟩ (.int .i64 21)).drew):=by
          show fC _ _ _ _
          unfold fC
          rw[HT.out,HI.out.2.1,RW.out.2.2.2,bZ,RW.out.2.1]
          simp only[Rd.bind]
          rw[if_neg (by rw[kK.out];decide)]
          exact⟨rfl,by decide,((HI2.out.1.inn.kept.trans KB.out).setCell (p:=⟨E,0,none⟩) (.inr (by have:=tJ.out;show w.heap.size<=E;omega)) _).drew⟩
         clear hb1
         go_wp2_with fail
         obtain⟨WW,lN⟩: ∃WW,WM.setCell ⟨E,0,none⟩ (.int .i64 21)=WW:=⟨_,rfl⟩
         rw[lN]at F cb2⊢
         clear lN
         refine ak [0,1,2] (fun W=>Kept none' WW W) (by kernel_rfl) (by kernel_rfl) rfl (Kept.refl none' WW).drew ?_
         simp only[List.map_cons,List.map_nil,List.getElem?_toArray,List.getElem?_cons_zero,List.getElem?_cons_succ,Option.getD_some]
         iterate 3 (apply aj rfl rfl;(intro W hW;have z0:=hW.cell (fun h=>h) cb2;go_simp;rfl);go_frame)
         refine aG (fun _=>(Kept.refl none' WW).drew) ?_
         go_wp2_with fail
         go_ret2
         exact F.out
        ·have zy: ¬(40:Int)<=((aO T (grp v1):Nat):Int):=by omega
         have kK:=Lib.hid (show eX T v1=true from by rw[iM,decide_eq_true (by omega:aO T (grp v1)<40),Bool.and_true];exact by rw[D9.out,decide_eq_true HZ.out];rfl)
         have hb1:=KB.out.heap RW.out.1.1 (fun h=>h)
         have cb:=cell_of_one hb1
         have fb:=free_of_one hb1
         have oO:TabAt WM (yC w E S) b m T:=(HI2.out.1.inn.tab.pure KB.out).mono (fun k hk _=>I5.out.2.2.2.2.2.2.2 k hk)
         have x2:=oO.cell
         have hcm:=jq (KB.out.heap HI2.out.1.cell (fun h=>h))
         have y0:=hcm.1
         have y1:=hcm.2.1
         obtain⟨l5,hl5,rV,Gj⟩:=oO.map
         obtain⟨_,R1,R2⟩:=uF RW.out.2.1
         have hok:=oO.ok.push (p:=(v1,(v2,ns))) R1 R2 kK.out
         have hnew:=Jf hok rV
         obtain⟨w6,born,hme,k6,hs6,hes⟩:=(hl5.kept (Kept.refl none' WM).drew (fun h=>h)).entry (P:=Tryz.prog) Tryz.underlying113 Tryz.underlying2 hnew (Tryz.zeroValue109 _)
         obtain⟨w7,XM,F9,wz,hs7⟩:=hes (.agg #[.int .i64 v2, .slice la n lc])
         have k7:Kept (one m) WM w7:=(show Kept (one m) WM WM.drew from(Kept.refl _ _).drew).trans wz
         have lK:Kept (one m) WM w6:=(show Kept (one m) WM WM.drew from(Kept.refl _ _).drew).trans k6
         have hci:CellIs WM (yC w E S) (.agg #[.int .i64 v2, .slice la n lc]) (v2,ns):=by
          refine⟨_,rfl,?_,fun g hg=>?_⟩
          ·have:=(Reads.bQ HI2.out.1.own).pure KB.out
           rw[RW.out.2.2.1]at this
           exact this
          ·have h1:=(uZ HI2.out.1.own hg).1
           have h2:=I5.out.2.2.2.1
           have h3:=I5.out.2.2.2.2.2.1
           exact⟨by omega,by omega,by omega⟩
         have NQ: ¬one m E:=fun e=>(I5.out.2.2.2.2.2.2.1 m HI2.out.1.inn.tab.hm).2.1 e.symm
         have NP: ¬one m S:=fun e=>(I5.out.2.2.2.2.2.2.1 m HI2.out.1.inn.tab.hm).2.2 e.symm
         have F:=Lib.hid (show qI w w7 (yC w E S) E S b m (T++[(v1,(v2,ns))]) (Rd.ok () r4)from
          ⟨(show iG wr E S (Rd.ok () r4)from RW.out.1).kept KB.out (fun h=>h) (fun h=>h)|>.kept k7 NQ NP,
           oO.push hl5 rV Gj F9 k7 (hci.kept k7 (.map hl5 _)) R1 R2 kK.out,
           (HI2.out.1.inn.kept.trans KB.out).new k7 (fun i hi e=>by have:=oO.hm.1;unfold one at e;omega)⟩)
         have F2:=Lib.hid (show bZ N [] r0=bZ (N-(k+1)) (T++[(v1,(v2,ns))]) r4 from by
          rw[HI.out.2.1,RW.out.2.2.2,bZ,RW.out.2.1]
          simp only[Rd.bind]
          rw[if_pos kK.out])
         have K6:=Lib.hid lK
         clear hb1 oO hcm hl5 rV Gj R1 R2 hok hnew hes F9 wz k7 k6 lK hs6 hs7 hci NQ NP
         go_wp2_with fail
         refine ak [0,1,2,3,4,5,6,7,8,9,10] (fun W=>Kept (one m) WM W) (by kernel_rfl) (by kernel_rfl) rfl (Kept.refl (one m) WM).drew ?_
         simp only[List.map_cons,List.map_nil,List.getElem?_toArray,List.getElem?_cons_zero,List.getElem?_cons_succ,Option.getD_some]
         have hbm: ¬one m b:=fun e=>by
          obtain⟨l,hl,_⟩:=HI2.out.1.inn.tab.map
          obtain⟨L0,cl,hL0,_⟩:=hl
          have:=HI2.out.1.inn.tab.obj
          rw[show b=m from e,hL0.heap]at this;cases this
         have NS: ¬one m C:=fun e=>by have:=I5.out.2.2.2.2.1;unfold one at e;omega
         iterate 8 (apply aj rfl rfl;(intro W hW;have z0:=hW.cell (p:=⟨b,0,none⟩) hbm x2;have z1:=hW.cell (p:=⟨C,0,none⟩) NS y0;have z2:=hW.cell (p:=⟨C,1,none⟩) NS y1;go_simp;rfl);go_frame)
         apply aB rfl rfl
         intro K hK
         go_wp2_with fail
         refine hK _ _ (fun _=>K6.out) ?_
         clear hK
         apply aj rfl rfl
         ·intro W hW;go_simp;rfl
         go_frame
         apply aB rfl rfl
         intro K2 hK2
         go_wp2_with fail
         refine hK2 _ _ (fun h=>absurd rfl h) (nN (by kernel_rfl) ?_)
         clear hK2
         go_wp2_with fail
         go_roundg (N-(k+1))
         case rel=>exact⟨k+1,_,r4,by omega,by go_num,by rw[Ak],by rw[List.length_append,HI.out.2.2.2];rfl,F.out,F2.out,Nat.le_refl _⟩
         case measure=>have:=HI.out.2.2.1;omega
       ·have hk0:(0:Int)<(k:Int):=by omega
        have hblt:=Jy (mD T) v1
        obtain⟨cc,hcc⟩: ∃cc,uh (mD T) v1=cc:=⟨_,rfl⟩
        have OB:=Lib.hid (And.intro hcc hblt)
        clear hcc hblt
        go_wp2_with fail
        (with_reducible refine(AY (mD T) v1 wr).mono ?_)
        rintro e WB ⟨rfl,q,os',Gn⟩
        have Vh:=Lib.hid (show Kept none' wr WB from by rw[Gn];exact Nq _ _ _)
        rw[OB.out.1]
        clear Gn
        by_cases hless:bD (mD T) v1=true
        ·have XW: ¬(0:Int)<=cc:=by
          have h1:=OB.out.2
          rw[hless,OB.out.1]at h1
          have:=of_decide_eq_true h1
          omega
         have Vl:=Lib.hid hless
         clear hless
         go_wp2_with fail
         (with_reducible refine(xg v1 _).mono ?_)
         rintro e w' ⟨rfl,rfl⟩
         go_wp2_with fail
         (with_reducible refine(Fj B5 b m T (grp v1) _ (HI2.out.1.inn.tab.pure Vh.out)).mono ?_)
         rintro e WM ⟨rfl,kM⟩
         have KB:=Lib.hid (show Kept none' wr WM from(Vh.out).trans kM)
         clear kM
         by_cases Gu:40<=aO T (grp v1)
         ·have zy:(40:Int)<=((aO T (grp v1):Nat):Int):=by omega
          have kK:=Lib.hid (show eX T v1=false from by rw[iM,decide_eq_false (by omega: ¬aO T (grp v1)<40),Bool.and_false])
          have hb1:=KB.out.heap RW.out.1.1 (fun h=>h)
          have cb:=cell_of_one hb1
          have fb:=free_of_one hb1
          have NR:=lt_of_block hb1
          have cb2:=cell_of_one (one_setCell (u:= .int .i64 21) hb1)
          have F:Hid (fC w s.data.toList (.returned (.tuple #[.pointer none, .int .i64 21])) (WM.setCell ⟨E,0,none⟩ (.int .i64 21)).drew):=by
           show fC _ _ _ _
           unfold fC
           rw[HT.out,HI.out.2.1,RW.out.2.2.2,bZ,RW.out.2.1]
           simp only[Rd.bind]
           rw[if_neg (by rw[kK.out];decide)]
           exact⟨rfl,by decide,((HI2.out.1.inn.kept.trans KB.out).setCell (p:=⟨E,0,none⟩) (.inr (by have:=tJ.out;show w.heap.size<=E;omega)) _).drew⟩
          clear hb1
          go_wp2_with fail
          obtain⟨WW,lN⟩: ∃WW,WM.setCell ⟨E,0,none⟩ (.int .i64 21)=WW:=⟨_,rfl⟩
          rw[lN]at F cb2⊢
          clear lN
          refine ak [0,1,2] (fun W=>Kept none' WW W) (by kernel_rfl) (by kernel_rfl) rfl (Kept.refl none' WW).drew ?_
          simp only[List.map_cons,List.map_nil,List.getElem?_toArray,List.getElem?_cons_zero,List.getElem?_cons_succ,Option.getD_some]
          iterate 3 (apply aj rfl rfl;(intro W hW;have z0:=hW.cell (fun h=>h) cb2;go_simp;rfl);go_frame)
          refine aG (fun _=>(Kept.refl none' WW).drew) ?_
          go_wp2_with fail
          go_ret2
          exact F.out
         ·have zy: ¬(40:Int)<=((aO T (grp v1):Nat):Int):=by omega
          have kK:=Lib.hid (show eX T v1=true from by rw[iM,decide_eq_true (by omega:aO T (grp v1)<40),Bool.and_true];exact by rw[Vl.out,Bool.or_true])
          have hb1:=KB.out.heap RW.out.1.1 (fun h=>h)
          have cb:=cell_of_one hb1
          have fb:=free_of_one hb1
          have oO:TabAt WM (yC w E S) b m T:=(HI2.out.1.inn.tab.pure KB.out).mono (fun k hk _=>I5.out.2.2.2.2.2.2.2 k hk)
          have x2:=oO.cell
          have hcm:=jq (KB.out.heap HI2.out.1.cell (fun h=>h))
          have y0:=hcm.1
          have y1:=hcm.2.1
          obtain⟨l5,hl5,rV,Gj⟩:=oO.map
          obtain⟨_,R1,R2⟩:=uF RW.out.2.1
          have hok:=oO.ok.push (p:=(v1,(v2,ns))) R1 R2 kK.out
          have hnew:=Jf hok rV
          obtain⟨w6,born,hme,k6,hs6,hes⟩:=(hl5.kept (Kept.refl none' WM).drew (fun h=>h)).entry (P:=Tryz.prog) Tryz.underlying113 Tryz.underlying2 hnew (Tryz.zeroValue109 _)
          obtain⟨w7,XM,F9,wz,hs7⟩:=hes (.agg #[.int .i64 v2, .slice la n lc])
          have k7:Kept (one m) WM w7:=(show Kept (one m) WM WM.drew from(Kept.refl _ _).drew).trans wz
          have lK:Kept (one m) WM w6:=(show Kept (one m) WM WM.drew from(Kept.refl _ _).drew).trans k6
          have hci:CellIs WM (yC w E S) (.agg #[.int .i64 v2, .slice la n lc]) (v2,ns):=by
           refine⟨_,rfl,?_,fun g hg=>?_⟩
           ·have:=(Reads.bQ HI2.out.1.own).pure KB.out
            rw[RW.out.2.2.1]at this
            exact this
           ·have h1:=(uZ HI2.out.1.own hg).1
            have h2:=I5.out.2.2.2.1
            have h3:=I5.out.2.2.2.2.2.1
            exact⟨by omega,by omega,by omega⟩
          have NQ: ¬one m E:=fun e=>(I5.out.2.2.2.2.2.2.1 m HI2.out.1.inn.tab.hm).2.1 e.symm
          have NP: ¬one m S:=fun e=>(I5.out.2.2.2.2.2.2.1 m HI2.out.1.inn.tab.hm).2.2 e.symm
          have F:=Lib.hid (show qI w w7 (yC w E S) E S b m (T++[(v1,(v2,ns))]) (Rd.ok () r4)from
           ⟨(show iG wr E S (Rd.ok () r4)from RW.out.1).kept KB.out (fun h=>h) (fun h=>h)|>.kept k7 NQ NP,
            oO.push hl5 rV Gj F9 k7 (hci.kept k7 (.map hl5 _)) R1 R2 kK.out,
            (HI2.out.1.inn.kept.trans KB.out).new k7 (fun i hi e=>by have:=oO.hm.1;unfold one at e;omega)⟩)
          have F2:=Lib.hid (show bZ N [] r0=bZ (N-(k+1)) (T++[(v1,(v2,ns))]) r4 from by
           rw[HI.out.2.1,RW.out.2.2.2,bZ,RW.out.2.1]
           simp only[Rd.bind]
           rw[if_pos kK.out])
          have K6:=Lib.hid lK
          clear hb1 oO hcm hl5 rV Gj R1 R2 hok hnew hes F9 wz k7 k6 lK hs6 hs7 hci NQ NP
          go_wp2_with fail
          refine ak [0,1,2,3,4,5,6,7,8,9,10] (fun W=>Kept (one m) WM W) (by kernel_rfl) (by kernel_rfl) rfl (Kept.refl (one m) WM).drew ?_
          simp only[List.map_cons,List.map_nil,List.getElem?_toArray,List.getElem?_cons_zero,List.getElem?_cons_succ,Option.getD_some]
          have hbm: ¬one m b:=fun e=>by
           obtain⟨l,hl,_⟩:=HI2.out.1.inn.tab.map
           obtain⟨L0,cl,hL0,_⟩:=hl
           have:=HI2.out.1.inn.tab.obj
           rw[show b=m from e,hL0.heap]at this;cases this
          have NS: ¬one m C:=fun e=>by have:=I5.out.2.2.2.2.1;unfold one at e;omega
          iterate 8 (apply aj rfl rfl;(intro W hW;have z0:=hW.cell (p:=⟨b,0,none⟩) hbm x2;have z1:=hW.cell (p:=⟨C,0,none⟩) NS y0;have z2:=hW.cell (p:=⟨C,1,none⟩) NS y1;go_simp;rfl);go_frame)
          apply aB rfl rfl
          intro K hK
          go_wp2_with fail
          refine hK _ _ (fun _=>K6.out) ?_
          clear hK
          apply aj rfl rfl
          ·intro W hW;go_simp;rfl
          go_frame
          apply aB rfl rfl
          intro K2 hK2
          go_wp2_with fail
          refine hK2 _ _ (fun h=>absurd rfl h) (nN (by kernel_rfl) ?_)
          clear hK2
          go_wp2_with fail
          go_roundg (N-(k+1))
          case rel=>exact⟨k+1,_,r4,by omega,by go_num,by rw[Ak],by rw[List.length_append,HI.out.2.2.2];rfl,F.out,F2.out,Nat.le_refl _⟩
          case measure=>have:=HI.out.2.2.1;omega
        ·have XW:(0:Int)<=cc:=by
          have h1:=OB.out.2
          rw[show bD (mD T) v1=false by simpa using hless,OB.out.1]at h1
          have:=of_decide_eq_false h1
          omega
         have kK:=Lib.hid (show eX T v1=false from by rw[iM,show bD (mD T) v1=false by simpa using hless,D9.out,decide_eq_false hkz];rfl)
         have KB:=Lib.hid Vh.out
         clear hless
         have hb1:=KB.out.heap RW.out.1.1 (fun h=>h)
         have cb:=cell_of_one hb1
         have fb:=free_of_one hb1
         have NR:=lt_of_block hb1
         have cb2:=cell_of_one (one_setCell (u:= .int .i64 21) hb1)
         have F:Hid (fC w s.data.toList (.returned (.tuple #[.pointer none, .int .i64 21])) (WB.setCell ⟨E,0,none⟩ (.int .i64 21)).drew):=by
          show fC _ _ _ _
          unfold fC
          rw[HT.out,HI.out.2.1,RW.out.2.2.2,bZ,RW.out.2.1]
          simp only[Rd.bind]
          rw[if_neg (by rw[kK.out];decide)]
          exact⟨rfl,by decide,((HI2.out.1.inn.kept.trans KB.out).setCell (p:=⟨E,0,none⟩) (.inr (by have:=tJ.out;show w.heap.size<=E;omega)) _).drew⟩
         clear hb1
         go_wp2_with fail
         obtain⟨WW,lN⟩: ∃WW,WB.setCell ⟨E,0,none⟩ (.int .i64 21)=WW:=⟨_,rfl⟩
         rw[lN]at F cb2⊢
         clear lN
         refine ak [0,1,2] (fun W=>Kept none' WW W) (by kernel_rfl) (by kernel_rfl) rfl (Kept.refl none' WW).drew ?_
         simp only[List.map_cons,List.map_nil,List.getElem?_toArray,List.getElem?_cons_zero,List.getElem?_cons_succ,Option.getD_some]
         iterate 3 (apply aj rfl rfl;(intro W hW;have z0:=hW.cell (fun h=>h) cb2;go_simp;rfl);go_frame)
         refine aG (fun _=>(Kept.refl none' WW).drew) ?_
         go_wp2_with fail
         go_ret2
         exact F.out
   ·have hkN:k=N:=by omega
    have hr1:bZ N [] r0= .ok T r:=by rw[HI.out.2.1,hkN,Nat.sub_self];rfl
    obtain⟨h1,s',h2,h3,h4⟩:=HI.out.1.st
    have c0:=cell_of_one h1
    have c1:=cell_of_one h2
    have f0:=free_of_one h1
    have hEl:=lt_of_block h1
    have HE:=Lib.hid (And.intro hr1 (And.intro h1 h3))
    clear h1 h2 hr1 hkN h4
    by_cases hr:r=[]
    ·obtain rfl:s'=⟨#[]⟩:=by
      rw[hr]at h3
      cases s' with
      |mk d=>congr 1;exact Array.toList_inj.1 (by simpa using h3)
     have F:Hid (fC w s.data.toList (.returned (.tuple #[.pointer (some ⟨b,0,none⟩), .int .i64 0])) wr):=by
      show fC _ _ _ _
      unfold fC
      rw[HT.out,HE.out.1]
      simp only[Rd.bind]
      rw[if_pos hr]
      exact⟨b,m,rfl,HI.out.1.tab.mono (fun k hk _=>hk.1),HI.out.1.kept⟩
     clear h3 hr
     go_wp2_with fail
     go_ret2
     exact F.out
    ·have hne:(!s'.toList.isEmpty)=true:=by
      rw[Lib.toList_data,h3]
      cases r with
      |nil=>exact absurd rfl hr
      |cons a l=>rfl
     have cb2:=cell_of_one (one_setCell (u:= .int .i64 21) HE.out.2.1)
     have F:Hid (fC w s.data.toList (.returned (.tuple #[.pointer none, .int .i64 21])) (wr.setCell ⟨E,0,none⟩ (.int .i64 21)).drew):=by
      show fC _ _ _ _
      unfold fC
      rw[HT.out,HE.out.1]
      simp only[Rd.bind]
      rw[if_neg hr]
      exact⟨rfl,by decide,(HI.out.1.kept.setCell (p:=⟨E,0,none⟩) (.inr (by have:=tJ.out;show w.heap.size<=E;omega)) _).drew⟩
     clear h3 hr
     go_wp2_with fail
     obtain⟨WW,lN⟩: ∃WW,wr.setCell ⟨E,0,none⟩ (.int .i64 21)=WW:=⟨_,rfl⟩
     rw[lN]at F cb2⊢
     clear lN
     refine ak [0,1,2] (fun W=>Kept none' WW W) (by kernel_rfl) (by kernel_rfl) rfl (Kept.refl none' WW).drew ?_
     simp only[List.map_cons,List.map_nil,List.getElem?_toArray,List.getElem?_cons_zero,List.getElem?_cons_succ,Option.getD_some]
     iterate 3 (apply aj rfl rfl;(intro W hW;have z0:=hW.cell (fun h=>h) cb2;go_simp;rfl);go_frame)
     refine aG (fun _=>(Kept.refl none' WW).drew) ?_
     go_wp2_with fail
     go_ret2
     exact F.out
end
end Go.Proofs.YtglbkodmmogomaaGreatDoor
