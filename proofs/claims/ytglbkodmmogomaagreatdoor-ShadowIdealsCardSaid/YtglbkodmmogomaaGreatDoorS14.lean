/- Numbers out of bytes (plain): what is read, and that it is what was put. -/
import Derived.Test.YtglbkodmmogomaaGreatDoorS13
set_option linter.unusedVariables false
set_option linter.unusedSimpArgs false
set_option maxHeartbeats 8000000
set_option maxRecDepth 100000
namespace Go.Proofs.YtglbkodmmogomaaGreatDoor
open List Go.Proofs.Tryz
section

end
section
open Go Go.RowKit
theorem Ri {α β:Type}{a f:Int}(h:(Rd.err a:Rd α)= .err f):(Rd.err a:Rd β)= .err f:=by injection h with h;rw[h]
theorem row_of {r:List UInt8}{x1 x2 x3:Rd Int}{M:Nat}(h1:numAt bC hi64 (Rd.ok () r)=x1)(h2:numAt bC hi64 x1=x2)(h3:numAt 0 16 x2=x3)(hM:dQ 0 x3=(M:Int)):
 (∀f,bV M x3= .err f->row r= .err f)/\(∀ns r4,bV M x3= .ok ns r4->row r= .ok (dQ bC x1,(dQ bC x2,ns)) r4):=by
 rw[aeg,h1,h2,h3]
 cases x1 with
 |err f1=>have e2:x2= .err f1:=(by rw[<-h2];rfl);subst e2;have e3:x3= .err f1:=(by rw[<-h3];rfl);subst e3;exact⟨fun f h=>Ri (α:=List Int) h,fun ns r4 h=>by cases h⟩
 |ok key r1=>
  cases x2 with
  |err f2=>have e3:x3= .err f2:=(by rw[<-h3];rfl);subst e3;exact⟨fun f h=>Ri (α:=List Int) h,fun ns r4 h=>by cases h⟩
  |ok acc r2=>
   cases x3 with
   |err f3=>exact⟨fun f h=>Ri (α:=List Int) h,fun ns r4 h=>by cases h⟩
   |ok n r3=>have hn:n=(M:Int):=hM;subst hn;simp only[Rd.bind,Int.toNat_natCast];refine⟨fun f h=>by rw[h],fun ns r4 h=>by rw[h];rfl⟩
theorem GN (T:Tab)(p:Int×Cell):qO (T++[p])=p.1:=by unfold qO;rw[getLast?_append];rfl
theorem lu {T:Tab}{key:Int}:iG T key=((decide (T.length=0)||bH (qO T) key)&&decide (aX T (grp key)<40)):=by
 unfold iG qO
 cases hl:T.getLast? with
 |none=>rw[getLast?_eq_none_iff]at hl;subst hl;rfl
 |some q=>have:T.length≠0:=fun h=>(by rw[τ h]at hl;cases hl);rw[decide_eq_false this,Bool.false_or]
theorem X9 {T:Tab}{k:Int}{c:Cell}:dO (T++[(k,c)])->iq k c T=T++[(k,c)]:=by
 intro h;have hT:=h.snoc.1;refine dO.ext hT.iq h fun p=>?_;have hk: ∀q∈T,q.1≠k:=fun q hq e=>(by unfold dO at h;rw[pairwise_append]at h;have:=h.2.2 q hq (k,c) (by simp);simp only[e]at this;rw[bM]at this;cases this);rw[kL hT,aax,ach];constructor
 ·rintro(h1|⟨h1,_⟩)
  ·exact .inr h1
  ·exact .inl h1
 ·rintro(h1|h1)
  ·exact .inr ⟨h1,hk p h1⟩
  ·exact .inl h1
theorem TabAt.push {w w':World}{B:Nat->Prop}{b m:Nat}{T:Tab}(h:TabAt w B b m T){l:List (Int×Value)}(hl:dW w m l)(hperm:(l.map (·.1)).Perm (dD T))
 (hc: ∀p∈l,∃c,(p.1,c)∈T/\CellIs w B p.2 c) {p:Int×Cell} {v:Value} (hl':dW w' m (upd p.1 v l)) (hk:ε (one m) w w') (hv:CellIs w' B v p.2) (h1:aJ p.1) (h2:KO p.2) (hm:iG T p.1=true):TabAt w' B b m (T++[p]):=by
 have hok:=h.ok.push h1 h2 hm;have e:iq p.1 p.2 T=T++[p]:=X9 (k:=p.1) (c:=p.2) hok.rises;rw[<-e];exact h.put hl hperm hc hl' hk hv (by rw[e];exact hok)
theorem Ux {T:Tab}{p:Int×Cell}{l:List (Int×Value)}(hok:fC (T++[p]))(hperm:(l.map (·.1)).Perm (dD T)):p.1∉l.map (·.1):=by intro hm;have hm2:=hperm.mem_iff.1 hm;have hnd:=hok.rises.nodup;unfold dD at hnd hm2;rw[aay,nodup_append]at hnd;exact hnd.2.2 _ hm2 p.1 (by simp) rfl
theorem Zb (w:World)(q:Nat)(os:Array Obj):ε η w (Sort.grow (w.drewN q) os):=
 ⟨rfl,rfl,rfl,by simp[Sort.grow,World.drewN],fun k hk _=>by simp[Sort.grow,World.drewN,Array.getElem?_append_left hk]⟩
theorem take_any (s:ByteArray)(hs:s.size<=maxLen)(w:World):Calls prog 15 #[.string s] w (jm w s.data.toList):=by
 go_enter func15,ntmps15;go_wp2_with fail;obtain⟨W0,hW0⟩:=acu ((w.alloc (.cells #[.string s] 9)).alloc (.cells #[.int .i64 0] 28));have hst:kR W0 (w.heap.size+1) w.heap.size (Rd.ok () s.data.toList):=(by rw[<-hW0];refine⟨by have:=heap_alloc_new (w.alloc (.cells #[.string s] 9)) (.cells #[.int .i64 0] 28);rwa[World.size_alloc]at this,s,?_,rfl,hs⟩;rw[Below.heap_alloc _ _ _ (by simp)];exact heap_alloc_new _ _);have k0:ε η w W0:=(by rw[<-hW0];exact(δ.alloc _).alloc _);have hs0:W0.heap.size=w.heap.size+2:=(by rw[<-hW0];simp);rw[hW0];clear hW0;obtain⟨S,hS⟩:=acu w.heap.size;obtain⟨E,hE⟩:=acu (S+1);rw[hS,hE]at hst⊢;rw[hS]at hs0;refine(new_any W0).mono ?_;rintro e W1 ⟨b,m,rfl,t1,k1⟩;have yu:E≠S:=(by omega);have I0:AU w W1 (Eb w E S) E S b m [] (Rd.ok () s.data.toList):=⟨hst.kept k1 id id,t1.mono (fun k hk _=>by unfold up at hk;omega),k0.trans k1⟩;have J0:=γ I0;have yU:=γ (θ hS hE);clear I0 hst k0 hs0 t1 k1 hS hE;go_wp2_with fail;refine(tY 0 320 E S (Rd.ok () s.data.toList) W1 yu J0.o.st).mono ?_;rintro e W2 hq;have J1:=γ (J0.o.num (fun k hk=>hk.2) (by have:=yU.o;omega) (by have:=yU.o;omega) hq);obtain⟨rfl,_,_⟩:=hq;clear J0
 cases hx:numAt 0 320 (Rd.ok () s.data.toList)with
 |err f=>
  rw[hx]at J1;have hT:nR s.data.toList= .err f:=(by have hx':num 0 320 s.data.toList= .err f:=hx;unfold nR;rw[hx'];rfl);have hf:f≠0:=adK (show num 0 320 s.data.toList= .err f from hx);have F:acr (jm w s.data.toList (.returned (.tuple #[.pointer none,.int .i64 f])) W2.drew):=(by show jm _ _ _ _;unfold jm;rw[hT];exact⟨rfl,hf,J1.o.kept.drew⟩);have hf1:(f==0)=false:=beq_eq_false_iff_ne.2 hf;have hf2:(f !=0)=true:=bne_iff_ne.2 hf;have c0:=cell_of_one J1.o.st.1;have KD:=γ (show ε η W2 W2.drew from δ.drew);simp only[dQ];clear hx hT hf;go_wp2;go_loopg [15] 1 (fun g vi wr=>vi= .int .i64 0/\wr=W2)
  case atStart=>exact⟨rfl,rfl⟩
  case round=>
   obtain⟨rfl,rfl⟩:=hrel;go_wp2;refine ak [0,1,2] (fun W=>ε η wr W) (by kernel_rfl) (by kernel_rfl) rfl KD.o ?_;simp only[aco];iterate 3 (apply aj rfl rfl;(intro W hW;have z0:=hW.cell id c0;go_simp;rfl);go_frame)
   refine aA (fun _=>KD.o) ?_;go_wp2;go_ret2;exact F.o
 |ok n0 r0=>
  rw[hx]at J1;have hnb:=vO (x:=Rd.ok () s.data.toList) (lo:=0) (hi:=320) (by decide);rw[hx]at hnb;simp only[dQ]at hnb⊢;obtain⟨N,rfl⟩:=Int.eq_ofNat_of_zero_le hnb.1;have hN:N<=320:=(by omega);have hT:nR s.data.toList=(fA N [] r0).bind fun T r=>if r=[]then .ok T []else .err 21:=(by have hx':num 0 320 s.data.toList= .ok (N:Int) r0:=hx;unfold nR;rw[hx'];rfl);have HT:=γ hT;clear hx hnb hT;go_wp2;go_loopg [7,15] 320 (fun g vl vi wr=> ∃(k:Nat)(T:Tab)(r:List UInt8),k<=N/\vi= .int .i64 (k:Int)/\vl= .int .i64 (qO T)/\T.length=k/\AU w wr (Eb w E S) E S b m T (Rd.ok () r)/\fA N [] r0=fA (N-k) T r/\N-k<=g)
  case atStart=>exact⟨0,[],r0,by omega,rfl,rfl,rfl,⟨J1.o.st,J1.o.tab,J1.o.kept⟩,rfl,by omega⟩
  case round=>
   obtain⟨k,T,r,hk,rfl,rfl,hTl,hi,hrr,hg⟩:=hrel;have HI:=γ (θ hi (θ hrr (θ hg hTl)));clear hi hrr hg hTl;by_cases hlt:k<N
   ·go_wp2_with fail
    refine(tY (-9223372036854775808) 9223372036854775807 E S (Rd.ok () r) wr yu HI.o.1.st).mono ?_;rintro e W3 hq;have hq:rX wr E S bC hi64 (Rd.ok () r) e W3:=hq;have I3:=γ (HI.o.1.num (fun k hk=>hk.2) (by have:=yU.o;omega) (by have:=yU.o;omega) hq);obtain⟨rfl,_,_⟩:=hq;obtain⟨x1,hx1⟩:=acu (numAt bC hi64 (Rd.ok () r));rw[hx1]at I3⊢;obtain⟨v1,hv1⟩:=acu (dQ bC x1);rw[hv1];have X1:=γ (θ hx1 hv1);clear hx1 hv1;go_wp2_with fail;refine(tY (-9223372036854775808) 9223372036854775807 E S x1 W3 yu I3.o.st).mono ?_;rintro e W4 hq;have hq:rX W3 E S bC hi64 x1 e W4:=hq;have I4:=γ (I3.o.num (fun k hk=>hk.2) (by have:=yU.o;omega) (by have:=yU.o;omega) hq);obtain⟨rfl,_,_⟩:=hq;obtain⟨x2,hx2⟩:=acu (numAt bC hi64 x1);rw[hx2]at I4⊢;obtain⟨v2,hv2⟩:=acu (dQ bC x2);rw[hv2];have X2:=γ (θ hx2 hv2);clear hx2 hv2 I3;go_wp2_with fail;obtain⟨C,hC⟩:=acu W4.heap.size;obtain⟨W5,oI⟩:=acu (W4.alloc (.cells #[.int .i64 v2,.slice none 0 0] 109));have k5:ε η W4 W5:=(by rw[<-oI];exact δ.alloc _);have hcb:W5.heap[C]?=some (.cells #[.int .i64 v2,.slice none 0 0] 109 (0,0)):=(by rw[<-oI,<-hC];exact heap_alloc_new _ _);have hs5:W5.heap.size=C+1:=(by rw[<-oI,<-hC];simp);have hEC:E<C/\S<C:=(by rw[<-hC];exact I4.o.st.lt);have hmC:m<C/\b<C:=(by rw[<-hC];exact I4.o.tab.lt);have hwC:w.heap.size<=C:=(by rw[<-hC];exact I4.o.kept.size);rw[oI,hC];obtain⟨B5,Ht⟩: ∃B5:Nat->Prop,B5=fun k=>Eb w E S k/\k<C:=⟨_,rfl⟩;have t5:TabAt W5 B5 b m T:=(I4.o.tab.mono (fun k hk hl=>by rw[Ht];exact⟨hk,by omega⟩)).pure k5;have hB: ∀k,B5 k->k<C/\k≠E/\k≠S:=fun k hk=>(by rw[Ht]at hk;exact⟨hk.2,hk.1.2⟩);have hB': ∀k,B5 k->Eb w E S k:=fun k hk=>(by rw[Ht]at hk;exact hk.1);have I5:=γ (θ (show AU w W5 B5 E S b m T x2 from⟨I4.o.st.kept k5 id id,t5,I4.o.kept.trans k5⟩) (θ hcb (θ hs5 (θ hEC (θ hmC (θ hwC (θ hB hB')))))));clear k5 hcb hs5 hEC hmC hwC oI hC I4 t5 hB hB' Ht;refine(tY 0 16 E S x2 W5 yu I5.o.1.st).mono ?_;rintro e W6 hq;have I6:=γ (I5.o.1.num (fun k hk=>(I5.o.2.2.2.2.2.2.1 k hk).2) (by have:=yU.o;omega) (by have:=yU.o;omega) hq)
    have afb:W6.heap[C]?=some (.cells #[.int .i64 v2,.slice none 0 0] 109 (0,0)):=hq.2.2.heap I5.o.2.1 (fun h=>by
     have:=I5.o.2.2.2.1
     rcases h with h|h<;>omega)
    have hs6:C<W6.heap.size:=(by have:=hq.2.2.size;have:=I5.o.2.2.1;omega);obtain⟨rfl,_,_⟩:=hq;obtain⟨x3,hx3⟩:=acu (numAt 0 16 x2);have hr3:=vO (x:=x2) (lo:=0) (hi:=16) (by decide);rw[hx3]at I6 hr3⊢;obtain⟨M,hM⟩: ∃M:Nat,dQ 0 x3=(M:Int):=⟨(dQ 0 x3).toNat,by omega⟩;rw[hM]at hr3⊢;have aiN:M<=16:=(by omega);have X3:=γ (θ hx3 hM);have J6:=γ (θ afb hs6);clear hr3 hx3 hM afb hs6;go_wp2_with fail;have hc0:Dq w W6 B5 E S C b m T v2 x3 0 (.slice none 0 0) 0 []:=by
     refine⟨⟨?_,I6.o.tab,I6.o.kept⟩,J6.o.1,World.ownsRow_nil _ _ _ _,rfl,fun ns r h=>?_⟩
     ·exact I6.o.st.same (fun a r h=>⟨[],by rw[h];rfl⟩) (fun f h=>by rw[h];rfl)
     ·cases x3 with
      |err f=>cases h
      |ok a r'=>injection h with h1 h2
    have HC0:=γ hc0;clear hc0 I6 J6;have hB:=I5.o.2.2.2.2.2.2.1;have HB:=γ hB;clear hB;go_loopg [25] 16 (fun g vj wr2=> ∃(j n:Nat)(lv:Value)(L:List Int),j<=M/\vj= .int .i64 (j:Int)/\Dq w wr2 B5 E S C b m T v2 x3 j lv n L/\M-j<=g)
    case atStart=>exact⟨0,0,_,[],by omega,rfl,HC0.o,by omega⟩
    case round=>
     obtain⟨j,n,lv,L,hj,rfl,hi,hg⟩:=hrel;have HI2:=γ (θ hi hg);clear hi hg;by_cases hjl:j<M
     ·have c1:=(mY HI2.o.1.cell).2.1
      obtain⟨la,lc,rfl⟩:=au HI2.o.1.own;have KD:=γ (show ε (yO E S C) wr wr.drew from δ.drew);go_wp2;refine ak [0,1,2,3,4,5,6,7] (fun W=>ε (yO E S C) wr W) (by kernel_rfl) (by kernel_rfl) rfl KD.o ?_;simp only[aco];have hnC: ¬yO E S C C:=fun h=>by
       have:=I5.o.2.2.2.1
       rcases h with h|h|h<;>omega
      iterate 3 (apply aj rfl rfl;(intro W hW;have z1:=hW.cell (p:=⟨C,1,none⟩) hnC c1;go_simp;rfl);go_frame)
      apply ay rfl rfl;intro K hK;go_wp2_with fail;refine(tY (-9223372036854775808) 9223372036854775807 E S (bV j x3) wr.drew yu (HI2.o.1.inn.st.kept (ε.refl η wr).drew id id)).mono ?_;rintro e W7 hq;have hq:rX wr.drew E S bC hi64 (bV j x3) e W7:=hq;obtain⟨v7,n7,w7,f1,f2,f3,f4,f5,⟨a7,c7,rfl⟩,f6⟩:=HI2.o.1.step HB.o (by have:=yU.o;have:=I5.o.2.2.2.1;omega) (by have:=yU.o;have:=I5.o.2.2.2.1;omega) (by omega) hq;obtain⟨rfl,_,_⟩:=hq;obtain⟨vv,hvv⟩:=acu (dQ bC (numAt bC hi64 (bV j x3)));rw[hvv]at f1 f6⊢;have F6:=γ f6;have F1:=γ f1;clear f6 f1 hvv;go_wp2;refine hK _ _ (fun _=>f2) ?_;clear hK;apply ay rfl rfl;intro K hK;go_wp2;refine hK _ _ (fun _=>f2.alloc _) ?_;clear hK;apply ay rfl rfl;intro K hK;refine LD (.tmp 28) (.tmp 31) 97 rfl (.slice la n lc) (.slice (some ⟨W7.heap.size,0,none⟩) 1 1) _ rfl rfl F1.o ?_;refine hK _ _ (fun _=>f3) ?_;clear hK;apply aj rfl rfl
      ·intro W hW;go_simp;rfl
      go_frame;apply ay rfl rfl;intro K hK;go_wp2;refine hK _ _ (fun h=>absurd rfl h) (jG (by kernel_rfl) ?_);clear hK;go_wp2;go_roundg (M-(j+1))
      case rel=>exact⟨j+1,n7,_,_,by omega,by go_num,F6.o,ξ _⟩
      case measure=>have:=HI2.o.2;omega
     ·have hjM:j=M:=by omega
      subst hjM;have hro:=row_of X1.o.1 X2.o.1 X3.o.1 X3.o.2;rw[X1.o.2,X2.o.2]at hro;have eN:N-k=(N-(k+1))+1:=by omega
      cases hx4:bV j x3 with
      |err f=>
       have hst:=HI2.o.1.inn.st;rw[hx4]at hst;have c0:=cell_of_one hst.1;have hf:=hst.2.1;have hf1:(f==0)=false:=beq_eq_false_iff_ne.2 hf;have hf2:(f !=0)=true:=bne_iff_ne.2 hf;have F:acr (jm w s.data.toList (.returned (.tuple #[.pointer none,.int .i64 f])) wr.drew):=(by show jm _ _ _ _;unfold jm;rw[HT.o,HI.o.2.1,eN,fA,hro.1 f hx4];exact⟨rfl,hf,HI2.o.1.inn.kept.drew⟩);clear hst hf hro eN hx4;go_wp2;refine ak [0,1,2] (fun W=>ε η wr W) (by kernel_rfl) (by kernel_rfl) rfl (ε.refl η wr).drew ?_;simp only[aco];iterate 3 (apply aj rfl rfl;(intro W hW;have z0:=hW.cell id c0;go_simp;rfl);go_frame)
       refine aA (fun _=>(ε.refl η wr).drew) ?_;go_wp2;go_ret2;exact F.o
      |ok ns r4=>
       have hst:=HI2.o.1.inn.st;rw[hx4]at hst;have c0:=cell_of_one hst.1;have f0:=free_of_one hst.1;have hEl:=lt_of_block hst.1;have hrow:=hro.2 ns r4 hx4;have hL:=HI2.o.1.val ns r4 hx4;have RW:=γ (θ hst (θ hrow (θ hL eN)));clear hro hx4 hst hrow hL eN;have hlen:=HI.o.2.2.2;obtain⟨la,lc,hlv⟩:=au HI2.o.1.own;subst hlv;have KJ:=γ hlen;clear hlen;by_cases hkz:k=0
       ·have hk0: ¬(0:Int)<(k:Int):=by omega
        have HZ:=γ hkz;clear hkz;go_wp2_with fail;refine(wE v1 _).mono ?_;rintro e w' ⟨rfl,rfl⟩;go_wp2_with fail;refine(Ai B5 b m T (grp v1) _ (HI2.o.1.inn.tab.pure (ε.refl η wr))).mono ?_;rintro e WM ⟨rfl,kM⟩;have KB:=γ (show ε η wr WM from((ε.refl η wr)).trans kM);clear kM;by_cases Ey:40<=aX T (grp v1)
        ·have FN:(40:Int)<=((aX T (grp v1):Nat):Int):=by omega
         have pz:=γ (show iG T v1=false from by rw[lu,decide_eq_false (by omega: ¬aX T (grp v1)<40),Bool.and_false]);have hb1:=KB.o.heap RW.o.1.1 id;have cb:=cell_of_one hb1;have fb:=free_of_one hb1;have ZI:=lt_of_block hb1;have cb2:=cell_of_one (one_setCell (u:= .int .i64 21) hb1);have F:acr (jm w s.data.toList (.returned (.tuple #[.pointer none,.int .i64 21])) (WM.setCell ⟨E,0,none⟩ (.int .i64 21)).drew):=(by show jm _ _ _ _;unfold jm;rw[HT.o,HI.o.2.1,RW.o.2.2.2,fA,RW.o.2.1];simp only[Rd.bind];rw[if_neg (by rw[pz.o];decide)];exact⟨rfl,by decide,((HI2.o.1.inn.kept.trans KB.o).setCell (p:=⟨E,0,none⟩) (.inr (by have:=yU.o;show w.heap.size<=E;omega)) _).drew⟩);clear hb1;go_wp2_with fail;obtain⟨WW,qC⟩:=acu (WM.setCell ⟨E,0,none⟩ (.int .i64 21));rw[qC]at F cb2⊢;clear qC;refine ak [0,1,2] (fun W=>ε η WW W) (by kernel_rfl) (by kernel_rfl) rfl (ε.refl η WW).drew ?_;simp only[aco];iterate 3 (apply aj rfl rfl;(intro W hW;have z0:=hW.cell id cb2;go_simp;rfl);go_frame)
         refine aA (fun _=>(ε.refl η WW).drew) ?_;go_wp2;go_ret2;exact F.o
        ·have FN: ¬(40:Int)<=((aX T (grp v1):Nat):Int):=by omega
         have pz:=γ (show iG T v1=true from by rw[lu,decide_eq_true (by omega:aX T (grp v1)<40),Bool.and_true];exact by rw[KJ.o,decide_eq_true HZ.o];rfl);have hb1:=KB.o.heap RW.o.1.1 id;have cb:=cell_of_one hb1;have fb:=free_of_one hb1;have uM:TabAt WM (Eb w E S) b m T:=(HI2.o.1.inn.tab.pure KB.o).mono (fun k hk _=>I5.o.2.2.2.2.2.2.2 k hk);have x2:=uM.cell;have hcm:=mY (KB.o.heap HI2.o.1.cell id);have y0:=hcm.1;have y1:=hcm.2.1;obtain⟨l5,hl5,yg,QJ⟩:=uM.map;obtain⟨_,R1,R2⟩:=zD RW.o.2.1;have hok:=uM.ok.push (p:=(v1,(v2,ns))) R1 R2 pz.o;have hnew:=Ux hok yg;obtain⟨w6,born,hme,k6,hs6,hes⟩:=(hl5.kept (ε.refl η WM).drew id).entry (P:=prog) underlying113 underlying2 hnew (zeroValue109 _);obtain⟨w7,air,QA,Zd,hs7⟩:=hes (.agg #[.int .i64 v2,.slice la n lc]);have k7:ε (one m) WM w7:=(show ε (one m) WM WM.drew from δ.drew).trans Zd;have Ze:ε (one m) WM w6:=(show ε (one m) WM WM.drew from δ.drew).trans k6;have hci:CellIs WM (Eb w E S) (.agg #[.int .i64 v2,.slice la n lc]) (v2,ns):=by
          refine⟨_,rfl,?_,fun g hg=>?_⟩
          ·have:=(Reads.aN HI2.o.1.own).pure KB.o
           rw[RW.o.2.2.1]at this;exact this
          ·have h1:=(oN HI2.o.1.own hg).1
           have h2:=I5.o.2.2.2.1;have h3:=I5.o.2.2.2.2.2.1;exact⟨by omega,by omega,by omega⟩
         have ZH: ¬one m E:=fun e=>(I5.o.2.2.2.2.2.2.1 m HI2.o.1.inn.tab.hm).2.1 e.symm;have ZC: ¬one m S:=fun e=>(I5.o.2.2.2.2.2.2.1 m HI2.o.1.inn.tab.hm).2.2 e.symm
         have F:=γ (show AU w w7 (Eb w E S) E S b m (T++[(v1,(v2,ns))]) (Rd.ok () r4)from
          ⟨(show kR wr E S (Rd.ok () r4)from RW.o.1).kept KB.o id id|>.kept k7 ZH ZC,
           uM.push hl5 yg QJ QA k7 (hci.kept k7 (.map hl5 _)) R1 R2 pz.o,
           (HI2.o.1.inn.kept.trans KB.o).new k7 (fun i hi e=>by have:=uM.hm.1;unfold one at e;omega)⟩)
         have F2:=γ (show fA N [] r0=fA (N-(k+1)) (T++[(v1,(v2,ns))]) r4 from by
          rw[HI.o.2.1,RW.o.2.2.2,fA,RW.o.2.1];simp only[Rd.bind]
          rw[if_pos pz.o])
         have K6:=γ Ze;clear hb1 uM hcm hl5 yg QJ R1 R2 hok hnew hes QA Zd k7 k6 Ze hs6 hs7 hci ZH ZC;go_wp2;refine ak [0,1,2,3,4,5,6,7,8,9,10] (fun W=>ε (one m) WM W) (by kernel_rfl) (by kernel_rfl) rfl (ε.refl (one m) WM).drew ?_;simp only[aco];have hbm: ¬one m b:=fun e=>(by obtain⟨l,hl,_⟩:=HI2.o.1.inn.tab.map;obtain⟨L0,cl,hL0,_⟩:=hl;have:=HI2.o.1.inn.tab.obj;rw[show b=m from e,hL0.heap]at this;cases this);have ZJ: ¬one m C:=fun e=>(by have:=I5.o.2.2.2.2.1;unfold one at e;omega);iterate 8 (apply aj rfl rfl;(intro W hW;have z0:=hW.cell (p:=⟨b,0,none⟩) hbm x2;have z1:=hW.cell (p:=⟨C,0,none⟩) ZJ y0;have z2:=hW.cell (p:=⟨C,1,none⟩) ZJ y1;go_simp;rfl);go_frame)
         apply ay rfl rfl;intro K hK;go_wp2;refine hK _ _ (fun _=>K6.o) ?_;clear hK;apply aj rfl rfl
         ·intro W hW;go_simp;rfl
         go_frame;apply ay rfl rfl;intro K2 hK2;go_wp2;refine hK2 _ _ (fun h=>absurd rfl h) (jG (by kernel_rfl) ?_);clear hK2;go_wp2;go_roundg (N-(k+1))
         case rel=>exact⟨k+1,_,r4,by omega,by go_num,by rw[GN],by rw[ν,HI.o.2.2.2];rfl,F.o,F2.o,ξ _⟩
         case measure=>have:=HI.o.2.2.1;omega
       ·have hk0:(0:Int)<(k:Int):=by omega
        have hblt:=UN (qO T) v1;obtain⟨cc,hcc⟩:=acu (zn (qO T) v1);have HBC:=γ (θ hcc hblt);clear hcc hblt;go_wp2_with fail;refine(Ik (qO T) v1 wr).mono ?_;rintro e WB ⟨rfl,q,os',QM⟩;have KB0:=γ (show ε η wr WB from by rw[QM];exact Zb _ _ _);rw[HBC.o.1];clear QM;by_cases hless:bH (qO T) v1=true
        ·have aiJ: ¬(0:Int)<=cc:=by
          have h1:=HBC.o.2;rw[hless,HBC.o.1]at h1;have:=of_decide_eq_true h1;omega
         have HLS:=γ hless;clear hless;go_wp2_with fail;refine(wE v1 _).mono ?_;rintro e w' ⟨rfl,rfl⟩;go_wp2_with fail;refine(Ai B5 b m T (grp v1) _ (HI2.o.1.inn.tab.pure KB0.o)).mono ?_;rintro e WM ⟨rfl,kM⟩;have KB:=γ (show ε η wr WM from(KB0.o).trans kM);clear kM;by_cases Ey:40<=aX T (grp v1)
         ·have FN:(40:Int)<=((aX T (grp v1):Nat):Int):=by omega
          have pz:=γ (show iG T v1=false from by rw[lu,decide_eq_false (by omega: ¬aX T (grp v1)<40),Bool.and_false]);have hb1:=KB.o.heap RW.o.1.1 id;have cb:=cell_of_one hb1;have fb:=free_of_one hb1;have ZI:=lt_of_block hb1;have cb2:=cell_of_one (one_setCell (u:= .int .i64 21) hb1);have F:acr (jm w s.data.toList (.returned (.tuple #[.pointer none,.int .i64 21])) (WM.setCell ⟨E,0,none⟩ (.int .i64 21)).drew):=(by show jm _ _ _ _;unfold jm;rw[HT.o,HI.o.2.1,RW.o.2.2.2,fA,RW.o.2.1];simp only[Rd.bind];rw[if_neg (by rw[pz.o];decide)];exact⟨rfl,by decide,((HI2.o.1.inn.kept.trans KB.o).setCell (p:=⟨E,0,none⟩) (.inr (by have:=yU.o;show w.heap.size<=E;omega)) _).drew⟩);clear hb1;go_wp2_with fail;obtain⟨WW,qC⟩:=acu (WM.setCell ⟨E,0,none⟩ (.int .i64 21));rw[qC]at F cb2⊢;clear qC;refine ak [0,1,2] (fun W=>ε η WW W) (by kernel_rfl) (by kernel_rfl) rfl (ε.refl η WW).drew ?_;simp only[aco];iterate 3 (apply aj rfl rfl;(intro W hW;have z0:=hW.cell id cb2;go_simp;rfl);go_frame)
          refine aA (fun _=>(ε.refl η WW).drew) ?_;go_wp2;go_ret2;exact F.o
         ·have FN: ¬(40:Int)<=((aX T (grp v1):Nat):Int):=by omega
          have pz:=γ (show iG T v1=true from by rw[lu,decide_eq_true (by omega:aX T (grp v1)<40),Bool.and_true];exact by rw[HLS.o,Bool.or_true]);have hb1:=KB.o.heap RW.o.1.1 id;have cb:=cell_of_one hb1;have fb:=free_of_one hb1;have uM:TabAt WM (Eb w E S) b m T:=(HI2.o.1.inn.tab.pure KB.o).mono (fun k hk _=>I5.o.2.2.2.2.2.2.2 k hk);have x2:=uM.cell;have hcm:=mY (KB.o.heap HI2.o.1.cell id);have y0:=hcm.1;have y1:=hcm.2.1;obtain⟨l5,hl5,yg,QJ⟩:=uM.map;obtain⟨_,R1,R2⟩:=zD RW.o.2.1;have hok:=uM.ok.push (p:=(v1,(v2,ns))) R1 R2 pz.o;have hnew:=Ux hok yg;obtain⟨w6,born,hme,k6,hs6,hes⟩:=(hl5.kept (ε.refl η WM).drew id).entry (P:=prog) underlying113 underlying2 hnew (zeroValue109 _);obtain⟨w7,air,QA,Zd,hs7⟩:=hes (.agg #[.int .i64 v2,.slice la n lc]);have k7:ε (one m) WM w7:=(show ε (one m) WM WM.drew from δ.drew).trans Zd;have Ze:ε (one m) WM w6:=(show ε (one m) WM WM.drew from δ.drew).trans k6;have hci:CellIs WM (Eb w E S) (.agg #[.int .i64 v2,.slice la n lc]) (v2,ns):=by
           refine⟨_,rfl,?_,fun g hg=>?_⟩
           ·have:=(Reads.aN HI2.o.1.own).pure KB.o
            rw[RW.o.2.2.1]at this;exact this
           ·have h1:=(oN HI2.o.1.own hg).1
            have h2:=I5.o.2.2.2.1;have h3:=I5.o.2.2.2.2.2.1;exact⟨by omega,by omega,by omega⟩
          have ZH: ¬one m E:=fun e=>(I5.o.2.2.2.2.2.2.1 m HI2.o.1.inn.tab.hm).2.1 e.symm;have ZC: ¬one m S:=fun e=>(I5.o.2.2.2.2.2.2.1 m HI2.o.1.inn.tab.hm).2.2 e.symm
          have F:=γ (show AU w w7 (Eb w E S) E S b m (T++[(v1,(v2,ns))]) (Rd.ok () r4)from
           ⟨(show kR wr E S (Rd.ok () r4)from RW.o.1).kept KB.o id id|>.kept k7 ZH ZC,
            uM.push hl5 yg QJ QA k7 (hci.kept k7 (.map hl5 _)) R1 R2 pz.o,
            (HI2.o.1.inn.kept.trans KB.o).new k7 (fun i hi e=>by have:=uM.hm.1;unfold one at e;omega)⟩)
          have F2:=γ (show fA N [] r0=fA (N-(k+1)) (T++[(v1,(v2,ns))]) r4 from by
           rw[HI.o.2.1,RW.o.2.2.2,fA,RW.o.2.1];simp only[Rd.bind]
           rw[if_pos pz.o])
          have K6:=γ Ze;clear hb1 uM hcm hl5 yg QJ R1 R2 hok hnew hes QA Zd k7 k6 Ze hs6 hs7 hci ZH ZC;go_wp2;refine ak [0,1,2,3,4,5,6,7,8,9,10] (fun W=>ε (one m) WM W) (by kernel_rfl) (by kernel_rfl) rfl (ε.refl (one m) WM).drew ?_;simp only[aco];have hbm: ¬one m b:=fun e=>(by obtain⟨l,hl,_⟩:=HI2.o.1.inn.tab.map;obtain⟨L0,cl,hL0,_⟩:=hl;have:=HI2.o.1.inn.tab.obj;rw[show b=m from e,hL0.heap]at this;cases this);have ZJ: ¬one m C:=fun e=>(by have:=I5.o.2.2.2.2.1;unfold one at e;omega);iterate 8 (apply aj rfl rfl;(intro W hW;have z0:=hW.cell (p:=⟨b,0,none⟩) hbm x2;have z1:=hW.cell (p:=⟨C,0,none⟩) ZJ y0;have z2:=hW.cell (p:=⟨C,1,none⟩) ZJ y1;go_simp;rfl);go_frame)
          apply ay rfl rfl;intro K hK;go_wp2;refine hK _ _ (fun _=>K6.o) ?_;clear hK;apply aj rfl rfl
          ·intro W hW;go_simp;rfl
          go_frame;apply ay rfl rfl;intro K2 hK2;go_wp2;refine hK2 _ _ (fun h=>absurd rfl h) (jG (by kernel_rfl) ?_);clear hK2;go_wp2;go_roundg (N-(k+1))
          case rel=>exact⟨k+1,_,r4,by omega,by go_num,by rw[GN],by rw[ν,HI.o.2.2.2];rfl,F.o,F2.o,ξ _⟩
          case measure=>have:=HI.o.2.2.1;omega
        ·have aiJ:(0:Int)<=cc:=by
          have h1:=HBC.o.2;rw[show bH (qO T) v1=false by simpa using hless,HBC.o.1]at h1;have:=of_decide_eq_false h1;omega
         have pz:=γ (show iG T v1=false from by rw[lu,show bH (qO T) v1=false by simpa using hless,KJ.o,decide_eq_false hkz];rfl);have KB:=γ KB0.o;clear hless;have hb1:=KB.o.heap RW.o.1.1 id;have cb:=cell_of_one hb1;have fb:=free_of_one hb1;have ZI:=lt_of_block hb1;have cb2:=cell_of_one (one_setCell (u:= .int .i64 21) hb1);have F:acr (jm w s.data.toList (.returned (.tuple #[.pointer none,.int .i64 21])) (WB.setCell ⟨E,0,none⟩ (.int .i64 21)).drew):=(by show jm _ _ _ _;unfold jm;rw[HT.o,HI.o.2.1,RW.o.2.2.2,fA,RW.o.2.1];simp only[Rd.bind];rw[if_neg (by rw[pz.o];decide)];exact⟨rfl,by decide,((HI2.o.1.inn.kept.trans KB.o).setCell (p:=⟨E,0,none⟩) (.inr (by have:=yU.o;show w.heap.size<=E;omega)) _).drew⟩);clear hb1;go_wp2_with fail;obtain⟨WW,qC⟩:=acu (WB.setCell ⟨E,0,none⟩ (.int .i64 21));rw[qC]at F cb2⊢;clear qC;refine ak [0,1,2] (fun W=>ε η WW W) (by kernel_rfl) (by kernel_rfl) rfl (ε.refl η WW).drew ?_;simp only[aco];iterate 3 (apply aj rfl rfl;(intro W hW;have z0:=hW.cell id cb2;go_simp;rfl);go_frame)
         refine aA (fun _=>(ε.refl η WW).drew) ?_;go_wp2;go_ret2;exact F.o
   ·have hkN:k=N:=by omega
    have hr1:fA N [] r0= .ok T r:=(by rw[HI.o.2.1,hkN,Nat.sub_self];rfl);obtain⟨h1,s',h2,h3,h4⟩:=HI.o.1.st;have c0:=cell_of_one h1;have c1:=cell_of_one h2;have f0:=free_of_one h1;have hEl:=lt_of_block h1;have HE:=γ (θ hr1 (θ h1 h3));clear h1 h2 hr1 hkN h4;by_cases hr:r=[]
    ·obtain rfl:s'=⟨#[]⟩:=by
      rw[hr]at h3
      cases s' with
      |mk d=>congr 1;exact Array.toList_inj.1 (by simpa using h3)
     have F:acr (jm w s.data.toList (.returned (.tuple #[.pointer (some ⟨b,0,none⟩),.int .i64 0])) wr):=(by show jm _ _ _ _;unfold jm;rw[HT.o,HE.o.1];simp only[Rd.bind];rw[if_pos hr];exact⟨b,m,rfl,HI.o.1.tab.mono (fun k hk _=>hk.1),HI.o.1.kept⟩);clear h3 hr;go_wp2;go_ret2;exact F.o
    ·have hne:(!s'.toList.isEmpty)=true:=by
      rw[Lib.toList_data,h3]
      cases r with
      |nil=>exact absurd rfl hr
      |cons a l=>rfl
     have cb2:=cell_of_one (one_setCell (u:= .int .i64 21) HE.o.2.1);have F:acr (jm w s.data.toList (.returned (.tuple #[.pointer none,.int .i64 21])) (wr.setCell ⟨E,0,none⟩ (.int .i64 21)).drew):=(by show jm _ _ _ _;unfold jm;rw[HT.o,HE.o.1];simp only[Rd.bind];rw[if_neg hr];exact⟨rfl,by decide,(HI.o.1.kept.setCell (p:=⟨E,0,none⟩) (.inr (by have:=yU.o;show w.heap.size<=E;omega)) _).drew⟩);clear h3 hr;go_wp2_with fail;obtain⟨WW,qC⟩:=acu (wr.setCell ⟨E,0,none⟩ (.int .i64 21));rw[qC]at F cb2⊢;clear qC;refine ak [0,1,2] (fun W=>ε η WW W) (by kernel_rfl) (by kernel_rfl) rfl (ε.refl η WW).drew ?_;simp only[aco];iterate 3 (apply aj rfl rfl;(intro W hW;have z0:=hW.cell id cb2;go_simp;rfl);go_frame)
     refine aA (fun _=>(ε.refl η WW).drew) ?_;go_wp2;go_ret2;exact F.o
theorem Fv (key:Int)(v:Value)(k:Int): ∀l:List (Int×Value),look (upd key v l) k=if k=key then some v else look l k
 |[]=>by
  unfold upd look;by_cases h:k=key
  ·simp[h]
  ·simp[h]
 |p::r=>by
  have ih:=Fv key v k r;unfold look at ih⊢;unfold upd;by_cases hp:key=p.1
  ·rw[if_pos (by simpa using hp)]
   by_cases h:k=key
   ·simp[h]
   ·have: ¬k=p.1:=fun e=>h (e.trans hp.symm)
    simp[h,this]
  ·rw[if_neg (by simpa using hp)]
   by_cases h:k=p.1
   ·have: ¬k=key:=fun e=>hp (e.symm.trans h)
    simp[h,this];intro e;exact absurd e.symm hp
   ·rw[find?_cons_of_neg (by simpa using h),find?_cons_of_neg (by simpa using h)]
    exact ih
def oM (pm:Nat->Nat×Nat)(i:Nat):Option Tab->Option Value:=fun t=>t.map fun _=> .pointer (some ⟨(pm i).1,0,none⟩)
structure dM (w:World)(m:Nat)(Ts:Tabs)(pm:Nat->Nat×Nat):Prop where
 map: ∃l,dW w m l/\(∀i:Nat,i<Ts.length->look l (i:Int)=oM pm i (Ts.getD i none))/\ ∀key:Int,(key<0\/(Ts.length:Int)<=key)->look l key=none
 tab: ∀(i:Nat)(T:Tab),Ts[i]?=some (some T)->TabAt w zu (pm i).1 (pm i).2 T/\(pm i).2≠m
 dist: ∀(i k:Nat)(T U:Tab),i≠k->Ts[i]?=some (some T)->Ts[k]?=some (some U)->(pm i).2≠(pm k).2
theorem dM.lt {w:World}{m:Nat}{Ts:Tabs}{pm:Nat->Nat×Nat}(h:dM w m Ts pm):m<w.heap.size:=by obtain⟨l,h1,_⟩:=h.map;exact h1.lt
theorem dM.pure {w w':World}{m:Nat}{Ts:Tabs}{pm:Nat->Nat×Nat}(h:dM w m Ts pm)(hk:ε η w w'):dM w' m Ts pm:=by obtain⟨⟨l,h1,h2,h3⟩,h4,h5⟩:=h;exact⟨⟨l,h1.kept hk id,h2,h3⟩,fun i T hT=>⟨(h4 i T hT).1.pure hk,(h4 i T hT).2⟩,h5⟩
theorem dM.made (w:World)(nodes:List JN)(pm:Nat->Nat×Nat):dM (w.alloc (.map #[] 0)) w.heap.size (eG nodes) pm:=by
 refine⟨⟨[],dW.made w,fun i hi=>?_,fun _ _=>rfl⟩,fun i T hT=>?_,fun i k T U _ hT=>?_⟩
 ·have:(eG nodes).getD i none=none:=by
   unfold eG;rw[σ,getElem?_replicate];split<;>rfl
  rw[this];rfl
 all_goals
  unfold eG at hT;rw[getElem?_replicate]at hT;split at hT<;>simp at hT
theorem dM.lookup {w:World}{m:Nat}{Ts:Tabs}{pm:Nat->Nat×Nat}(h:dM w m Ts pm)(i:Nat)(hi:i<Ts.length):
 (Instr.lookup 138 (.map (some m)) (.int .i64 (i:Int)) true).run prog w= .ok (.tuple #[(oM pm i (Ts.getD i none)).getD (.pointer none),.bool (Ts.getD i none).isSome]) w:=by
 obtain⟨⟨l,h1,h2,_⟩,_,_⟩:=h;have:=h1.lookup (P:=prog) underlying138 underlying3 (i:Int) (zeroValue43 w);rw[h2 i hi]at this;rw[this];unfold oM;cases Ts.getD i none<;>rfl
theorem dM.YZ {w:World}{m:Nat}{Ts:Tabs}{pm:Nat->Nat×Nat}(h:dM w m Ts pm)(key:Int)(hi:key<0\/(Ts.length:Int)<=key):
 (Instr.lookup 138 (.map (some m)) (.int .i64 key) true).run prog w= .ok (.tuple #[.pointer none,.bool false]) w:=by
 obtain⟨⟨l,h1,_,h3⟩,_,_⟩:=h;have:=h1.lookup (P:=prog) underlying138 underlying3 key (zeroValue43 w);rwa[h3 key hi]at this
theorem dM.turn {w w':World}{m:Nat}{Ts:Tabs}{pm:Nat->Nat×Nat}(h:dM w m Ts pm){i:Nat}{T T':Tab}(hT:Ts[i]?=some (some T))(hk:ε (one (pm i).2) w w')(ht:TabAt w' zu (pm i).1 (pm i).2 T'):
 dM w' m (Ts.set i (some T')) pm:=by
 have hnot:=(h.tab i T hT).1.kK;have hne:=(h.tab i T hT).2;have hlen:i<Ts.length:=(μ.1 hT).1;have hget: ∀(k:Nat)(U:Tab),k≠i->(Ts.set i (some T'))[k]?=some (some U)->Ts[k]?=some (some U):=fun k U hki h=>(by rwa[getElem?_set_ne (fun e=>hki e.symm)]at h);obtain⟨⟨l,h1,h2,h3⟩,h4,h5⟩:=h;refine⟨⟨l,h1.kept hk (fun e=>hne e.symm),fun k hkl=>?_,fun key hkey=>h3 key (by simpa using hkey)⟩,fun k U hU=>?_,fun k n U V hkn hU hV=>?_⟩
 ·have hkl':k<Ts.length:=by simpa using hkl
  rw[h2 k hkl'];by_cases hki:k=i
  ·subst hki
   rw[σ,σ,getElem?_set_self hlen,hT];rfl
  ·rw[σ,σ,getElem?_set_ne (fun e=>hki e.symm)]
 ·by_cases hki:k=i
  ·subst hki
   rw[getElem?_set_self hlen]at hU
   injection hU with hU
   injection hU with hU
   subst hU;exact⟨ht,hne⟩
  ·have yt:=hget k U hki hU
   refine⟨(h4 k U yt).1.kept hk (fun q hq _ _ c E f e=>?_) (fun e=>h5 k i U T hki yt hT e),(h4 k U yt).2⟩;cases hq;exact hnot c E f e
 ·by_cases hki:k=i
  ·subst hki
   have hV':=hget n V (fun e=>hkn e.symm) hV;exact h5 k n T V hkn hT hV'
  ·have yt:=hget k U hki hU
   by_cases hni:n=i
   ·subst hni
    exact h5 k n U T hkn yt hT
   ·exact h5 k n U V hkn yt (hget n V hni hV)
theorem dM.lay {w w':World}{m:Nat}{Ts:Tabs}{pm:Nat->Nat×Nat}(h:dM w m Ts pm){i:Nat}(hi:i<Ts.length)(hno:Ts.getD i none=none){b tm:Nat}{T:Tab}(ht:TabAt w zu b tm T)(hm:tm≠m)
 (hd: ∀(k:Nat)(U:Tab),Ts[k]?=some (some U)->(pm k).2≠tm) {l':List (Int×Value)} (hl: ∀l,dW w m l->l'=upd (i:Int) (.pointer (some ⟨b,0,none⟩)) l->dW w' m l') (hk:ε (one m) w w')
 (he: ∃l,dW w m l/\(∀i:Nat,i<Ts.length->look l (i:Int)=oM pm i (Ts.getD i none))/\(∀key:Int,(key<0\/(Ts.length:Int)<=key)->look l key=none)/\l'=upd (i:Int) (.pointer (some ⟨b,0,none⟩)) l):
 dM w' m (Ts.set i (some T)) (fun k=>if k=i then(b,tm)else pm k):=by
 obtain⟨l,h1,h2,h3,rfl⟩:=he;have hmn:lI w (one m) zu:=lI.map h1 _;have hset: ∀(k:Nat)(U:Tab),k≠i->(Ts.set i (some T))[k]?=some (some U)->Ts[k]?=some (some U):=fun k U hki h=>(by rwa[getElem?_set_ne (fun e=>hki e.symm)]at h);obtain⟨_,h4,h5⟩:=h;refine⟨⟨_,hl l h1 rfl,fun k hkl=>?_,fun key hkey=>?_⟩,fun k U hU=>?_,fun k n U V hkn hU hV=>?_⟩
 ·have hkl':k<Ts.length:=by simpa using hkl
  rw[Fv];by_cases hki:k=i
  ·subst hki
   rw[if_pos rfl,σ,getElem?_set_self hi];simp[oM]
  ·rw[if_neg (by omega),h2 k hkl',σ,σ,getElem?_set_ne (fun e=>hki e.symm)]
   simp[oM,hki]
 ·have hkey':key<0\/(Ts.length:Int)<=key:=by simpa using hkey
  rw[Fv,if_neg (by omega)];exact h3 key hkey'
 ·by_cases hki:k=i
  ·subst hki
   rw[getElem?_set_self hi]at hU
   injection hU with hU
   injection hU with hU
   subst hU;simp only[if_true];exact⟨ht.kept hk hmn (fun e=>hm e),hm⟩
  ·simp only[if_neg hki]
   have yt:=hset k U hki hU;exact⟨(h4 k U yt).1.kept hk hmn (fun e=>(h4 k U yt).2 e),(h4 k U yt).2⟩
 ·by_cases hki:k=i
  ·have hni: ¬n=i:=fun e=>hkn (hki.trans e.symm)
   simp only[if_pos hki,if_neg hni];exact fun e=>hd n V (hset n V hni hV) e.symm
  ·simp only[if_neg hki]
   have yt:=hset k U hki hU;by_cases hni:n=i
   ·simp only[if_pos hni]
    exact hd k U yt
   ·simp only[if_neg hni]
    exact h5 k n U V hkn yt (hset n V hni hV)
theorem dM.update {w:World}{m:Nat}{Ts:Tabs}{pm:Nat->Nat×Nat}(h:dM w m Ts pm){i:Nat}(hi:i<Ts.length)(hno:Ts.getD i none=none){b tm:Nat}{T:Tab}(ht:TabAt w zu b tm T)(hm:tm≠m)
 (hd: ∀(k:Nat)(U:Tab),Ts[k]?=some (some U)->(pm k).2≠tm):
 ∃w',(Instr.mapUpdate 138 (.map (some m)) (.int .i64 (i:Int)) (.pointer (some ⟨b,0,none⟩))).run prog w= .ok () w'/\dM w' m (Ts.set i (some T)) (fun k=>if k=i then(b,tm)else pm k)/\ε (one m) w w'/\w'.heap.size=w.heap.size:=by
 obtain⟨l,h1,h2,h3⟩:=h.map;obtain⟨w',u1,u2,u3,u4⟩:=h1.update (P:=prog) underlying138 underlying3 (i:Int) (.pointer (some ⟨b,0,none⟩));exact⟨w',u1,h.lay hi hno ht hm hd (l':=upd (i:Int) (.pointer (some ⟨b,0,none⟩)) l) (fun l0 _ e=>e▸(by rw[<-e];exact u2)) u3 ⟨l,h1,h2,h3,rfl⟩,u3,u4⟩
theorem dM.fresh {w:World}{m:Nat}{Ts:Tabs}{pm:Nat->Nat×Nat}(h:dM w m Ts pm){tm:Nat}(htm:w.heap.size<=tm):tm≠m/\ ∀(k:Nat)(U:Tab),Ts[k]?=some (some U)->(pm k).2≠tm:=by
 refine⟨fun e=>?_,fun k U hU e=>?_⟩
 ·have:=h.lt;omega
 ·have:=(h.tab k U hU).1.lt.1;omega
structure Iq (w:World)(b m:Nat)(j:Jb)(Ts:Tabs)(pm:Nat->Nat×Nat):Prop where
 obj: ∃v,w.heap[b]?=some (.cells #[.int .i64 j.par,v,.map (some m)] 140 (0,0))/\iR w v j.nodes
 par:aJ j.par
 tabs:dM w m Ts pm
structure dh (w:World)(M:Nat->Prop)(m:Nat)(Ts:Tabs)(pm:Nat->Nat×Nat):Prop where
 at_:dM w m Ts pm
 out: ∀(i:Nat)(T:Tab),Ts[i]?=some (some T)->TabAt w M (pm i).1 (pm i).2 T
theorem dh.of {w:World}{M:Nat->Prop}{mb m:Nat}{Ts:Tabs}{pm:Nat->Nat×Nat}(h:dh w M m Ts pm)(hmb:w.heap.size<=mb):dh w (fun k=>(M k\/w.heap.size<=k)/\k≠mb) m Ts pm:=
 ⟨h.at_,fun i T hT=>(h.out i T hT).mono (fun k hM hk=>⟨.inl hM,by omega⟩)⟩
theorem dh.mono {w:World}{M M':Nat->Prop}{m:Nat}{Ts:Tabs}{pm:Nat->Nat×Nat}(h:dh w M m Ts pm)(hM: ∀k,M k->k<w.heap.size->M' k):dh w M' m Ts pm:=
 ⟨h.at_,fun i T hT=>(h.out i T hT).mono hM⟩
theorem dh.pure {w w':World}{M:Nat->Prop}{m:Nat}{Ts:Tabs}{pm:Nat->Nat×Nat}(h:dh w M m Ts pm)(hk:ε η w w'):dh w' M m Ts pm:=
 ⟨h.at_.pure hk,fun i T hT=>(h.out i T hT).pure hk⟩
theorem dh.VQ {S:Nat->Prop}{w w':World}{M:Nat->Prop}{m:Nat}{Ts:Tabs}{pm:Nat->Nat×Nat}(h:dh w M m Ts pm)(hM: ∀k,S k-> ¬M k)(hm: ¬S m)(hk:ε S w w'):dh w' M m Ts pm:=by have hnc:lI w S M:=fun k h1 h2=>absurd h2 (hM k h1);have ho: ∀(i:Nat)(T:Tab),Ts[i]?=some (some T)->TabAt w' M (pm i).1 (pm i).2 T:=fun i T hT=>(h.out i T hT).kept hk hnc (fun e=>hM _ e (h.out i T hT).hm);refine⟨⟨?_,fun i T hT=>⟨(ho i T hT).any,(h.at_.tab i T hT).2⟩,h.at_.dist⟩,ho⟩;obtain⟨l,h1,h2,h3⟩:=h.at_.map;exact⟨l,h1.kept hk hm,h2,h3⟩
theorem dh.store {w w':World}{M:Nat->Prop}{mb m:Nat}{Ts:Tabs}{pm:Nat->Nat×Nat}(h:dh w M m Ts pm)(hM: ¬M mb)(hm:m≠mb)(hk:ε (one mb) w w'):dh w' M m Ts pm:=
 h.VQ (S:=one mb) (fun q (e:q=mb)=>by rw[e];exact hM) hm hk
theorem dh.turn {w w':World}{M:Nat->Prop}{m:Nat}{Ts:Tabs}{pm:Nat->Nat×Nat}(h:dh w M m Ts pm){i:Nat}{T T':Tab}(hT:Ts[i]?=some (some T))(hk:ε (one (pm i).2) w w')
 (ht:TabAt w' M (pm i).1 (pm i).2 T'):dh w' M m (Ts.set i (some T')) pm:=by
 refine⟨h.at_.turn hT hk ht.any,fun k U hU=>?_⟩;have hlen:i<Ts.length:=(μ.1 hT).1;by_cases hki:k=i
 ·subst hki
  rw[getElem?_set_self hlen]at hU
  injection hU with hU
  injection hU with hU
  subst hU;exact ht
 ·rw[getElem?_set_ne (fun e=>hki e.symm)]at hU
  obtain⟨l,h1,_⟩:=(h.at_.tab i T hT).1.map;exact(h.out k U hU).kept hk (lI.map h1 _) (h.at_.dist k i U T hki hU hT)
theorem dh.update {w:World}{M:Nat->Prop}{m:Nat}{Ts:Tabs}{pm:Nat->Nat×Nat}(h:dh w M m Ts pm){i:Nat}(hi:i<Ts.length)(hno:Ts.getD i none=none){b tm:Nat}{T:Tab}(ht:TabAt w M b tm T)(hm:tm≠m)
 (hd: ∀(k:Nat)(U:Tab),Ts[k]?=some (some U)->(pm k).2≠tm):
 ∃w',(Instr.mapUpdate 138 (.map (some m)) (.int .i64 (i:Int)) (.pointer (some ⟨b,0,none⟩))).run prog w= .ok () w'/\dh w' M m (Ts.set i (some T)) (fun k=>if k=i then(b,tm)else pm k)/\ε (one m) w w'/\w'.heap.size=w.heap.size:=by
 obtain⟨w',u1,u2,u3,u4⟩:=h.at_.update hi hno ht.any hm hd;obtain⟨l,h1,_⟩:=h.at_.map;refine⟨w',u1,⟨u2,fun k U hU=>?_⟩,u3,u4⟩;by_cases hki:k=i
 ·subst hki
  rw[getElem?_set_self hi]at hU;cases hU;simp only[if_true];exact ht.kept u3 (lI.map h1 _) (fun e=>hm e)
 ·simp only[if_neg hki]
  rw[getElem?_set_ne (fun e=>hki e.symm)]at hU;exact(h.out k U hU).kept u3 (lI.map h1 _) (fun e=>(h.at_.tab k U hU).2 e)
theorem dh.made (w:World)(M:Nat->Prop)(nodes:List JN)(pm:Nat->Nat×Nat):dh (w.alloc (.map #[] 0)) M w.heap.size (eG nodes) pm:=
 ⟨dM.made w nodes pm,fun i T hT=>by
   unfold eG at hT;rw[getElem?_replicate]at hT
   split at hT<;>simp at hT⟩
end
section
open Go Go.RowKit
attribute [local irreducible] dI
theorem fB (kind n:Int)(c:Cell):bD kind n c=false↔(kind=6/\0<c.2.length)\/(kind=7/\(c.1≠0\/c.2.length<1\/n<=(c.2.length:Int))):=by unfold bD;rw[Bool.and_eq_false_iff,Bool.not_eq_false',Bool.not_eq_false',Φ,Φ,Bool.or_eq_true,Bool.or_eq_true];simp only[decide_eq_true_eq,or_assoc]
theorem qG {kind n:Int}{T:Tab}{p:Int×Cell}(hp:p∈T)(h:bD kind n p.2=false):fP kind n T=false:=by unfold fP;rw[Bool.and_eq_false_iff];right;rw[all_eq_false];exact⟨p,hp,by rw[h];simp⟩
theorem J8 {kind n:Int}{T:Tab}(hs:stateful kind=true)(h: ∀(m:Nat)(p:Int×Cell),m<T.length->T[m]?=some p->bD kind n p.2=true):fP kind n T=true:=by unfold fP;rw[hs,Bool.true_and,all_eq_true];intro p hp;obtain⟨m,hm⟩:=getElem?_of_mem hp;exact h m p (μ.1 hm).1 hm
theorem xE {kind n:Int}{T:Tab}{k:Nat}{q:Int×Cell}(hy: ∀(m:Nat)(p:Int×Cell),m<k->T[m]?=some p->bD kind n p.2=true)(hq:T[k]?=some q)(h:bD kind n q.2=true):
 ∀(m:Nat)(p:Int×Cell),m<k+1->T[m]?=some p->bD kind n p.2=true:=by
 intro m p hm hp;by_cases hmk:m<k
 ·exact hy m p hmk hp
 ·have e1:m=k:=by omega
  subst e1;rw[hq]at hp
  injection hp with hp
  rw[<-hp];exact h
theorem Ec {k:Int}(h:stateful k=true):k=6\/k=7:=by unfold stateful at h;simpa using h
theorem adt {T:Tab}(hT:dO T){m:Nat}{p:Int×Cell}(h:T[m]?=some p):bZ T p.1=some p.2:=(qc hT).2 (ς h)
theorem fits_any (d:JN)(a:Array Value)(B:Nat->Prop)(b m:Nat)(T:Tab)(w:World)(h:oq w a d)(hT:TabAt w B b m T):
 Calls prog 18 #[.agg a,.pointer (some ⟨b,0,none⟩)] w (Gives w (.bool (fP d.kind d.n T))):=by
 obtain⟨pi,ci,p,cap,rfl,_,_,_,hk0,hk1,hn,_⟩:=h;obtain⟨hn1,hn2⟩:=hn;have kA:ε η w (w.alloc (.cells (bQ d pi ci p cap) 42)):=δ.alloc _;have tA:=hT.pure kA;have hbB:(w.alloc (.cells (bQ d pi ci p cap) 42)).heap[w.heap.size]?=some (.cells (bQ d pi ci p cap) 42 (0,0)):=heap_alloc_new _ _;have c1:(w.alloc (.cells (bQ d pi ci p cap) 42)).cell? ⟨w.heap.size,1,none⟩=some (.int .u8 d.kind):=ζ hbB rfl;obtain⟨W1,hW1⟩:=acu (w.alloc (.cells (bQ d pi ci p cap) 42));have cs:=xJ d.kind W1;have ck:=abk B b m T W1 (hW1▸tA);rw[hW1]at kA tA hbB c1;have H:=γ (θ kA (θ tA hbB));have HW:=γ hW1;clear hW1 kA hbB hT tA;go_enter func18,ntmps18
 cases hs:stateful d.kind with
 |false=>rw[hs]at cs;have F:=γ (show fP d.kind d.n T=false by unfold fP;rw[hs];rfl);clear hs;go_wp2_with fail;rw[HW.o];refine cs.mono ?_;rintro e w' ⟨rfl,rfl⟩;go_wp2;go_ret;exact⟨dw F.o.symm,H.o.1⟩
 |true=>
  rw[hs]at cs;have HS:=γ hs;clear hs;go_wp2_with fail;rw[HW.o];refine cs.mono ?_;rintro e w' ⟨rfl,rfl⟩;go_wp2_with fail;refine ck.mono ?_;rintro e W2 ⟨v,rfl,hown,-,k2⟩;obtain⟨va,vc,rfl⟩:=au hown;have hlen63:T.length<=9223372036854775807:=(by obtain⟨_,_,e1,e2,e3,_⟩:=(Reads.aN hown).at;unfold maxLen at e3;unfold dD at e2;rw[length_map]at e2;omega);have hkl:(dD T).length=T.length:=(by unfold dD;rw[length_map]);rw[hkl]at hown;have K2:=γ (θ (H.o.1.trans k2) (θ (H.o.2.1.pure k2) (θ (k2.heap H.o.2.2 id) hown)));rw[hkl];clear hown k2 H c1;go_wp2;go_loopg [21] T.length (fun g vi wr=> ∃k:Nat,k<=T.length/\vi= .int .i64 (k:Int)/\T.length-k<=g/\ε η W2 wr/\ ∀(m:Nat)(p:Int×Cell),m<k->T[m]?=some p->bD d.kind d.n p.2=true)
  case atStart=>exact⟨0,by omega,rfl,by omega,ε.refl _ _,fun m e hm=>by omega⟩
  case round=>
   obtain⟨k,hk,rfl,hg,hkp,hyes⟩:=hrel;by_cases hlt:k<T.length
   ·obtain⟨q,hq⟩: ∃q,T[k]?=some q:=⟨_,ι hlt⟩
    obtain⟨pa,pc,pe,_,_,hcell⟩:=((Reads.aN K2.o.2.2.2).pure hkp).at
    injection pe with pe1 Em BZ
    subst pe1 BZ;clear Em;obtain⟨bi,bW,rfl,hcell2⟩:=hcell.resolve_left (fun h=>by rw[h]at hkl;simp at hkl;omega);have y0:=hcell2 k q.1 (by unfold dD;rw[aav,hq];rfl);clear hcell hcell2;have cg:=get_any B b m T q.1 wr (K2.o.2.1.pure hkp);have hget:=adt K2.o.2.1.ok.rises hq;unfold Sj at cg;rw[hget]at cg;simp only[Δ,Option.isSome_some]at cg;obtain⟨key,acc,L⟩:=q;have FI:=K2.o.2.1.ok.cell _ (ς hq);have aiE:L.length<=16:=FI.2.2;obtain⟨ha1,ha2⟩:aJ acc:=FI.1;have QD:=Ec HS.o;have hB1:=hkp.heap K2.o.2.2.1 id;have HQ:=γ hq;have Jh:=γ hyes;have G:=γ (θ hg (θ hkp (θ hget hB1)));clear hq hyes hg hkp hget FI hB1 hk0 hk1;simp only at cg y0;clear hkl cs ck;obtain⟨uid,kind,ins,x,n⟩:=d
    rcases(show kind=6\/kind=7 from QD)with k6|k6
    ·subst k6
     clear QD;by_cases b1:0<L.length
     ·skip
      have F:=γ (qG (ς HQ.o) (show bD 6 n (acc,L)=false from(fB _ _ _).2 (.inl ⟨rfl,b1⟩)));go_wp2_with (go_at_call 60;refine cg.mono ?_;rintro e w3 ⟨lv,n',rfl,hl1,rfl,k3⟩;obtain⟨la,lc,rfl⟩:=au hl1;have z1:w3.cell? ⟨w.heap.size,1,none⟩=some (.int .u8 6):=ζ (k3.heap G.o.2.2.2 id) rfl;have z4:w3.cell? ⟨w.heap.size,6,none⟩=some (.int .i64 n):=ζ (k3.heap G.o.2.2.2 id) rfl;have TY:w.heap.size<w3.heap.size:=block_lt_of_cell z1;have Xe:=((ε.refl η w3).alloc (.cells #[.int .i64 acc,.slice la L.length lc] 109)).cell id z1;have Xd:=((ε.refl η w3).alloc (.cells #[.int .i64 acc,.slice la L.length lc] 109)).cell id z4;clear hl1);go_ret;exact⟨dw F.o.symm,K2.o.1.trans (G.o.2.1.trans (k3.trans (δ.alloc _)))⟩
     ·skip
      have F:=γ (xE Jh.o HQ.o (show bD 6 n (acc,L)=true by
       cases h:bD 6 n (acc,L)with
       |true=>rfl
       |false=>
        have h2:=(fB _ _ _).1 h;simp only at h2
        omega))
      go_wp2_with (go_at_call 60;refine cg.mono ?_;rintro e w3 ⟨lv,n',rfl,hl1,rfl,k3⟩;obtain⟨la,lc,rfl⟩:=au hl1;have z1:w3.cell? ⟨w.heap.size,1,none⟩=some (.int .u8 6):=ζ (k3.heap G.o.2.2.2 id) rfl;have z4:w3.cell? ⟨w.heap.size,6,none⟩=some (.int .i64 n):=ζ (k3.heap G.o.2.2.2 id) rfl;have TY:w.heap.size<w3.heap.size:=block_lt_of_cell z1;have Xe:=((ε.refl η w3).alloc (.cells #[.int .i64 acc,.slice la L.length lc] 109)).cell id z1;have Xd:=((ε.refl η w3).alloc (.cells #[.int .i64 acc,.slice la L.length lc] 109)).cell id z4;clear hl1);go_roundg (T.length-(k+1))
      case rel=>exact⟨k+1,by omega,by go_num,ξ _,G.o.2.1.trans (k3.trans (δ.alloc _)),F.o⟩
      case measure=>have:=G.o.1;omega
    ·subst k6
     clear QD;by_cases b1:acc=0
     ·by_cases b2:L.length<1
      ·skip
       have F:=γ (qG (ς HQ.o) (show bD 7 n (acc,L)=false from(fB _ _ _).2 (.inr ⟨rfl,.inr (.inl b2)⟩)));go_wp2_with (go_at_call 60;refine cg.mono ?_;rintro e w3 ⟨lv,n',rfl,hl1,rfl,k3⟩;obtain⟨la,lc,rfl⟩:=au hl1;have z1:w3.cell? ⟨w.heap.size,1,none⟩=some (.int .u8 7):=ζ (k3.heap G.o.2.2.2 id) rfl;have z4:w3.cell? ⟨w.heap.size,6,none⟩=some (.int .i64 n):=ζ (k3.heap G.o.2.2.2 id) rfl;have TY:w.heap.size<w3.heap.size:=block_lt_of_cell z1;have Xe:=((ε.refl η w3).alloc (.cells #[.int .i64 acc,.slice la L.length lc] 109)).cell id z1;have Xd:=((ε.refl η w3).alloc (.cells #[.int .i64 acc,.slice la L.length lc] 109)).cell id z4;clear hl1);go_ret;exact⟨dw F.o.symm,K2.o.1.trans (G.o.2.1.trans (k3.trans (δ.alloc _)))⟩
      ·by_cases b3:n<=(L.length:Int)
       ·skip
        have F:=γ (qG (ς HQ.o) (show bD 7 n (acc,L)=false from(fB _ _ _).2 (.inr ⟨rfl,.inr (.inr b3)⟩)));go_wp2_with (go_at_call 60;refine cg.mono ?_;rintro e w3 ⟨lv,n',rfl,hl1,rfl,k3⟩;obtain⟨la,lc,rfl⟩:=au hl1;have z1:w3.cell? ⟨w.heap.size,1,none⟩=some (.int .u8 7):=ζ (k3.heap G.o.2.2.2 id) rfl;have z4:w3.cell? ⟨w.heap.size,6,none⟩=some (.int .i64 n):=ζ (k3.heap G.o.2.2.2 id) rfl;have TY:w.heap.size<w3.heap.size:=block_lt_of_cell z1;have Xe:=((ε.refl η w3).alloc (.cells #[.int .i64 acc,.slice la L.length lc] 109)).cell id z1;have Xd:=((ε.refl η w3).alloc (.cells #[.int .i64 acc,.slice la L.length lc] 109)).cell id z4;clear hl1);go_ret;exact⟨dw F.o.symm,K2.o.1.trans (G.o.2.1.trans (k3.trans (δ.alloc _)))⟩
       ·skip
        have F:=γ (xE Jh.o HQ.o (show bD 7 n (acc,L)=true by
         cases h:bD 7 n (acc,L)with
         |true=>rfl
         |false=>
          have h2:=(fB _ _ _).1 h;simp only at h2
          omega))
        go_wp2_with (go_at_call 60;refine cg.mono ?_;rintro e w3 ⟨lv,n',rfl,hl1,rfl,k3⟩;obtain⟨la,lc,rfl⟩:=au hl1;have z1:w3.cell? ⟨w.heap.size,1,none⟩=some (.int .u8 7):=ζ (k3.heap G.o.2.2.2 id) rfl;have z4:w3.cell? ⟨w.heap.size,6,none⟩=some (.int .i64 n):=ζ (k3.heap G.o.2.2.2 id) rfl;have TY:w.heap.size<w3.heap.size:=block_lt_of_cell z1;have Xe:=((ε.refl η w3).alloc (.cells #[.int .i64 acc,.slice la L.length lc] 109)).cell id z1;have Xd:=((ε.refl η w3).alloc (.cells #[.int .i64 acc,.slice la L.length lc] 109)).cell id z4;clear hl1);go_roundg (T.length-(k+1))
        case rel=>exact⟨k+1,by omega,by go_num,ξ _,G.o.2.1.trans (k3.trans (δ.alloc _)),F.o⟩
        case measure=>have:=G.o.1;omega
     ·skip
      have F:=γ (qG (ς HQ.o) (show bD 7 n (acc,L)=false from(fB _ _ _).2 (.inr ⟨rfl,.inl b1⟩)));go_wp2_with (go_at_call 60;refine cg.mono ?_;rintro e w3 ⟨lv,n',rfl,hl1,rfl,k3⟩;obtain⟨la,lc,rfl⟩:=au hl1;have z1:w3.cell? ⟨w.heap.size,1,none⟩=some (.int .u8 7):=ζ (k3.heap G.o.2.2.2 id) rfl;have z4:w3.cell? ⟨w.heap.size,6,none⟩=some (.int .i64 n):=ζ (k3.heap G.o.2.2.2 id) rfl;have TY:w.heap.size<w3.heap.size:=block_lt_of_cell z1;have Xe:=((ε.refl η w3).alloc (.cells #[.int .i64 acc,.slice la L.length lc] 109)).cell id z1;have Xd:=((ε.refl η w3).alloc (.cells #[.int .i64 acc,.slice la L.length lc] 109)).cell id z4;clear hl1);go_ret;exact⟨dw F.o.symm,K2.o.1.trans (G.o.2.1.trans (k3.trans (δ.alloc _)))⟩
   ·have e1:k=T.length:=by omega
    subst e1;have F:=γ (θ (J8 HS.o hyes) hkp);clear hyes hkp;go_wp2;go_ret;exact⟨dw F.o.1.symm,K2.o.1.trans F.o.2⟩
def wS (l:List St):List Value:=l.flatMap fun s=>[.string s.1,.string s.2]
theorem vI: ∀l:List St,(wS l).length=l.length*2
 |[]=>rfl
 |s::l=>by have:=vI l;unfold wS at this⊢;rw[flatMap_cons,ν,this];simp;omega
theorem EZ: ∀{l:List St}{i:Nat}{s:St},l[i]?=some s->(wS l)[i*2]?=some (.string s.1)/\(wS l)[i*2+1]?=some (.string s.2)
 |x::l,0,s,h=>by cases h;exact⟨rfl,rfl⟩
 |x::l,i+1,s,h=>by have ih:=EZ (l:=l) (i:=i) (s:=s) (by simpa using h);rw[show(i+1)*2=i*2+1+1 by omega];unfold wS at ih⊢;rw[flatMap_cons];exact ih
theorem Reads.yY {w:World}{v:Value}{l:List St}(h:Reads w 2 v (wS l)): ∃a cap,v= .slice a l.length cap/\l.length<=cap/\cap<=maxLen/\
 (l=[]\/ ∃b off,a=some ⟨b,off,none⟩/\ ∀i s,l[i]?=some s->w.cell? ⟨b,off+i*2,none⟩=some (.string s.1)/\w.cell? ⟨b,off+i*2+1,none⟩=some (.string s.2)):=by
 obtain⟨a,n,cap,rfl,h1,h2,h3,h4⟩:=h;rw[vI]at h3;have hn:n=l.length:=(by omega);subst hn;refine⟨a,cap,rfl,h1,h2,?_⟩
 rcases h4 with h4|⟨b,off,hb,h4⟩
 ·left
  have:=congrArg length h4;rw[vI]at this;exact τ (by simp only[Γ]at this;omega)
 ·right
  refine⟨b,off,hb,fun i s hs=>?_⟩;obtain⟨q0,q1⟩:=EZ hs;have z0:=h4 _ _ q0;have z1:=h4 _ _ q1;rw[<-Nat.add_assoc]at z1;exact⟨z0,z1⟩
def wV (n:Nat)(Ts:Tabs)(pm:Nat->Nat×Nat):Prop:= ∀(q:Nat)(T:Tab),Ts[q]?=some (some T)->n<=(pm q).2
theorem wV.none (n:Nat)(nodes:List JN)(pm:Nat->Nat×Nat):wV n (eG nodes) pm:=fun q T hT=>by unfold eG at hT;rw[getElem?_replicate]at hT;split at hT<;>simp at hT
theorem wV.set {n:Nat}{Ts:Tabs}{pm:Nat->Nat×Nat}(h:wV n Ts pm){i b tm:Nat}{T:Tab}(ht:n<=tm):wV n (Ts.set i (some T)) (fun k=>if k=i then(b,tm)else pm k):=fun q U hU=>by
 show n<=(if q=i then(b,tm)else pm q).2;by_cases e:q=i
 ·rw[if_pos e];exact ht
 ·rw[if_neg e]
  rw[getElem?_set,if_neg (fun h=>e h.symm)]at hU;exact h q U hU
def xA (w:World)(j:Jb)(l:List St)(e:Ending)(w':World):Prop:=
 match fG j l with
 | .ok Ts=> ∃b m pm,e= .returned (.tuple #[.pointer (some ⟨b,0,none⟩),.int .i64 0])/\Iq w' b m j Ts pm/\w.heap.size<=m/\wV w.heap.size Ts pm/\ε η w w'
 | .error er=>e= .returned (.tuple #[.pointer none,.int .i64 er])/\er≠0/\ε η w w'
def nG (w:World)(v:Value)(j:Jb)(l:List St)(e:Ending)(w':World):Prop:=
 match fG j l with
 | .ok Ts=> ∃b m pm,e= .returned (.tuple #[.pointer (some ⟨b,0,none⟩),.int .i64 0])/\w'.heap[b]?=some (.cells #[.int .i64 j.par,v,.map (some m)] 140 (0,0))/\w.heap.size<=b/\iR w' v j.nodes/\aJ j.par/\w.heap.size<=m/\dh w' (up w.heap.size) m Ts pm/\wV w.heap.size Ts pm/\ε η w w'
 | .error er=>e= .returned (.tuple #[.pointer none,.int .i64 er])/\er≠0/\ε η w w'
theorem nG.q {w w':World}{v:Value}{j:Jb}{l:List St}{e:Ending}(h:nG w v j l e w'):xA w j l e w':=by
 unfold nG at h;unfold xA;split at h
 ·obtain⟨b,m,pm,h1,h2,_,h3,h4,h5,h6,h7,h8⟩:=h
  exact⟨b,m,pm,h1,⟨⟨v,h2,h3⟩,h4,h6.at_⟩,h5,h7,h8⟩
 ·exact h
theorem nG.bad {w w':World}{v:Value}{j:Jb}{l:List St}{er:Int}(h:fG j l= .error er)(hne:er≠0)(hk:ε η w w'):nG w v j l (.returned (.tuple #[.pointer none,.int .i64 er])) w':=by unfold nG;rw[h];exact⟨rfl,hne,hk⟩
theorem JO {j:Jb}{l:List St}(h:iD j=false):fG j l= .error 2:=by unfold fG;rw[if_neg (by rw[h];simp)]
theorem lD {j:Jb}{l:List St}(h:iD j=true){e:Int}(he:jA j.nodes l (eG j.nodes)= .error e):fG j l= .error e:=by unfold fG;rw[if_pos h,he]
theorem P6 {j:Jb}{l:List St}(h:iD j=true){Ts:Tabs}(he:jA j.nodes l (eG j.nodes)= .ok Ts):fG j l= .ok (oO j.nodes Ts):=by unfold fG;rw[if_pos h,he]
theorem FU {α:Type}{l:List α}{k:Nat}{x:α}(h:l[k]?=some x):l.drop k=x::l.drop (k+1):=by obtain⟨hk,e⟩:=μ.1 h;rw[acn hk,e]
theorem sH {nodes:List JN}{l:List St}{Ts:Tabs}{s:St}(h:bJ nodes s.1<0\/stateful (nodeAt nodes (bJ nodes s.1)).kind=false\/(Ts.getD (bJ nodes s.1).toNat none).isSome=true):jA nodes (s::l) Ts= .error 180:=by unfold jA;rw[if_pos h]
theorem Gy {nodes:List JN}{l:List St}{Ts:Tabs}{s:St}{i:Nat}{d:JN}(hf:bJ nodes s.1=(i:Int))(hd:nodes[i]?=some d)(hs:stateful d.kind=true)(hn:Ts.getD i none=none):
 jA nodes (s::l) Ts=match nR s.2.data.toList with
  | .err e=> .error e
  | .ok T _=>if fP d.kind d.n T=true then jA nodes l (Ts.set i (some T))else .error 181:=by
 have hd':nodeAt nodes (bJ nodes s.1)=d:=by unfold nodeAt;rw[hf];simp[σ,hd]
 rw[jA,hd',if_neg (by
  rw[hf,hs];simp only[Int.toNat_natCast,hn]
  simp),hf]
 rfl
def iJ (nodes:List JN)(Ts:Tabs)(k:Nat):Tabs:=(oO nodes Ts).take k++Ts.drop k
theorem yC {nodes:List JN}{Ts:Tabs}(h:Ts.length=nodes.length):(oO nodes Ts).length=nodes.length:=by unfold oO;rw[length_zipWith,h,Nat.min_self]
theorem xw (nodes:List JN)(Ts:Tabs):iJ nodes Ts 0=Ts:=by unfold iJ;simp
theorem Kq {nodes:List JN}{Ts:Tabs}(h:Ts.length=nodes.length):iJ nodes Ts nodes.length=oO nodes Ts:=by unfold iJ;rw[χ (by rw[yC h];exact ξ _),drop_of_length_le (by omega),append_nil]
theorem lQ {nodes:List JN}{Ts:Tabs}(h:Ts.length=nodes.length){k:Nat}(hk:k<=nodes.length):(iJ nodes Ts k).length=nodes.length:=by unfold iJ;rw[ν,υ,length_drop,yC h];omega
theorem wJ {nodes:List JN}{Ts:Tabs}(h:Ts.length=nodes.length){k:Nat}(hk:k<=nodes.length)(i:Nat):(iJ nodes Ts k)[i]?=if i<k then(oO nodes Ts)[i]? else Ts[i]?:=by
 unfold iJ;have hl:((oO nodes Ts).take k).length=k:=(by rw[υ,yC h];omega);by_cases hi:i<k
 ·rw[if_pos hi,Ω (by omega),aaA,if_pos hi]
 ·rw[if_neg hi,Ψ (by omega),hl,getElem?_drop]
  congr 1;omega
theorem Rh {nodes:List JN}{Ts:Tabs}{k:Nat}{d:JN}(h:Ts.length=nodes.length)(hd:nodes[k]?=some d):(oO nodes Ts)[k]?=some (if(Ts.getD k none).isNone&&stateful d.kind then some []else Ts.getD k none):=by have hk:k<Ts.length:=(by rw[h];exact(μ.1 hd).1);unfold oO;rw[getElem?_zipWith,hd,ι hk];simp only[σ,ι hk,Δ]
theorem AA {nodes:List JN}{Ts:Tabs}(h:Ts.length=nodes.length){k:Nat}(hk:k<=nodes.length):(iJ nodes Ts k).getD k none=Ts.getD k none:=by rw[σ,wJ h hk,if_neg (by omega),<-σ]
theorem Ko {nodes:List JN}{Ts:Tabs}(h:Ts.length=nodes.length){k:Nat}{d:JN}(hd:nodes[k]?=some d)(hn:Ts.getD k none=none)(hs:stateful d.kind=true):iJ nodes Ts (k+1)=(iJ nodes Ts k).set k (some []):=by
 have hk:k<nodes.length:=(μ.1 hd).1;apply ext_getElem?;intro i;rw[wJ h (by omega),getElem?_set,wJ h (by omega),lQ h (by omega)];by_cases hik:k=i
 ·subst hik
  rw[if_pos (by omega),if_pos rfl,if_pos hk,Rh h hd,hn,hs];rfl
 ·rw[if_neg hik]
  by_cases hi:i<k
  ·rw[if_pos (by omega),if_pos hi]
  ·rw[if_neg (by omega),if_neg hi]
theorem Az {nodes:List JN}{Ts:Tabs}(h:Ts.length=nodes.length){k:Nat}{d:JN}(hd:nodes[k]?=some d)(hn:(Ts.getD k none).isSome=true\/stateful d.kind=false):iJ nodes Ts (k+1)=iJ nodes Ts k:=by
 have hk:k<nodes.length:=(μ.1 hd).1;apply ext_getElem?;intro i;rw[wJ h (by omega),wJ h (by omega)];by_cases hi:i<k
 ·rw[if_pos (by omega),if_pos hi]
 ·rw[if_neg hi]
  by_cases hik:i=k
  ·subst hik
   rw[if_pos (by omega),Rh h hd];have hT:Ts[i]?=some (Ts.getD i none):=(by rw[σ,ι (by omega)];rfl);rw[hT]
   congr 1
   rcases hn with hn|hn
   ·cases e:Ts.getD i none with
    |none=>rw[e]at hn;cases hn
    |some x=>rfl
   ·rw[hn,Bool.and_false];rfl
  ·rw[if_neg (by omega)]
theorem JM (j:Jb)(v:Value)(sv:Value)(l:List St)(w:World)(h:oh w #[.int .i64 j.par,v] j)(hs:Reads w 2 sv (wS l))(hsz: ∀s∈l,s.1.size<=maxLen/\s.2.size<=maxLen):
 Calls prog 24 #[.agg #[.int .i64 j.par,v],sv] w (nG w v j l):=by
 have hJ:=h;obtain⟨v0,hv0,hn,hp⟩:=h
 injection hv0 with hv0
 injection hv0 with _ hv0
 injection hv0 with hv0 _
 subst hv0;obtain⟨na,cap,rfl,h1,h2,h3⟩:=hn.at;obtain⟨sa,scap,rfl,s1,s2,s3⟩:=hs.yY;unfold maxLen at h2 s2;have kA:ε η w (w.alloc (.cells #[.int .i64 j.par,.slice na j.nodes.length cap] 24)):=δ.alloc _;have H3:=γ (θ h3 (θ hJ (θ s3 (θ hsz hn))));have cm:=Qi j _ _ (hJ.pure kA);have b0:(w.alloc (.cells #[.int .i64 j.par,.slice na j.nodes.length cap] 24)).cell? ⟨w.heap.size,0,none⟩=some (.int .i64 j.par):=(by simp);have b1:(w.alloc (.cells #[.int .i64 j.par,.slice na j.nodes.length cap] 24)).cell? ⟨w.heap.size,1,none⟩=some (.slice na j.nodes.length cap):=(by simp);have B0:=γ (θ b0 b1);have KA:=γ kA;have HP:=γ hp;clear b0 b1 kA h3 hn hJ s3 hs hsz hp;have HM:=γ (Ak j);obtain⟨r1,hr1⟩:=acu ((iw j).1);obtain⟨r2,hr2⟩:=acu ((iw j).2);unfold oQ at cm;rw[hr1,hr2]at cm;rw[hr2]at HM;clear hr1 hr2;go_enter func24,ntmps24;by_cases hz:r2=0
 ·have iM:=γ (show iD j=true by rw[HM.o];exact decide_eq_true hz)
  have hmm:= @run_makeMap prog;go_wp2_with (go_at_call 41;refine cm.mono ?_;rintro e W0 ⟨rfl,k2⟩;have x0:=k2.cell id B0.o.1;have x1:=k2.cell id B0.o.2);obtain⟨W1,hW1⟩:=acu ((W0.alloc (.map #[] 0)).alloc (.cells #[.int .i64 j.par,.slice na j.nodes.length cap,.map (some W0.heap.size)] 140));have JV:ε η W0 W1:=(by rw[<-hW1];exact(δ.alloc _).alloc _);have tb1:dh W1 (up w.heap.size) W0.heap.size (eG j.nodes) (fun _=>(0,0)):=(by rw[<-hW1];exact(dh.made W0 _ j.nodes _).pure ((ε.refl η _).alloc _));have ob1:W1.heap[W0.heap.size+1]?=some (.cells #[.int .i64 j.par,.slice na j.nodes.length cap,.map (some W0.heap.size)] 140 (0,0)):=(by rw[<-hW1];have:=heap_alloc_new (W0.alloc (.map #[] 0)) (.cells #[.int .i64 j.par,.slice na j.nodes.length cap,.map (some W0.heap.size)] 140);rwa[World.size_alloc]at this);rw[hW1];have hm1:W0.heap.size<W1.heap.size:=(by rw[<-hW1];simp;omega);have K1:=γ (θ ((KA.o.trans k2).trans JV) (θ (JV.cell id x0) (θ (JV.cell id x1) (θ tb1 (θ ob1 (θ (show w.heap.size<W0.heap.size by have:=block_lt_of_cell x0;simpa using this) hm1))))));clear hmm hW1 JV tb1 ob1 x0 x1 k2 B0 KA cm hm1;generalize W0.heap.size=M at*;go_loopg [33] l.length (fun g vi wr=> ∃(k:Nat)(Ts:Tabs)(pm:Nat->Nat×Nat),k<=l.length/\vi= .int .i64 (k:Int)/\l.length-k<=g/\jA j.nodes l (eG j.nodes)=jA j.nodes (l.drop k) Ts/\Ts.length=j.nodes.length/\dh wr (up w.heap.size) M Ts pm/\wV w.heap.size Ts pm/\ε (one M) W1 wr)
  case atStart=>exact⟨0,_,_,by omega,rfl,by omega,rfl,by simp[eG],K1.o.2.2.2.1,wV.none _ _ _,ε.refl _ _⟩
  case round=>
   obtain⟨k,Ts,pm,hkl,rfl,hg,hld,htl,htb,hnt,hkp⟩:=hrel;have NT:=γ hnt;clear hnt;have hMw: ¬one M w.heap.size:=fun e=>(by have h0:=K1.o.2.2.2.2.2.1;unfold one at e;omega);by_cases hlt:k<l.length
   ·obtain⟨s,hs⟩: ∃s,l[k]?=some s:=⟨_,ι hlt⟩
    obtain⟨bs,aep,rfl,hcs⟩:=H3.o.2.2.1.resolve_left (fun h=>by rw[h]at hlt;simp at hlt);have kw:ε η w wr:=K1.o.1.new hkp (fun i hi hs=>by have h0:=K1.o.2.2.2.2.2.1;unfold one at hs;omega);have y0:=kw.cell id (hcs k s hs).1;have y1:=kw.cell id (hcs k s hs).2;have x0:=hkp.cell (p:=⟨w.heap.size,0,none⟩) hMw K1.o.2.1;have x1:=hkp.cell (p:=⟨w.heap.size,1,none⟩) hMw K1.o.2.2.1;have ob:=hkp.heap K1.o.2.2.2.2.1 (fun e=>by unfold one at e;omega);have kA:ε η wr (wr.alloc (.cells #[.string s.1,.string s.2] 35)):=δ.alloc _;have stB:(wr.alloc (.cells #[.string s.1,.string s.2] 35)).heap[wr.heap.size]?=some (.cells #[.string s.1,.string s.2] 35 (0,0)):=heap_alloc_new _ _;have xlt:w.heap.size<wr.heap.size:=(by have:=block_lt_of_cell x0;simpa using this);have cc:=Q8 j _ s.1 _ (H3.o.2.1.pure (kw.trans kA));have hdr:=FU hs;rw[hdr]at hld;have Qq:=H3.o.2.2.2.1 s (ς hs);have G:=γ (θ hg (θ hld (θ htl (θ htb (θ hkp (θ kw (θ kA (θ ob (θ stB Qq)))))))));clear hg hld htl htb hkp kw kA ob stB Qq hdr hcs hs;go_wp2_with fail;refine cc.mono ?_;clear cc;rintro e W2 ⟨rfl,k2⟩;have Qh:ε η wr W2:=G.o.2.2.2.2.2.2.1.trans k2;have tbW:=G.o.2.2.2.1.pure Qh;have obW:=Qh.heap G.o.2.2.2.2.2.2.2.1 id;have stW:=k2.heap G.o.2.2.2.2.2.2.2.2.1 id;have x0:=Qh.cell (p:=⟨w.heap.size,0,none⟩) id x0;have x1:=Qh.cell (p:=⟨w.heap.size,1,none⟩) id x1;have m2:W2.cell? ⟨M+1,2,none⟩=some (.map (some M)):=ζ obW rfl;have z1:W2.cell? ⟨wr.heap.size,1,none⟩=some (.string s.2):=ζ stW rfl;have KW:=γ (θ Qh (θ tbW (θ obW (θ stW (G.o.2.2.2.2.2.1.trans Qh)))));clear Qh tbW obW stW k2 y0 y1
    rcases vV j.nodes s.1 with⟨hf,-⟩|⟨i,d,hf,hd,-,hna,-⟩
    ·have hlk:=KW.o.2.1.at_.YZ (-1) (.inl (by decide))
     have F:=γ (nG.bad (v:= .slice na j.nodes.length cap) (w:=w) (w':=W2) (lD iM.o (by rw[G.o.2.1];exact sH (.inl (by rw[hf];decide)))) (by decide) KW.o.2.2.2.2);rw[hf];clear hf;go_wp2;go_ret2;exact F.o
    ·have hil:i<j.nodes.length:=(μ.1 hd).1
     have hlk:=KW.o.2.1.at_.lookup i (by rw[G.o.2.2.1];exact hil);rw[hf]
     cases hno:Ts.getD i none with
     |some T0=>rw[hno]at hlk;have F:=γ (nG.bad (v:= .slice na j.nodes.length cap) (w:=w) (w':=W2) (lD iM.o (by rw[G.o.2.1];exact sH (.inr (.inr (by rw[hf,Int.toNat_natCast,hno];rfl))))) (by decide) KW.o.2.2.2.2);simp only[oM,Option.map_some,Δ,Option.isSome_some]at hlk;clear hf hno;go_wp2;go_ret2;exact F.o
     |none=>
      rw[hno]at hlk;simp only[oM,Option.map_none,Option.getD_none,Option.isSome_none]at hlk;obtain⟨b,off,pi,ci,p,cap',rfl,hc,hj⟩:=H3.o.1 i d hd;obtain⟨c0,c1,c2,c3,c4,c5,c6⟩:=hc.kept KW.o.2.2.2.2 id;have cs:=xJ d.kind W2;have hNA:=γ hna;have HF:=γ (θ hf (θ hd hno));have Bz:=γ hj;clear hf hd hno hna hj hc
      cases hst:stateful d.kind with
      |false=>rw[hst]at cs;have F:=γ (nG.bad (v:= .slice (some ⟨b,off,none⟩) j.nodes.length cap) (w:=w) (w':=W2) (lD iM.o (by rw[G.o.2.1];exact sH (.inr (.inl (by rw[hNA.o];exact hst))))) (by decide) KW.o.2.2.2.2);clear hst;go_wp2_with (go_at_call 59;refine cs.mono ?_;rintro e w' ⟨rfl,rfl⟩);go_ret2;exact F.o
      |true=>
       rw[hst]at cs;have HST:=γ hst;clear hst;go_wp2_with (go_at_call 59;refine cs.mono ?_;rintro e w' ⟨rfl,rfl⟩);clear cs;have ct:=take_any s.2 G.o.2.2.2.2.2.2.2.2.2.2 W2;unfold jm at ct;have hlt2:=Gy (l:=l.drop (k+1)) HF.o.1 HF.o.2.1 HST.o HF.o.2.2
       cases ht:nR s.2.data.toList with
       |err f=>rw[ht]at ct hlt2;refine ct.mono ?_;clear ct;rintro e W3 ⟨rfl,hf0,k3⟩;have F:=γ (nG.bad (v:= .slice (some ⟨b,off,none⟩) j.nodes.length cap) (w:=w) (w':=W3) (lD iM.o (by rw[G.o.2.1];exact hlt2)) hf0 (KW.o.2.2.2.2.trans k3));clear hlt2 ht;go_wp2;go_ret2;exact F.o
       |ok T rest=>
        rw[ht]at ct hlt2;refine ct.mono ?_;clear ct;rintro e W3 ⟨tb,tm,rfl,tT,k3⟩;have uH:=KW.o.2.2.2.2.trans k3;have x0:=k3.cell (p:=⟨w.heap.size,0,none⟩) id x0;have x1:=k3.cell (p:=⟨w.heap.size,1,none⟩) id x1;have c0:=k3.cell id c0;have c1:=k3.cell id c1;have c2:=k3.cell id c2;have c3:=k3.cell id c3;have c4:=k3.cell id c4;have c5:=k3.cell id c5;have c6:=k3.cell id c6;have m2:=k3.cell (p:=⟨M+1,2,none⟩) id m2;have cf:=fits_any d _ _ tb tm T W3 (Bz.o.pure uH) tT;have RU:=γ hlt2;have T3:=γ (θ tT (θ k3 uH));clear hlt2 ht tT k3 uH hlk
        cases hfit:fP d.kind d.n T with
        |false=>rw[hfit]at cf;have F:=γ (fun w' hk=>nG.bad (v:= .slice (some ⟨b,off,none⟩) j.nodes.length cap) (w:=w) (w':=w') (lD iM.o (by rw[G.o.2.1,RU.o];show(if fP d.kind d.n T=true then _ else _)=_;rw[if_neg (by rw[hfit];simp)])) (show(181:Int)≠0 by decide) hk);clear hfit;go_wp2_with fail;refine cf.mono ?_;clear cf;rintro e W4 ⟨rfl,k4⟩;go_wp2;go_ret2;exact F.o _ (T3.o.2.2.trans k4)
        |true=>
         rw[hfit]at cf;have RX:=γ (show jA j.nodes l (eG j.nodes)=jA j.nodes (l.drop (k+1)) (Ts.set i (some T)) by rw[G.o.2.1,RU.o];show(if fP d.kind d.n T=true then _ else _)=_;rw[if_pos hfit]);clear hfit;go_wp2_with fail;refine cf.mono ?_;clear cf;rintro e W4 ⟨rfl,k4⟩;have m2:=k4.cell (p:=⟨M+1,2,none⟩) id m2;have hfr:=KW.o.2.1.at_.fresh T3.o.1.hm;obtain⟨w5,hup,u2,u3,u4⟩:=((KW.o.2.1.pure T3.o.2.1).pure k4).update (i:=i) (by rw[G.o.2.2.1];exact hil) HF.o.2.2 ((T3.o.1.mono (fun q hq _=>ω KW.o.2.2.2.2.size hq)).pure k4) hfr.1 hfr.2;have hnw:=NT.o.set (i:=i) (b:=tb) (T:=T) (tm:=tm) (ω (KW.o.2.2.2.2.size) T3.o.1.hm);have Z:=γ (θ u2 (θ hnw ((G.o.2.2.2.2.1.new (KW.o.1.trans (T3.o.2.1.trans k4)) (fun _ _ h=>h.elim)).new u3 (fun _ _ h=>h))));clear hnw;clear u2 u3 u4 hfr k4 x0 x1 c0 c1 c2 c3 c4 c5 c6;go_wp2;go_roundg (l.length-(k+1))
         case rel=>exact⟨k+1,_,_,by omega,by go_num,ξ _,RX.o,by rw[length_set];exact G.o.2.2.1,Z.o⟩
         case measure=>have:=G.o.1;omega
   ·have e1:k=l.length:=by omega
    subst e1;rw[drop_of_length_le (ξ _)]at hld;have RX:=γ (P6 iM.o (show jA j.nodes l (eG j.nodes)= .ok Ts by rw[hld];rfl));have x0:=hkp.cell (p:=⟨w.heap.size,0,none⟩) hMw K1.o.2.1;have x1:=hkp.cell (p:=⟨w.heap.size,1,none⟩) hMw K1.o.2.2.1;have HT:=γ (θ htl (θ htb hkp));clear hld htl htb hkp hg hlt;go_wp2_with fail;clear x0 x1;go_loopg [94] j.nodes.length (fun g vi wq=> ∃(k:Nat)(pm:Nat->Nat×Nat),k<=j.nodes.length/\vi= .int .i64 (k:Int)/\j.nodes.length-k<=g/\dh wq (up w.heap.size) M (iJ j.nodes Ts k) pm/\wV w.heap.size (iJ j.nodes Ts k) pm/\ε (one M) W1 wq)
    case atStart=>exact⟨0,pm,by omega,rfl,by omega,by rw[xw];exact HT.o.2.1,by rw[xw];exact NT.o,HT.o.2.2⟩
    case round=>
     obtain⟨k,BU,hkn,rfl,hg,htb,aeX,hkp⟩:=hrel;have NT2:=γ aeX;clear aeX;have kw:ε η w wr:=K1.o.1.new hkp (fun i hi hs=>by have h0:=K1.o.2.2.2.2.2.1;unfold one at hs;omega);have ob:=hkp.heap K1.o.2.2.2.2.1 (fun e=>by unfold one at e;omega);have Dp:=γ kw.size;by_cases hlt:k<j.nodes.length
     ·obtain⟨d,hd⟩: ∃d,j.nodes[k]?=some d:=⟨_,ι hlt⟩
      obtain⟨b,off,pi,ci,p,cap',rfl,hc,hj⟩:=H3.o.1 k d hd;obtain⟨c0,c1,c2,c3,c4,c5,c6⟩:=hc.kept kw id;have m2:wr.cell? ⟨M+1,2,none⟩=some (.map (some M)):=ζ ob rfl;have mlt:M+1<wr.heap.size:=(by have:=block_lt_of_cell m2;simpa using this);have kA:ε η wr (wr.alloc (.cells (bQ d pi ci p cap') 42)):=δ.alloc _;have hlk:=(htb.pure kA).at_.lookup k (by rw[lQ HT.o.1 hkn];exact hlt);rw[AA HT.o.1 hkn]at hlk;have m2a:=kA.cell (p:=⟨M+1,2,none⟩) id m2;have nB:(wr.alloc (.cells (bQ d pi ci p cap') 42)).heap[wr.heap.size]?=some (.cells (bQ d pi ci p cap') 42 (0,0)):=heap_alloc_new _ _;have n1:(wr.alloc (.cells (bQ d pi ci p cap') 42)).cell? ⟨wr.heap.size,1,none⟩=some (.int .u8 d.kind):=ζ nB rfl;have G:=γ (θ hg (θ htb (θ hkp (θ hd kA))));have cs:=xJ d.kind (wr.alloc (.cells (bQ d pi ci p cap') 42));clear hg htb hkp hd kA hj hc nB kw ob H3
      cases hno:Ts.getD k none with
      |some T0=>
       rw[hno]at hlk;simp only[oM,Option.map_some,Δ,Option.isSome_some]at hlk;have F:=γ (Az HT.o.1 G.o.2.2.2.1 (.inl (by rw[hno];rfl)));clear hno cs;go_wp2;go_roundg (j.nodes.length-(k+1))
       case rel=>exact⟨k+1,BU,by omega,by go_num,ξ _,by rw[F.o];exact G.o.2.1.pure G.o.2.2.2.2,by rw[F.o];exact NT2.o,G.o.2.2.1.new G.o.2.2.2.2 (fun _ _ h=>h.elim)⟩
       case measure=>have:=G.o.1;omega
      |none=>
       rw[hno]at hlk;simp only[oM,Option.map_none,Option.getD_none,Option.isSome_none]at hlk;have HN:=γ hno;clear hno
       cases hst:stateful d.kind with
       |false=>
        rw[hst]at cs;have F:=γ (Az HT.o.1 G.o.2.2.2.1 (.inr hst));clear hst;go_wp2_with (go_at_call 59;refine cs.mono ?_;rintro e w' ⟨rfl,rfl⟩);go_roundg (j.nodes.length-(k+1))
        case rel=>exact⟨k+1,BU,by omega,by go_num,ξ _,by rw[F.o];exact G.o.2.1.pure G.o.2.2.2.2,by rw[F.o];exact NT2.o,G.o.2.2.1.new G.o.2.2.2.2 (fun _ _ h=>h.elim)⟩
        case measure=>have:=G.o.1;omega
       |true=>
        rw[hst]at cs;have F:=γ (Ko HT.o.1 G.o.2.2.2.1 HN.o hst);clear hst;go_wp2_with (go_at_call 59;refine cs.mono ?_;rintro e w' ⟨rfl,rfl⟩);clear cs hlk;obtain⟨WA,QO⟩:=acu ((wr.alloc (.cells (bQ d pi ci p cap') 42)));rw[QO]at G m2a;have QN:(wr.alloc (.cells #[.string d.uid,.int .u8 d.kind,.slice pi d.ins.length ci,.int .u8 d.x.op,.int .i64 d.x.n,.slice p d.x.args.length cap',.int .i64 d.n] 42))=WA:=QO;try rw[QN]
        clear QO QN n1 m2 mlt c0 c1 c2 c3 c4 c5 c6;refine acv [0,1,2,3,4,5,6] ?_;simp only[aco];iterate 5 (apply aj rfl rfl;(intro W hW;have z0:=hW.cell id m2a;go_simp;rfl);go_frame)
        apply ay rfl rfl;intro K hK;go_wp2_with fail;refine(new_any _).mono ?_;rintro e w5 ⟨b5,m5,rfl,t5,k5⟩;go_wp2;refine hK _ _ (fun _=>(ε.refl η WA).drew.trans k5) ?_;clear hK;have hfr:=(G.o.2.1.pure (G.o.2.2.2.2.trans ((ε.refl η WA).drew))).at_.fresh t5.hm;obtain⟨w6,hup,u2,u3,u4⟩:=(G.o.2.1.pure (G.o.2.2.2.2.trans ((ε.refl η WA).drew.trans k5))).update (i:=k) (by rw[lQ HT.o.1 hkn];exact hlt) (by rw[AA HT.o.1 hkn];exact HN.o) (t5.mono (fun q hq _=>ω Dp.o (ω G.o.2.2.2.2.size (ω (ε.refl η WA).drew.size hq)))) hfr.1 hfr.2;have hnw:=NT2.o.set (i:=k) (b:=b5) (T:=[]) (tm:=m5) (ω (G.o.2.2.2.2.size) (ω ((ε.refl η WA).drew.size) t5.hm)|>ω Dp.o);rw[<-F.o]at u2 hnw;have Z:=γ (θ u2 (θ hnw ((G.o.2.2.1.new (G.o.2.2.2.2.trans ((ε.refl η WA).drew.trans k5)) (fun _ _ h=>h.elim)).new u3 (fun _ _ h=>h))));clear u2 u3 u4 hfr t5 k5 m2a hnw;apply ay rfl rfl;intro K2 hK2;go_wp2;refine hK2 _ _ (fun h=>absurd rfl h) (jG (by kernel_rfl) ?_);clear hK2;go_wp2;go_roundg (j.nodes.length-(k+1))
        case rel=>exact⟨k+1,_,by omega,by go_num,ξ _,Z.o⟩
        case measure=>have:=G.o.1;omega
     ·have e1:k=j.nodes.length:=by omega
      subst e1;have abx:=NT2.o;rw[Kq HT.o.1]at htb abx
      have F:=γ (show nG w (.slice na j.nodes.length cap) j l (.returned (.tuple #[.pointer (some ⟨M+1,0,none⟩),.int .i64 0])) wr by
       unfold nG;rw[RX.o]
       exact⟨M+1,M,BU,rfl,ob,Nat.le_of_lt (Nat.lt_succ_of_lt K1.o.2.2.2.2.2.1),H3.o.2.2.2.2.pure kw,HP.o,Nat.le_of_lt K1.o.2.2.2.2.2.1,htb,abx,kw⟩)
      clear htb hkp kw ob hg hlt abx;go_wp2;go_ret2;exact F.o
 ·have F:=γ (fun w' hk=>nG.bad (v:= .slice na j.nodes.length cap) (w:=w) (w':=w') (JO (l:=l) (show iD j=false by rw[HM.o];exact decide_eq_false hz)) (by decide) hk)
  go_wp2_with (go_at_call 41;refine cm.mono ?_;rintro e W0 ⟨rfl,k2⟩);go_ret2;exact F.o _ (KA.o.trans k2)
end
