/- Numbers out of bytes (plain): what is read, and that it is what was put. -/
import Derived.Test.YtglbkodmmogomaaGreatDoorI26
set_option linter.unusedVariables false
set_option linter.unusedSimpArgs false
set_option maxHeartbeats 8000000
set_option maxRecDepth 100000
namespace Go.Proofs.YtglbkodmmogomaaGreatDoor
section

end
section
open Go Go.RowKit
theorem Qu {α β:Type}{a f:Int}(h:(Rd.err a:Rd α)= .err f):(Rd.err a:Rd β)= .err f:=by injection h with h;rw[h]
theorem row_of {r:List UInt8}{x1 x2 x3:Rd Int}{M:Nat}(h1:numAt bg hi64 (Rd.ok () r)=x1)(h2:numAt bg hi64 x1=x2)(h3:numAt 0 16 x2=x3)(hM:dM 0 x3=(M:Int)):
 (∀f,bU M x3= .err f->row r= .err f)/\(∀ns r4,bU M x3= .ok ns r4->row r= .ok (dM bg x1,(dM bg x2,ns)) r4):=by
 rw[adC,h1,h2,h3]
 cases x1 with
 |err f1=>have e2:x2= .err f1:=(by rw[<-h2];rfl);subst e2;have e3:x3= .err f1:=(by rw[<-h3];rfl);subst e3;exact⟨fun f h=>Qu (α:=List Int) h,fun ns r4 h=>by cases h⟩
 |ok key r1=>
  cases x2 with
  |err f2=>have e3:x3= .err f2:=(by rw[<-h3];rfl);subst e3;exact⟨fun f h=>Qu (α:=List Int) h,fun ns r4 h=>by cases h⟩
  |ok acc r2=>
   cases x3 with
   |err f3=>exact⟨fun f h=>Qu (α:=List Int) h,fun ns r4 h=>by cases h⟩
   |ok n r3=>have hn:n=(M:Int):=hM;subst hn;simp only[Rd.bind,Int.toNat_natCast];refine⟨fun f h=>by rw[h],fun ns r4 h=>by rw[h];rfl⟩
theorem F8 (T:Tab)(p:Int×Cell):qw (T++[p])=p.1:=by unfold qw;rw[List.getLast?_append];rfl
theorem kF {T:Tab}{key:Int}:gY T key=((decide (T.length=0)||bH (qw T) key)&&decide (aV T (grp key)<40)):=by
 unfold gY qw
 cases hl:T.getLast? with
 |none=>rw[List.getLast?_eq_none_iff]at hl;subst hl;rfl
 |some q=>have:T.length≠0:=fun h=>(by rw[τ h]at hl;cases hl);rw[decide_eq_false this,Bool.false_or]
theorem XA {T:Tab}{k:Int}{c:Cell}:dJ (T++[(k,c)])->gQ k c T=T++[(k,c)]:=by
 intro h;have hT:=h.snoc.1;refine dJ.ext hT.gQ h fun p=>?_;have hk: ∀q∈T,q.1≠k:=fun q hq e=>(by unfold dJ at h;rw[List.pairwise_append]at h;have:=h.2.2 q hq (k,c) (by simp);simp only[e]at this;rw[bM]at this;cases this);rw[jU hT,abL,abQ];constructor
 ·rintro(h1|⟨h1,_⟩)
  ·exact .inr h1
  ·exact .inl h1
 ·rintro(h1|h1)
  ·exact .inr ⟨h1,hk p h1⟩
  ·exact .inl h1
theorem TabAt.push {w w':World}{B:Nat->Prop}{b m:Nat}{T:Tab}(h:TabAt w B b m T){l:List (Int×Value)}(hl:dQ w m l)(hperm:(l.map (·.1)).Perm (bT T))
 (hc: ∀p∈l,∃c,(p.1,c)∈T/\CellIs w B p.2 c) {p:Int×Cell} {v:Value} (hl':dQ w' m (upd p.1 v l)) (hk:ε (one m) w w') (hv:CellIs w' B v p.2) (h1:aH p.1) (h2:G8 p.2) (hm:gY T p.1=true):TabAt w' B b m (T++[p]):=by
 have hok:=h.ok.push h1 h2 hm;have e:gQ p.1 p.2 T=T++[p]:=XA (k:=p.1) (c:=p.2) hok.rises;rw[<-e];exact h.put hl hperm hc hl' hk hv (by rw[e];exact hok)
theorem TN {T:Tab}{p:Int×Cell}{l:List (Int×Value)}(hok:eP (T++[p]))(hperm:(l.map (·.1)).Perm (bT T)):p.1∉l.map (·.1):=by intro hm;have hm2:=hperm.mem_iff.1 hm;have hnd:=hok.rises.nodup;unfold bT at hnd hm2;rw[abM,List.nodup_append]at hnd;exact hnd.2.2 _ hm2 p.1 (by simp) rfl
theorem YF (w:World)(q:Nat)(os:Array Obj):ε η w (Sort.grow (w.drewN q) os):=
 ⟨rfl,rfl,rfl,by simp[Sort.grow,World.drewN],fun k hk _=>by simp[Sort.grow,World.drewN,Array.getElem?_append_left hk]⟩
theorem take_any (s:ByteArray)(hs:s.size<=maxLen)(w:World):Calls Tryz.prog 15 #[.string s] w (iU w s.data.toList):=by
 go_enter Tryz.func15,Tryz.ntmps15;go_wp2_with fail;obtain⟨W0,hW0⟩: ∃W0,((w.alloc (.cells #[.string s] 9)).alloc (.cells #[.int .i64 0] 28))=W0:=⟨_,rfl⟩;have hst:jX W0 (w.heap.size+1) w.heap.size (Rd.ok () s.data.toList):=(by rw[<-hW0];refine⟨by have:=heap_alloc_new (w.alloc (.cells #[.string s] 9)) (.cells #[.int .i64 0] 28);rwa[World.size_alloc]at this,s,?_,rfl,hs⟩;rw[Below.heap_alloc _ _ _ (by simp)];exact heap_alloc_new _ _);have k0:ε η w W0:=(by rw[<-hW0];exact(δ.alloc _).alloc _);have hs0:W0.heap.size=w.heap.size+2:=(by rw[<-hW0];simp);rw[hW0];clear hW0;obtain⟨S,hS⟩: ∃S,w.heap.size=S:=⟨_,rfl⟩;obtain⟨E,hE⟩: ∃E,S+1=E:=⟨_,rfl⟩;rw[hS,hE]at hst⊢;rw[hS]at hs0;refine(new_any W0).mono ?_;rintro e W1 ⟨b,m,rfl,t1,k1⟩;have xH:E≠S:=(by omega);have I0:Ap w W1 (DC w E S) E S b m [] (Rd.ok () s.data.toList):=⟨hst.kept k1 id id,t1.mono (fun k hk _=>by unfold up at hk;omega),k0.trans k1⟩;have J0:=γ I0;have yH:=γ (θ hS hE);clear I0 hst k0 hs0 t1 k1 hS hE;go_wp2_with fail;(with_reducible refine(tq 0 320 E S (Rd.ok () s.data.toList) W1 xH J0.o.st).mono ?_);rintro e W2 hq;have J1:=γ (J0.o.num (fun k hk=>hk.2) (by have:=yH.o;omega) (by have:=yH.o;omega) hq);obtain⟨rfl,_,_⟩:=hq;clear J0
 cases hx:numAt 0 320 (Rd.ok () s.data.toList)with
 |err f=>
  rw[hx]at J1;have hT:mZ s.data.toList= .err f:=(by have hx':num 0 320 s.data.toList= .err f:=hx;unfold mZ;rw[hx'];rfl);have hf:f≠0:=ac2 (show num 0 320 s.data.toList= .err f from hx);have F:ace (iU w s.data.toList (.returned (.tuple #[.pointer none,.int .i64 f])) W2.drew):=(by show iU _ _ _ _;unfold iU;rw[hT];exact⟨rfl,hf,J1.o.kept.drew⟩);have hf1:(f==0)=false:=beq_eq_false_iff_ne.2 hf;have hf2:(f !=0)=true:=bne_iff_ne.2 hf;have c0:=cell_of_one J1.o.st.1;have KD:=γ (show ε η W2 W2.drew from δ.drew);simp only[dM];clear hx hT hf;go_wp2_with fail;go_loopg [15] 1 (fun g vi wr=>vi= .int .i64 0/\wr=W2)
  case atStart=>exact⟨rfl,rfl⟩
  case round=>
   obtain⟨rfl,rfl⟩:=hrel;go_wp2_with fail;refine ak [0,1,2] (fun W=>ε η wr W) (by kernel_rfl) (by kernel_rfl) rfl KD.o ?_;simp only[abU];iterate 3 (apply aj rfl rfl;(intro W hW;have z0:=hW.cell id c0;go_simp;rfl);go_frame)
   refine aG (fun _=>KD.o) ?_;go_wp2_with fail;go_ret2;exact F.o
 |ok n0 r0=>
  rw[hx]at J1;have hnb:=vF (x:=Rd.ok () s.data.toList) (lo:=0) (hi:=320) (by decide);rw[hx]at hnb;simp only[dM]at hnb⊢;obtain⟨N,rfl⟩:=Int.eq_ofNat_of_zero_le hnb.1;have hN:N<=320:=(by omega);have hT:mZ s.data.toList=(dZ N [] r0).bind fun T r=>if r=[]then .ok T []else .err 21:=(by have hx':num 0 320 s.data.toList= .ok (N:Int) r0:=hx;unfold mZ;rw[hx'];rfl);have HT:=γ hT;clear hx hnb hT;go_wp2_with fail;go_loopg [7,15] 320 (fun g vl vi wr=> ∃(k:Nat)(T:Tab)(r:List UInt8),k<=N/\vi= .int .i64 (k:Int)/\vl= .int .i64 (qw T)/\T.length=k/\Ap w wr (DC w E S) E S b m T (Rd.ok () r)/\dZ N [] r0=dZ (N-k) T r/\N-k<=g)
  case atStart=>exact⟨0,[],r0,by omega,rfl,rfl,rfl,⟨J1.o.st,J1.o.tab,J1.o.kept⟩,rfl,by omega⟩
  case round=>
   obtain⟨k,T,r,hk,rfl,rfl,hTl,hi,hrr,hg⟩:=hrel;have HI:=γ (θ hi (θ hrr (θ hg hTl)));clear hi hrr hg hTl;by_cases hlt:k<N
   ·go_wp2_with fail
    (with_reducible refine(tq (-9223372036854775808) 9223372036854775807 E S (Rd.ok () r) wr xH HI.o.1.st).mono ?_);rintro e W3 hq;have hq:rG wr E S bg hi64 (Rd.ok () r) e W3:=hq;have I3:=γ (HI.o.1.num (fun k hk=>hk.2) (by have:=yH.o;omega) (by have:=yH.o;omega) hq);obtain⟨rfl,_,_⟩:=hq;obtain⟨x1,hx1⟩: ∃x1,numAt bg hi64 (Rd.ok () r)=x1:=⟨_,rfl⟩;rw[hx1]at I3⊢;obtain⟨v1,hv1⟩: ∃v1,dM bg x1=v1:=⟨_,rfl⟩;rw[hv1];have X1:=γ (θ hx1 hv1);clear hx1 hv1;go_wp2_with fail;(with_reducible refine(tq (-9223372036854775808) 9223372036854775807 E S x1 W3 xH I3.o.st).mono ?_);rintro e W4 hq;have hq:rG W3 E S bg hi64 x1 e W4:=hq;have I4:=γ (I3.o.num (fun k hk=>hk.2) (by have:=yH.o;omega) (by have:=yH.o;omega) hq);obtain⟨rfl,_,_⟩:=hq;obtain⟨x2,hx2⟩: ∃x2,numAt bg hi64 x1=x2:=⟨_,rfl⟩;rw[hx2]at I4⊢;obtain⟨v2,hv2⟩: ∃v2,dM bg x2=v2:=⟨_,rfl⟩;rw[hv2];have X2:=γ (θ hx2 hv2);clear hx2 hv2 I3;go_wp2_with fail;obtain⟨C,hC⟩: ∃C,W4.heap.size=C:=⟨_,rfl⟩;obtain⟨W5,tV⟩: ∃W5,W4.alloc (.cells #[.int .i64 v2,.slice none 0 0] 109)=W5:=⟨_,rfl⟩;have k5:ε η W4 W5:=(by rw[<-tV];exact δ.alloc _);have hcb:W5.heap[C]?=some (.cells #[.int .i64 v2,.slice none 0 0] 109 (0,0)):=(by rw[<-tV,<-hC];exact heap_alloc_new _ _);have hs5:W5.heap.size=C+1:=(by rw[<-tV,<-hC];simp);have hEC:E<C/\S<C:=(by rw[<-hC];exact I4.o.st.lt);have hmC:m<C/\b<C:=(by rw[<-hC];exact I4.o.tab.lt);have hwC:w.heap.size<=C:=(by rw[<-hC];exact I4.o.kept.size);rw[tV,hC];obtain⟨B5,Gv⟩: ∃B5:Nat->Prop,B5=fun k=>DC w E S k/\k<C:=⟨_,rfl⟩;have t5:TabAt W5 B5 b m T:=(I4.o.tab.mono (fun k hk hl=>by rw[Gv];exact⟨hk,by omega⟩)).pure k5;have hB: ∀k,B5 k->k<C/\k≠E/\k≠S:=fun k hk=>(by rw[Gv]at hk;exact⟨hk.2,hk.1.2⟩);have hB': ∀k,B5 k->DC w E S k:=fun k hk=>(by rw[Gv]at hk;exact hk.1);have I5:=γ (θ (show Ap w W5 B5 E S b m T x2 from⟨I4.o.st.kept k5 id id,t5,I4.o.kept.trans k5⟩) (θ hcb (θ hs5 (θ hEC (θ hmC (θ hwC (θ hB hB')))))));clear k5 hcb hs5 hEC hmC hwC tV hC I4 t5 hB hB' Gv;(with_reducible refine(tq 0 16 E S x2 W5 xH I5.o.1.st).mono ?_);rintro e W6 hq;have I6:=γ (I5.o.1.num (fun k hk=>(I5.o.2.2.2.2.2.2.1 k hk).2) (by have:=yH.o;omega) (by have:=yH.o;omega) hq)
    have aeC:W6.heap[C]?=some (.cells #[.int .i64 v2,.slice none 0 0] 109 (0,0)):=hq.2.2.heap I5.o.2.1 (fun h=>by
     have:=I5.o.2.2.2.1
     rcases h with h|h<;>omega)
    have hs6:C<W6.heap.size:=(by have:=hq.2.2.size;have:=I5.o.2.2.1;omega);obtain⟨rfl,_,_⟩:=hq;obtain⟨x3,hx3⟩: ∃x3,numAt 0 16 x2=x3:=⟨_,rfl⟩;have hr3:=vF (x:=x2) (lo:=0) (hi:=16) (by decide);rw[hx3]at I6 hr3⊢;obtain⟨M,hM⟩: ∃M:Nat,dM 0 x3=(M:Int):=⟨(dM 0 x3).toNat,by omega⟩;rw[hM]at hr3⊢;have ah1:M<=16:=(by omega);have X3:=γ (θ hx3 hM);have J6:=γ (θ aeC hs6);clear hr3 hx3 hM aeC hs6;go_wp2_with fail;have hc0:CU w W6 B5 E S C b m T v2 x3 0 (.slice none 0 0) 0 []:=by
     refine⟨⟨?_,I6.o.tab,I6.o.kept⟩,J6.o.1,World.ownsRow_nil _ _ _ _,rfl,fun ns r h=>?_⟩
     ·exact I6.o.st.same (fun a r h=>⟨[],by rw[h];rfl⟩) (fun f h=>by rw[h];rfl)
     ·cases x3 with
      |err f=>cases h
      |ok a r'=>injection h with h1 h2
    have HC0:=γ hc0;clear hc0 I6 J6;have hB:=I5.o.2.2.2.2.2.2.1;have HB:=γ hB;clear hB;go_loopg [25] 16 (fun g vj wr2=> ∃(j n:Nat)(lv:Value)(L:List Int),j<=M/\vj= .int .i64 (j:Int)/\CU w wr2 B5 E S C b m T v2 x3 j lv n L/\M-j<=g)
    case atStart=>exact⟨0,0,_,[],by omega,rfl,HC0.o,by omega⟩
    case round=>
     obtain⟨j,n,lv,L,hj,rfl,hi,hg⟩:=hrel;have HI2:=γ (θ hi hg);clear hi hg;by_cases hjl:j<M
     ·have c1:=(lW HI2.o.1.cell).2.1
      obtain⟨la,lc,rfl⟩:=au HI2.o.1.own;have KD:=γ (show ε (yw E S C) wr wr.drew from δ.drew);go_wp2_with fail;refine ak [0,1,2,3,4,5,6,7] (fun W=>ε (yw E S C) wr W) (by kernel_rfl) (by kernel_rfl) rfl KD.o ?_;simp only[abU];have hnC: ¬yw E S C C:=fun h=>by
       have:=I5.o.2.2.2.1
       rcases h with h|h|h<;>omega
      iterate 3 (apply aj rfl rfl;(intro W hW;have z1:=hW.cell (p:=⟨C,1,none⟩) hnC c1;go_simp;rfl);go_frame)
      apply aA rfl rfl;intro K hK;go_wp2_with fail;(with_reducible refine(tq (-9223372036854775808) 9223372036854775807 E S (bU j x3) wr.drew xH (HI2.o.1.inn.st.kept (ε.refl η wr).drew id id)).mono ?_);rintro e W7 hq;have hq:rG wr.drew E S bg hi64 (bU j x3) e W7:=hq;obtain⟨v7,n7,w7,f1,f2,f3,f4,f5,⟨a7,c7,rfl⟩,f6⟩:=HI2.o.1.step HB.o (by have:=yH.o;have:=I5.o.2.2.2.1;omega) (by have:=yH.o;have:=I5.o.2.2.2.1;omega) (by omega) hq;obtain⟨rfl,_,_⟩:=hq;obtain⟨vv,hvv⟩: ∃vv,dM bg (numAt bg hi64 (bU j x3))=vv:=⟨_,rfl⟩;rw[hvv]at f1 f6⊢;have F6:=γ f6;have F1:=γ f1;clear f6 f1 hvv;go_wp2_with fail;refine hK _ _ (fun _=>f2) ?_;clear hK;apply aA rfl rfl;intro K hK;go_wp2_with fail;refine hK _ _ (fun _=>f2.alloc _) ?_;clear hK;apply aA rfl rfl;intro K hK;refine KE (.tmp 28) (.tmp 31) 97 rfl (.slice la n lc) (.slice (some ⟨W7.heap.size,0,none⟩) 1 1) _ rfl rfl F1.o ?_;refine hK _ _ (fun _=>f3) ?_;clear hK;apply aj rfl rfl
      ·intro W hW;go_simp;rfl
      go_frame;apply aA rfl rfl;intro K hK;go_wp2_with fail;refine hK _ _ (fun h=>absurd rfl h) (jo (by kernel_rfl) ?_);clear hK;go_wp2_with fail;go_roundg (M-(j+1))
      case rel=>exact⟨j+1,n7,_,_,by omega,by go_num,F6.o,ξ _⟩
      case measure=>have:=HI2.o.2;omega
     ·have hjM:j=M:=by omega
      subst hjM;have hro:=row_of X1.o.1 X2.o.1 X3.o.1 X3.o.2;rw[X1.o.2,X2.o.2]at hro;have eN:N-k=(N-(k+1))+1:=by omega
      cases hx4:bU j x3 with
      |err f=>
       have hst:=HI2.o.1.inn.st;rw[hx4]at hst;have c0:=cell_of_one hst.1;have hf:=hst.2.1;have hf1:(f==0)=false:=beq_eq_false_iff_ne.2 hf;have hf2:(f !=0)=true:=bne_iff_ne.2 hf;have F:ace (iU w s.data.toList (.returned (.tuple #[.pointer none,.int .i64 f])) wr.drew):=(by show iU _ _ _ _;unfold iU;rw[HT.o,HI.o.2.1,eN,dZ,hro.1 f hx4];exact⟨rfl,hf,HI2.o.1.inn.kept.drew⟩);clear hst hf hro eN hx4;go_wp2_with fail;refine ak [0,1,2] (fun W=>ε η wr W) (by kernel_rfl) (by kernel_rfl) rfl (ε.refl η wr).drew ?_;simp only[abU];iterate 3 (apply aj rfl rfl;(intro W hW;have z0:=hW.cell id c0;go_simp;rfl);go_frame)
       refine aG (fun _=>(ε.refl η wr).drew) ?_;go_wp2_with fail;go_ret2;exact F.o
      |ok ns r4=>
       have hst:=HI2.o.1.inn.st;rw[hx4]at hst;have c0:=cell_of_one hst.1;have f0:=free_of_one hst.1;have hEl:=lt_of_block hst.1;have hrow:=hro.2 ns r4 hx4;have hL:=HI2.o.1.val ns r4 hx4;have RW:=γ (θ hst (θ hrow (θ hL eN)));clear hro hx4 hst hrow hL eN;have hlen:=HI.o.2.2.2;obtain⟨la,lc,hlv⟩:=au HI2.o.1.own;subst hlv;have JU:=γ hlen;clear hlen;by_cases hkz:k=0
       ·have hk0: ¬(0:Int)<(k:Int):=by omega
        have HZ:=γ hkz;clear hkz;go_wp2_with fail;(with_reducible refine(xg v1 _).mono ?_);rintro e w' ⟨rfl,rfl⟩;go_wp2_with fail;(with_reducible refine(zV B5 b m T (grp v1) _ (HI2.o.1.inn.tab.pure (ε.refl η wr))).mono ?_);rintro e WM ⟨rfl,kM⟩;have KB:=γ (show ε η wr WM from((ε.refl η wr)).trans kM);clear kM;by_cases yB:40<=aV T (grp v1)
        ·have ET:(40:Int)<=((aV T (grp v1):Nat):Int):=by omega
         have oJ:=γ (show gY T v1=false from by rw[kF,decide_eq_false (by omega: ¬aV T (grp v1)<40),Bool.and_false]);have hb1:=KB.o.heap RW.o.1.1 id;have cb:=cell_of_one hb1;have fb:=free_of_one hb1;have Y8:=lt_of_block hb1;have cb2:=cell_of_one (one_setCell (u:= .int .i64 21) hb1);have F:ace (iU w s.data.toList (.returned (.tuple #[.pointer none,.int .i64 21])) (WM.setCell ⟨E,0,none⟩ (.int .i64 21)).drew):=(by show iU _ _ _ _;unfold iU;rw[HT.o,HI.o.2.1,RW.o.2.2.2,dZ,RW.o.2.1];simp only[Rd.bind];rw[if_neg (by rw[oJ.o];decide)];exact⟨rfl,by decide,((HI2.o.1.inn.kept.trans KB.o).setCell (p:=⟨E,0,none⟩) (.inr (by have:=yH.o;show w.heap.size<=E;omega)) _).drew⟩);clear hb1;go_wp2_with fail;obtain⟨WW,pW⟩: ∃WW,WM.setCell ⟨E,0,none⟩ (.int .i64 21)=WW:=⟨_,rfl⟩;rw[pW]at F cb2⊢;clear pW;refine ak [0,1,2] (fun W=>ε η WW W) (by kernel_rfl) (by kernel_rfl) rfl (ε.refl η WW).drew ?_;simp only[abU];iterate 3 (apply aj rfl rfl;(intro W hW;have z0:=hW.cell id cb2;go_simp;rfl);go_frame)
         refine aG (fun _=>(ε.refl η WW).drew) ?_;go_wp2_with fail;go_ret2;exact F.o
        ·have ET: ¬(40:Int)<=((aV T (grp v1):Nat):Int):=by omega
         have oJ:=γ (show gY T v1=true from by rw[kF,decide_eq_true (by omega:aV T (grp v1)<40),Bool.and_true];exact by rw[JU.o,decide_eq_true HZ.o];rfl);have hb1:=KB.o.heap RW.o.1.1 id;have cb:=cell_of_one hb1;have fb:=free_of_one hb1;have uw:TabAt WM (DC w E S) b m T:=(HI2.o.1.inn.tab.pure KB.o).mono (fun k hk _=>I5.o.2.2.2.2.2.2.2 k hk);have x2:=uw.cell;have hcm:=lW (KB.o.heap HI2.o.1.cell id);have y0:=hcm.1;have y1:=hcm.2.1;obtain⟨l5,hl5,xA,Qc⟩:=uw.map;obtain⟨_,R1,R2⟩:=y8 RW.o.2.1;have hok:=uw.ok.push (p:=(v1,(v2,ns))) R1 R2 oJ.o;have hnew:=TN hok xA;obtain⟨w6,born,hme,k6,hs6,hes⟩:=(hl5.kept (ε.refl η WM).drew id).entry (P:=Tryz.prog) Tryz.underlying113 Tryz.underlying2 hnew (Tryz.zeroValue109 _);obtain⟨w7,ahF,P5,YH,hs7⟩:=hes (.agg #[.int .i64 v2,.slice la n lc]);have k7:ε (one m) WM w7:=(show ε (one m) WM WM.drew from δ.drew).trans YH;have Jr:ε (one m) WM w6:=(show ε (one m) WM WM.drew from δ.drew).trans k6;have hci:CellIs WM (DC w E S) (.agg #[.int .i64 v2,.slice la n lc]) (v2,ns):=by
          refine⟨_,rfl,?_,fun g hg=>?_⟩
          ·have:=(Reads.aN HI2.o.1.own).pure KB.o
           rw[RW.o.2.2.1]at this;exact this
          ·have h1:=(nZ HI2.o.1.own hg).1
           have h2:=I5.o.2.2.2.1;have h3:=I5.o.2.2.2.2.2.1;exact⟨by omega,by omega,by omega⟩
         have Y7: ¬one m E:=fun e=>(I5.o.2.2.2.2.2.2.1 m HI2.o.1.inn.tab.hm).2.1 e.symm;have Y4: ¬one m S:=fun e=>(I5.o.2.2.2.2.2.2.1 m HI2.o.1.inn.tab.hm).2.2 e.symm
         have F:=γ (show Ap w w7 (DC w E S) E S b m (T++[(v1,(v2,ns))]) (Rd.ok () r4)from
          ⟨(show jX wr E S (Rd.ok () r4)from RW.o.1).kept KB.o id id|>.kept k7 Y7 Y4,
           uw.push hl5 xA Qc P5 k7 (hci.kept k7 (.map hl5 _)) R1 R2 oJ.o,
           (HI2.o.1.inn.kept.trans KB.o).new k7 (fun i hi e=>by have:=uw.hm.1;unfold one at e;omega)⟩)
         have F2:=γ (show dZ N [] r0=dZ (N-(k+1)) (T++[(v1,(v2,ns))]) r4 from by
          rw[HI.o.2.1,RW.o.2.2.2,dZ,RW.o.2.1];simp only[Rd.bind]
          rw[if_pos oJ.o])
         have K6:=γ Jr;clear hb1 uw hcm hl5 xA Qc R1 R2 hok hnew hes P5 YH k7 k6 Jr hs6 hs7 hci Y7 Y4;go_wp2_with fail;refine ak [0,1,2,3,4,5,6,7,8,9,10] (fun W=>ε (one m) WM W) (by kernel_rfl) (by kernel_rfl) rfl (ε.refl (one m) WM).drew ?_;simp only[abU];have hbm: ¬one m b:=fun e=>(by obtain⟨l,hl,_⟩:=HI2.o.1.inn.tab.map;obtain⟨L0,cl,hL0,_⟩:=hl;have:=HI2.o.1.inn.tab.obj;rw[show b=m from e,hL0.heap]at this;cases this);have Y9: ¬one m C:=fun e=>(by have:=I5.o.2.2.2.2.1;unfold one at e;omega);iterate 8 (apply aj rfl rfl;(intro W hW;have z0:=hW.cell (p:=⟨b,0,none⟩) hbm x2;have z1:=hW.cell (p:=⟨C,0,none⟩) Y9 y0;have z2:=hW.cell (p:=⟨C,1,none⟩) Y9 y1;go_simp;rfl);go_frame)
         apply aA rfl rfl;intro K hK;go_wp2_with fail;refine hK _ _ (fun _=>K6.o) ?_;clear hK;apply aj rfl rfl
         ·intro W hW;go_simp;rfl
         go_frame;apply aA rfl rfl;intro K2 hK2;go_wp2_with fail;refine hK2 _ _ (fun h=>absurd rfl h) (jo (by kernel_rfl) ?_);clear hK2;go_wp2_with fail;go_roundg (N-(k+1))
         case rel=>exact⟨k+1,_,r4,by omega,by go_num,by rw[F8],by rw[ν,HI.o.2.2.2];rfl,F.o,F2.o,ξ _⟩
         case measure=>have:=HI.o.2.2.1;omega
       ·have hk0:(0:Int)<(k:Int):=by omega
        have hblt:=Uh (qw T) v1;obtain⟨cc,hcc⟩: ∃cc,yR (qw T) v1=cc:=⟨_,rfl⟩;have ZO:=γ (θ hcc hblt);clear hcc hblt;go_wp2_with fail;(with_reducible refine(GY (qw T) v1 wr).mono ?_);rintro e WB ⟨rfl,q,os',Qe⟩;have KB0:=γ (show ε η wr WB from by rw[Qe];exact YF _ _ _);rw[ZO.o.1];clear Qe;by_cases hless:bH (qw T) v1=true
        ·have ahX: ¬(0:Int)<=cc:=by
          have h1:=ZO.o.2;rw[hless,ZO.o.1]at h1;have:=of_decide_eq_true h1;omega
         have HLS:=γ hless;clear hless;go_wp2_with fail;(with_reducible refine(xg v1 _).mono ?_);rintro e w' ⟨rfl,rfl⟩;go_wp2_with fail;(with_reducible refine(zV B5 b m T (grp v1) _ (HI2.o.1.inn.tab.pure KB0.o)).mono ?_);rintro e WM ⟨rfl,kM⟩;have KB:=γ (show ε η wr WM from(KB0.o).trans kM);clear kM;by_cases yB:40<=aV T (grp v1)
         ·have ET:(40:Int)<=((aV T (grp v1):Nat):Int):=by omega
          have oJ:=γ (show gY T v1=false from by rw[kF,decide_eq_false (by omega: ¬aV T (grp v1)<40),Bool.and_false]);have hb1:=KB.o.heap RW.o.1.1 id;have cb:=cell_of_one hb1;have fb:=free_of_one hb1;have Y8:=lt_of_block hb1;have cb2:=cell_of_one (one_setCell (u:= .int .i64 21) hb1);have F:ace (iU w s.data.toList (.returned (.tuple #[.pointer none,.int .i64 21])) (WM.setCell ⟨E,0,none⟩ (.int .i64 21)).drew):=(by show iU _ _ _ _;unfold iU;rw[HT.o,HI.o.2.1,RW.o.2.2.2,dZ,RW.o.2.1];simp only[Rd.bind];rw[if_neg (by rw[oJ.o];decide)];exact⟨rfl,by decide,((HI2.o.1.inn.kept.trans KB.o).setCell (p:=⟨E,0,none⟩) (.inr (by have:=yH.o;show w.heap.size<=E;omega)) _).drew⟩);clear hb1;go_wp2_with fail;obtain⟨WW,pW⟩: ∃WW,WM.setCell ⟨E,0,none⟩ (.int .i64 21)=WW:=⟨_,rfl⟩;rw[pW]at F cb2⊢;clear pW;refine ak [0,1,2] (fun W=>ε η WW W) (by kernel_rfl) (by kernel_rfl) rfl (ε.refl η WW).drew ?_;simp only[abU];iterate 3 (apply aj rfl rfl;(intro W hW;have z0:=hW.cell id cb2;go_simp;rfl);go_frame)
          refine aG (fun _=>(ε.refl η WW).drew) ?_;go_wp2_with fail;go_ret2;exact F.o
         ·have ET: ¬(40:Int)<=((aV T (grp v1):Nat):Int):=by omega
          have oJ:=γ (show gY T v1=true from by rw[kF,decide_eq_true (by omega:aV T (grp v1)<40),Bool.and_true];exact by rw[HLS.o,Bool.or_true]);have hb1:=KB.o.heap RW.o.1.1 id;have cb:=cell_of_one hb1;have fb:=free_of_one hb1;have uw:TabAt WM (DC w E S) b m T:=(HI2.o.1.inn.tab.pure KB.o).mono (fun k hk _=>I5.o.2.2.2.2.2.2.2 k hk);have x2:=uw.cell;have hcm:=lW (KB.o.heap HI2.o.1.cell id);have y0:=hcm.1;have y1:=hcm.2.1;obtain⟨l5,hl5,xA,Qc⟩:=uw.map;obtain⟨_,R1,R2⟩:=y8 RW.o.2.1;have hok:=uw.ok.push (p:=(v1,(v2,ns))) R1 R2 oJ.o;have hnew:=TN hok xA;obtain⟨w6,born,hme,k6,hs6,hes⟩:=(hl5.kept (ε.refl η WM).drew id).entry (P:=Tryz.prog) Tryz.underlying113 Tryz.underlying2 hnew (Tryz.zeroValue109 _);obtain⟨w7,ahF,P5,YH,hs7⟩:=hes (.agg #[.int .i64 v2,.slice la n lc]);have k7:ε (one m) WM w7:=(show ε (one m) WM WM.drew from δ.drew).trans YH;have Jr:ε (one m) WM w6:=(show ε (one m) WM WM.drew from δ.drew).trans k6;have hci:CellIs WM (DC w E S) (.agg #[.int .i64 v2,.slice la n lc]) (v2,ns):=by
           refine⟨_,rfl,?_,fun g hg=>?_⟩
           ·have:=(Reads.aN HI2.o.1.own).pure KB.o
            rw[RW.o.2.2.1]at this;exact this
           ·have h1:=(nZ HI2.o.1.own hg).1
            have h2:=I5.o.2.2.2.1;have h3:=I5.o.2.2.2.2.2.1;exact⟨by omega,by omega,by omega⟩
          have Y7: ¬one m E:=fun e=>(I5.o.2.2.2.2.2.2.1 m HI2.o.1.inn.tab.hm).2.1 e.symm;have Y4: ¬one m S:=fun e=>(I5.o.2.2.2.2.2.2.1 m HI2.o.1.inn.tab.hm).2.2 e.symm
          have F:=γ (show Ap w w7 (DC w E S) E S b m (T++[(v1,(v2,ns))]) (Rd.ok () r4)from
           ⟨(show jX wr E S (Rd.ok () r4)from RW.o.1).kept KB.o id id|>.kept k7 Y7 Y4,
            uw.push hl5 xA Qc P5 k7 (hci.kept k7 (.map hl5 _)) R1 R2 oJ.o,
            (HI2.o.1.inn.kept.trans KB.o).new k7 (fun i hi e=>by have:=uw.hm.1;unfold one at e;omega)⟩)
          have F2:=γ (show dZ N [] r0=dZ (N-(k+1)) (T++[(v1,(v2,ns))]) r4 from by
           rw[HI.o.2.1,RW.o.2.2.2,dZ,RW.o.2.1];simp only[Rd.bind]
           rw[if_pos oJ.o])
          have K6:=γ Jr;clear hb1 uw hcm hl5 xA Qc R1 R2 hok hnew hes P5 YH k7 k6 Jr hs6 hs7 hci Y7 Y4;go_wp2_with fail;refine ak [0,1,2,3,4,5,6,7,8,9,10] (fun W=>ε (one m) WM W) (by kernel_rfl) (by kernel_rfl) rfl (ε.refl (one m) WM).drew ?_;simp only[abU];have hbm: ¬one m b:=fun e=>(by obtain⟨l,hl,_⟩:=HI2.o.1.inn.tab.map;obtain⟨L0,cl,hL0,_⟩:=hl;have:=HI2.o.1.inn.tab.obj;rw[show b=m from e,hL0.heap]at this;cases this);have Y9: ¬one m C:=fun e=>(by have:=I5.o.2.2.2.2.1;unfold one at e;omega);iterate 8 (apply aj rfl rfl;(intro W hW;have z0:=hW.cell (p:=⟨b,0,none⟩) hbm x2;have z1:=hW.cell (p:=⟨C,0,none⟩) Y9 y0;have z2:=hW.cell (p:=⟨C,1,none⟩) Y9 y1;go_simp;rfl);go_frame)
          apply aA rfl rfl;intro K hK;go_wp2_with fail;refine hK _ _ (fun _=>K6.o) ?_;clear hK;apply aj rfl rfl
          ·intro W hW;go_simp;rfl
          go_frame;apply aA rfl rfl;intro K2 hK2;go_wp2_with fail;refine hK2 _ _ (fun h=>absurd rfl h) (jo (by kernel_rfl) ?_);clear hK2;go_wp2_with fail;go_roundg (N-(k+1))
          case rel=>exact⟨k+1,_,r4,by omega,by go_num,by rw[F8],by rw[ν,HI.o.2.2.2];rfl,F.o,F2.o,ξ _⟩
          case measure=>have:=HI.o.2.2.1;omega
        ·have ahX:(0:Int)<=cc:=by
          have h1:=ZO.o.2;rw[show bH (qw T) v1=false by simpa using hless,ZO.o.1]at h1;have:=of_decide_eq_false h1;omega
         have oJ:=γ (show gY T v1=false from by rw[kF,show bH (qw T) v1=false by simpa using hless,JU.o,decide_eq_false hkz];rfl);have KB:=γ KB0.o;clear hless;have hb1:=KB.o.heap RW.o.1.1 id;have cb:=cell_of_one hb1;have fb:=free_of_one hb1;have Y8:=lt_of_block hb1;have cb2:=cell_of_one (one_setCell (u:= .int .i64 21) hb1);have F:ace (iU w s.data.toList (.returned (.tuple #[.pointer none,.int .i64 21])) (WB.setCell ⟨E,0,none⟩ (.int .i64 21)).drew):=(by show iU _ _ _ _;unfold iU;rw[HT.o,HI.o.2.1,RW.o.2.2.2,dZ,RW.o.2.1];simp only[Rd.bind];rw[if_neg (by rw[oJ.o];decide)];exact⟨rfl,by decide,((HI2.o.1.inn.kept.trans KB.o).setCell (p:=⟨E,0,none⟩) (.inr (by have:=yH.o;show w.heap.size<=E;omega)) _).drew⟩);clear hb1;go_wp2_with fail;obtain⟨WW,pW⟩: ∃WW,WB.setCell ⟨E,0,none⟩ (.int .i64 21)=WW:=⟨_,rfl⟩;rw[pW]at F cb2⊢;clear pW;refine ak [0,1,2] (fun W=>ε η WW W) (by kernel_rfl) (by kernel_rfl) rfl (ε.refl η WW).drew ?_;simp only[abU];iterate 3 (apply aj rfl rfl;(intro W hW;have z0:=hW.cell id cb2;go_simp;rfl);go_frame)
         refine aG (fun _=>(ε.refl η WW).drew) ?_;go_wp2_with fail;go_ret2;exact F.o
   ·have hkN:k=N:=by omega
    have hr1:dZ N [] r0= .ok T r:=(by rw[HI.o.2.1,hkN,Nat.sub_self];rfl);obtain⟨h1,s',h2,h3,h4⟩:=HI.o.1.st;have c0:=cell_of_one h1;have c1:=cell_of_one h2;have f0:=free_of_one h1;have hEl:=lt_of_block h1;have HE:=γ (θ hr1 (θ h1 h3));clear h1 h2 hr1 hkN h4;by_cases hr:r=[]
    ·obtain rfl:s'=⟨#[]⟩:=by
      rw[hr]at h3
      cases s' with
      |mk d=>congr 1;exact Array.toList_inj.1 (by simpa using h3)
     have F:ace (iU w s.data.toList (.returned (.tuple #[.pointer (some ⟨b,0,none⟩),.int .i64 0])) wr):=(by show iU _ _ _ _;unfold iU;rw[HT.o,HE.o.1];simp only[Rd.bind];rw[if_pos hr];exact⟨b,m,rfl,HI.o.1.tab.mono (fun k hk _=>hk.1),HI.o.1.kept⟩);clear h3 hr;go_wp2_with fail;go_ret2;exact F.o
    ·have hne:(!s'.toList.isEmpty)=true:=by
      rw[Lib.toList_data,h3]
      cases r with
      |nil=>exact absurd rfl hr
      |cons a l=>rfl
     have cb2:=cell_of_one (one_setCell (u:= .int .i64 21) HE.o.2.1);have F:ace (iU w s.data.toList (.returned (.tuple #[.pointer none,.int .i64 21])) (wr.setCell ⟨E,0,none⟩ (.int .i64 21)).drew):=(by show iU _ _ _ _;unfold iU;rw[HT.o,HE.o.1];simp only[Rd.bind];rw[if_neg hr];exact⟨rfl,by decide,(HI.o.1.kept.setCell (p:=⟨E,0,none⟩) (.inr (by have:=yH.o;show w.heap.size<=E;omega)) _).drew⟩);clear h3 hr;go_wp2_with fail;obtain⟨WW,pW⟩: ∃WW,wr.setCell ⟨E,0,none⟩ (.int .i64 21)=WW:=⟨_,rfl⟩;rw[pW]at F cb2⊢;clear pW;refine ak [0,1,2] (fun W=>ε η WW W) (by kernel_rfl) (by kernel_rfl) rfl (ε.refl η WW).drew ?_;simp only[abU];iterate 3 (apply aj rfl rfl;(intro W hW;have z0:=hW.cell id cb2;go_simp;rfl);go_frame)
     refine aG (fun _=>(ε.refl η WW).drew) ?_;go_wp2_with fail;go_ret2;exact F.o
end
