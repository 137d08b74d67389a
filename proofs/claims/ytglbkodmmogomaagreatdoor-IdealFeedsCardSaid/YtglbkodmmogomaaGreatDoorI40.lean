/- The document's tables, and where their memory lies. -/
import Derived.Test.YtglbkodmmogomaaGreatDoorI38
set_option linter.unusedVariables false
set_option linter.unusedSimpArgs false
set_option maxHeartbeats 4000000
set_option maxRecDepth 100000
namespace Go.Proofs.YtglbkodmmogomaaGreatDoor
section
open Go Go.RowKit
structure bF (w:World)(M:Nat->Prop)(D:Nat)(T:Tab):Prop where
 ok:eP T
 dot:M D
 out: ∃v cs,w.heap[D]?=some (.cells #[v] 103 (0,0))/\Reads w 3 v cs/\cu w cs T/\(∀b,Value.blk v=some b->M b)/\ ∀(i:Nat)(lv:Value),cs[i*3+2]?=some lv-> ∀b,Value.blk lv=some b->M b
theorem bF.at {w:World}{M:Nat->Prop}{D:Nat}{T:Tab}(h:bF w M D T):RTabAt w D T:=by obtain⟨v,cs,h1,h2,h3,_⟩:=h.out;exact⟨⟨v,h1,cs,h2,h3⟩,h.ok⟩
theorem bF.mono {w:World}{M M':Nat->Prop}{D:Nat}{T:Tab}(h:bF w M D T)(hM: ∀q,M q->M' q):bF w M' D T:=by obtain⟨v,cs,h1,h2,h3,h4,h5⟩:=h.out;exact⟨h.ok,hM _ h.dot,v,cs,h1,h2,h3,fun b hb=>hM b (h4 b hb),fun i lv hl b hb=>hM b (h5 i lv hl b hb)⟩
theorem bF.kept {w w':World}{M S:Nat->Prop}{D:Nat}{T:Tab}(h:bF w M D T)(hk:ε S w w')(hS: ∀q,S q-> ¬M q):bF w' M D T:=by obtain⟨v,cs,h1,h2,h3,h4,h5⟩:=h.out;refine⟨h.ok,h.dot,v,cs,hk.heap h1 (fun hs=>hS D hs h.dot),h2.kept hk (fun b hb hs=>hS b hs (h4 b hb)),⟨h3.1,fun i p hp=>?_⟩,h4,h5⟩;obtain⟨a,b,lv,c,d⟩:=h3.2 i p hp;exact⟨a,b,lv,c,d.kept hk (fun q hq hs=>hS q hs (h5 i lv c q hq))⟩
theorem uQ {v:Value}{q:Nat}(h:Value.blk v=some q):v.ownBlock=some q:=by
 unfold Value.blk at h;split at h
 ·split at h
  ·cases h
  ·exact h
 ·cases h
theorem Reads.det {w:World}{k:Nat}{v:Value}{cs ds:List Value}(hk:0<k)(h:Reads w k v cs)(h':Reads w k v ds):cs=ds:=by
 obtain⟨a,n,cap,rfl,_,_,h3,h4⟩:=h;obtain⟨a',n',cap',e,_,_,g3,g4⟩:=h'
 injection e with e1 e2 e3
 subst e1 e2 e3;have hl:cs.length=ds.length:=by omega
 rcases h4 with h4|⟨b,off,hb,h4⟩
 ·rw[h4]at hl⊢
  exact(τ hl.symm).symm
 ·rcases g4 with g4|⟨b',off',hb',g4⟩
  ·rw[g4]at hl⊢
   exact τ hl
  ·rw[hb]at hb'
   injection hb' with hb'
   injection hb' with e1 e2
   subst e1 e2;apply List.ext_getElem?;intro j;by_cases hj:j<cs.length
   ·obtain⟨x,hx⟩: ∃x,cs[j]?=some x:=⟨_,ι hj⟩
    obtain⟨y,hy⟩: ∃y,ds[j]?=some y:=⟨_,ι (by omega)⟩;have h1:=h4 j x hx;rw[g4 j y hy]at h1;rw[hx,hy,h1]
   ·rw[abA (by omega),abA (by omega)]
theorem Reads.Dp {w:World}{k:Nat}{v:Value}{cs:List Value}(hk:0<k)(h:Reads w k v cs){q:Nat}(hq:Value.blk v=some q):q<w.heap.size:=by
 obtain⟨a,n,cap,rfl,_,_,h3,h4⟩:=h;unfold Value.blk at hq
 cases a with
 |none=>cases hq
 |some p=>
  simp only at hq;split at hq
  ·cases hq
  ·rename_i hn
   have hpos:0<cs.length:=by rw[h3];exact Nat.mul_pos (by omega) hk
   rcases h4 with h4|⟨b,off,hb,h4⟩
   ·rw[h4]at hpos;cases hpos
   ·injection hb with hb
    subst hb
    injection hq with hq
    have:=block_lt_of_cell (h4 0 _ (ι hpos));simp only at hq this;omega
theorem bF.Pg {w:World}{M:Nat->Prop}{D:Nat}{T:Tab}(h:bF w M D T):bF w (fun q=>M q/\q<w.heap.size) D T:=by
 obtain⟨v,cs,h1,h2,h3,h4,h5⟩:=h.out;refine⟨h.ok,⟨h.dot,(κ.1 h1).1⟩,v,cs,h1,h2,h3,fun q hq=>⟨h4 q hq,h2.Dp (by omega) hq⟩,fun i lv hl q hq=>⟨h5 i lv hl q hq,?_⟩⟩;have hi:i<T.length:=(by have:=(μ.1 hl).1;have:=h3.1;omega);obtain⟨_,_,lv',e,d⟩:=h3.2 i _ (ι hi);rw[hl]at e
 injection e with e
 subst e;exact d.Dp (by omega) hq
def gZ (cs:List Value)(R:Value->Prop):Prop:= ∀(i:Nat)(lv:Value),cs[i*3+2]?=some lv->R lv
theorem gZ.append {cs ds:List Value}{R:Value->Prop}{n:Nat}(hn:cs.length=n*3)(h:gZ cs R)(h':gZ ds R):gZ (cs++ds) R:=fun i lv hi=>by
 by_cases hin:i<n
 ·rw[Ω (by omega)]at hi
  exact h i lv hi
 ·rw[Ψ (by omega),hn,show i*3+2-n*3=(i-n)*3+2 by omega]at hi
  exact h' _ lv hi
theorem gZ.take {cs:List Value}{R:Value->Prop}(h:gZ cs R)(m:Nat):gZ (cs.take m) R:=fun i lv hi=>by
 rw[abO]at hi;split at hi
 ·exact h i lv hi
 ·cases hi
theorem gZ.drop {cs:List Value}{R:Value->Prop}(h:gZ cs R)(k:Nat):gZ (cs.drop (k*3)) R:=fun i lv hi=>by rw[List.getElem?_drop,show k*3+(i*3+2)=(k+i)*3+2 by omega]at hi;exact h _ lv hi
theorem gZ.one {x y lv:Value}{R:Value->Prop}(h:R lv):gZ [x,y,lv] R:=fun i u hi=>by
 match i,hi with
 |0,hi=>cases hi;exact h
 |i+1,hi=>have:(i+1)*3+2=i*3+2+1+1+1:=(by omega);rw[this]at hi;cases hi
def oV (w w':World)(b:Nat)(T T':Tab):Prop:= ∀M:Nat->Prop,bF w M b T->bF w' (fun q=>M q\/w.heap.size<=q) b T'
theorem oV.same {w w':World}{b:Nat}{T:Tab}(hk:ε η w w'):oV w w' b T T:=fun _ h=>(h.kept hk (fun _ h=>h.elim)).mono (fun _ h=> .inl h)
theorem oV.of {w w':World}{b:Nat}{T T':Tab}{v v':Value}{cs cs':List Value}(hv:w.heap[b]?=some (.cells #[v] 103 (0,0)))(hcs:Reads w 3 v cs)
 (ahO:w'.heap[b]?=some (.cells #[v'] 103 (0,0))) (hr':Reads w' 3 v' cs') (ahK:cu w' cs' T') (hok':eP T') (hnew: ∀q,Value.blk v'=some q->w.heap.size<=q)
 (hl: ∀R:Value->Prop,gZ cs R->(∀lv,(∀q,Value.blk lv=some q->w.heap.size<=q)->R lv)->gZ cs' R):oV w w' b T T':=fun M h=>by
 obtain⟨v1,cs1,h1,h2,_,_,h5⟩:=h.out;rw[hv]at h1
 injection h1 with h1
 injection h1 with h1
 injection h1 with h1
 injection h1 with h1
 subst h1;obtain rfl:=Reads.det (by omega) hcs h2;exact⟨hok',.inl h.dot,v',cs',ahO,hr',ahK,fun q hq=> .inr (hnew q hq),fun i lv hi q hq=>hl (fun lv=> ∀q,Value.blk lv=some q->M q\/w.heap.size<=q) (fun i lv hi q hq=> .inl (h5 i lv hi q hq)) (fun lv hn q hq=> .inr (hn q hq)) i lv hi q hq⟩
end
section
open Go Go.RowKit
attribute [local irreducible] cZ
theorem Reads.qN {w:World}{b E k n z:Nat}{x:Option Addr}{f:Nat×Nat}{v:Value}{cs:List Value}(h:Reads w k v cs)(hb:w.heap[b]?=some (.cells #[.slice x n z] E f))(hk:0<k)(h0: ∀y,cs[0]?=some y-> ∃q m,y= .int q m): ∀bb,Value.blk v=some bb->bb≠b:=by
 intro bb hbb e;subst e;obtain⟨a,m,cap,rfl,h1,h2,h3,h4⟩:=h;have hm:m≠0:=(by intro e;subst e;cases a<;>simp[Value.blk]at hbb);have hlen:0<cs.length:=by rw[h3];exact Nat.mul_pos (by omega) hk
 rcases h4 with rfl|⟨b',off,rfl,h4⟩
 ·simp at hlen
 ·simp[Value.blk,hm]at hbb
  subst hbb;obtain⟨y,hy⟩: ∃y,cs[0]?=some y:=⟨_,ι hlen⟩;obtain⟨q,i,rfl⟩:=h0 y hy;have h5:=h4 0 _ hy;simp[World.cell?,hb]at h5
  cases off with
  |zero=>simp at h5
  |succ o=>simp at h5
theorem FT {w:World}{b e s n b' e' s' n':Nat}{v v':Value}{xs xs':List Value}(h:w.ownsRow b e s v n xs)(h':w.ownsRow b' e' s' v' n' xs')(hne:e≠e'){k:Nat}(hk:v.ownBlock=some k)(hk':v'.ownBlock=some k):False:=by
 rcases h.2 with⟨rfl,_⟩|⟨g,cap,cur,rfl,_,h2,_⟩
 ·cases hk
 ·rcases h'.2 with⟨rfl,_⟩|⟨g',cap',cur',rfl,_,h2',_⟩
  ·cases hk'
  ·cases hk
   cases hk';rw[h2]at h2'
   injection h2' with h2'
   injection h2' with _ h3 _
   exact hne h3
theorem cu.first {w:World}{cs:List Value}{T:Tab}(h:cu w cs T): ∀y,cs[0]?=some y-> ∃q m,y= .int q m:=by
 intro y hy
 cases T with
 |nil=>have h1:=h.1;simp at h1;subst h1;cases hy
 |cons p r=>have h1:=(h.2 0 p rfl).1;rw[Nat.zero_mul,hy]at h1;cases h1;exact⟨_,_,rfl⟩
def Ar (w:World)(b:Nat)(T:Tab)(k:Int)(c:Cell)(e:Ending)(w':World):Prop:=
 e= .returned (.int .i64 (dW T k c.2.length))/\RTabAt w' b (dH T k c)/\ε (one b) w w'/\oV w w' b T (dH T k c)
theorem OM (b:Nat)(T:Tab)(k:Int)(c:Cell)(v:Value)(w:World)(h:RTabAt w b T)(hk:aH k)(hc1:aH c.1)(hc2: ∀x∈c.2,aH x)(hlen:c.2.length<=17592186044416)(hr:Reads w 1 v (ints c.2)):
 Calls Tryz.prog 149 #[.pointer (some ⟨b,0,none⟩),.int .i64 k,.agg #[.int .i64 c.1,v]] w (Ar w b T k c):=by
 obtain⟨va,vc,rfl,hv1,hv2,_⟩:=hr.at;obtain⟨⟨tv,dP,hrt⟩,hok⟩:=h;obtain⟨pa,iQ,rfl,hc1',hc2',_⟩:=hrt.parts;have hT:=hok.len;have hfl:=wU k T;have c0:w.cell? ⟨b,0,none⟩=some (.slice pa T.length iQ):=ζ dP rfl;have c00:=γ c0;have hbl:=block_lt_of_cell c0;simp only[]at hbl;have HT:=γ (show RTabAt w b T from⟨⟨_,dP,hrt⟩,hok⟩);have HRT:=γ hrt;have HC:=γ (θ hk (θ hc1 hc2));have hr:=γ hr;unfold maxLen at hc2' hv2;clear dP hrt hok hk hc1 hc2;by_cases h16:16<c.2.length
 ·have hE:dW T k c.2.length=2:=by unfold dW;rw[if_pos h16]
  have Qh:dH T k c=T:=(by unfold dH;rw[hE];rfl);have F:=γ (show Ar w b T k c (.returned (.int .i64 2)) (w.alloc (.cells #[.int .i64 c.1,.slice va c.2.length vc] 109))from⟨by rw[hE],by rw[Qh];exact HT.o.pure (δ.alloc _),δ.alloc _,by rw[Qh];exact oV.same (δ.alloc _)⟩);have ah4:(16:Int)<(c.2.length:Int):=(by omega);clear hE Qh;go_enter Tryz.func149,Tryz.ntmps149;go_wp2_with fail;go_ret;exact F.o
 ·have ah4: ¬(16:Int)<(c.2.length:Int):=by omega
  go_enter Tryz.func149,Tryz.ntmps149;go_wp2_with fail;obtain⟨W0,hW0⟩:=acf (w.alloc (.cells #[.int .i64 c.1,.slice va c.2.length vc] 109));have k0:ε η w W0:=(by rw[<-hW0];exact δ.alloc _);have d0:W0.cell? ⟨w.heap.size,0,none⟩=some (.int .i64 c.1):=(by rw[<-hW0];simp);have d1:W0.cell? ⟨w.heap.size,1,none⟩=some (.slice va c.2.length vc):=(by rw[<-hW0];simp);rw[hW0];have cc:=xM b T k W0 (HT.o.pure k0) HC.o.1;(with_reducible refine cc.mono ?_);clear cc;rintro e w1 ⟨rfl,k1'⟩;have d0:=k1'.cell (p:=⟨w.heap.size,0,none⟩) id d0;have d1:=k1'.cell (p:=⟨w.heap.size,1,none⟩) id d1;have k1:ε η w w1:=k0.trans k1';have c0:=k1.cell (p:=⟨b,0,none⟩) id c0;rw[<-hW0]at k1';have nP:=γ k1';have hbl1:b<w1.heap.size:=Pe hbl k1.size;have Vo:w.heap.size<w1.heap.size:=(by have:=k1'.size;simp at this;omega);clear k0 k1' hW0
  cases his:(bY T k).isSome with
  |true=>
   have hne:bY T k≠none:=by intro e;rw[e]at his;cases his
   have aib:=γ (show aT k T<T.length by
    have h1:=Ey (k:=k) HT.o.ok.rises;rw[his]at h1
    cases hx:T[aT k T]? with
    |none=>rw[hx]at h1;cases h1
    |some p=>exact(μ.1 hx).1)
   have QU:=γ (θ his hne);clear his hne;have aaL:(aT k T+1)<=T.length:=(by have:=aib.o;omega);obtain⟨cs,hcs1,hcs2⟩:=HRT.o;have Gq:=hcs1.pure k1;have hcl0:=hcs2.1;have e1:=EC (P:=Tryz.prog) Tryz.underlying101 (wO w1) Gq hfl;have O1:=World.ownsRow_nil w1 w1.heap.size 122 3;obtain⟨v1,n1,w2,a1,a2,a3,a4⟩:=pJ (base:=w1.heap.size) (n:=0) O1 e1.2 (hcs2.take (aT k T)).cells (ξ _) (by rw[Γ,υ];omega);obtain⟨Wu,Ws,rfl⟩:=au a2;have k12:ε η w1 w2:=ε.grown a4 (fun j hj _=>by cases hj);have tN:=hr.o.pure (((ε.refl η w).alloc (.cells #[.int .i64 c.1,.slice va c.2.length vc] 109)).trans (nP.o.trans k12));have d0:=k12.cell (p:=⟨w.heap.size,0,none⟩) id d0;have d1:=k12.cell (p:=⟨w.heap.size,1,none⟩) id d1;have c0x:=k12.cell (p:=⟨b,0,none⟩) id c0;have A1:=γ a1;have E1:=e1.1;have Q2:=γ (θ a2 (θ a3 (θ k12 (θ tN (θ hcs1 (θ hcs2 hcl0))))));clear a1 a2 a3 a4 e1 k12 tN O1 hcs1 hcs2 hcl0 Gq;go_wp2_with (at_builtin;refine wpList_append_run rfl (.tmp 29) (.tmp 35) 101 rfl (.slice none 0 0) (.slice pa (aT k T) iQ) _ rfl rfl A1.o ?_);refine ak [0,1,2,3,5,6,4,7,8,9,10,11,12] (fun W=>ε (fun j=>w1.heap.size<=j) w2 W) (by kernel_rfl) (by kernel_rfl) rfl δ.drew ?_;simp only[abU];iterate 6 (apply aj rfl rfl;(intro W hW;have z0:=hW.cell (fun h=>Nat.not_le.2 Vo h) d0;have z1:=hW.cell (fun h=>Nat.not_le.2 Vo h) d1;go_simp;rfl);go_frame)
   have kd:ε η w2 w2.drew:=δ.drew;apply aA rfl rfl;intro K hK;go_wp2_with fail;have k4:ε η w2 (w2.drew.alloc (.cells #[] 2)):=kd.alloc _;refine hK _ _ (fun _=>k4.pure) ?_;clear hK;apply aA rfl rfl;intro K hK;obtain⟨i2,hi2,hz2,hs2,hb2⟩:=info_parts Tryz.info2;obtain⟨v7,n7,w7,b1,b2,b3,b4,b5⟩:=aW (P:=Tryz.prog) w2.heap.size 97 97 2 i2 (.int .i64 0) 1 8 Tryz.underlying97 hi2 hz2 hs2 hb2 rfl (by omega) (World.ownsRow_made w2.drew #[] 0 (ξ _) (Nat.zero_le _) rfl:(w2.drew.alloc (.cells #[] 2)).ownsRow w2.heap.size 2 1 (.slice (some ⟨w2.heap.size,0,none⟩) 0 0) 0 []) (Q2.o.2.2.2.1.pure k4) (mQ c.2) (by simp;omega) (by unfold maxLen;simp;omega) k4.size;obtain⟨sJ,sH,rfl⟩:=au b2;have k7:ε η w2 w7:=k4.new (ε.grown (S:=fun j=>w2.heap.size<=j) b4 (fun j hj _=>by cases hj;exact ξ _)) (fun j hj hs=>by omega);refine wp_append_run (.tmp 41) (.tmp 43) 97 rfl (.slice (some ⟨w2.heap.size,0,none⟩) 0 0) (.slice va c.2.length vc) _ rfl rfl b1 ?_;refine hK _ _ (fun _=>k7.pure) ?_;clear hK;have R7:=γ (Reads.aN b2);have O7:=γ b2;clear b1 b2 b3 b4 b5 hi2 hz2 hs2 hb2;iterate 2 (first|(apply bf rfl;go_frame)|(apply aj rfl rfl;(intro W hW;go_simp;rfl);go_frame))
   apply aA rfl rfl;intro K hK;go_wp2_with fail;have k10:ε η w2 (w7.alloc (.cells #[.int .i64 k,.int .i64 c.1,.slice sJ n7 sH] 122)):=k7.alloc _;refine hK _ _ (fun _=>k10.pure) ?_;clear hK;apply aA rfl rfl;intro K hK;have XU:cu (w7.alloc (.cells #[.int .i64 k,.int .i64 c.1,.slice sJ n7 sH] 122)) [.int .i64 k,.int .i64 c.1,.slice sJ n7 sH] [(k,(c.1,c.2))]:=cu.one (by have:=R7.o.pure ((ε.refl η w7).alloc (.cells #[.int .i64 k,.int .i64 c.1,.slice sJ n7 sH] 122));simpa using this);have I9:=Reads.lit w7 [.int .i64 k,.int .i64 c.1,.slice sJ n7 sH] 122 3 1 rfl (by unfold maxLen;omega);obtain⟨v11,n11,Wn,f1,f2,f3,f4⟩:=pJ (k10.owns Q2.o.1 (fun _ _ h=>h)) I9 XU.cells (ω Q2.o.2.2.1.size k10.size) (by have:=Q2.o.2.2.2.2.2.2;simp;omega);obtain⟨KL,KJ,rfl⟩:=au f2;have xu:ε η w1 Wn:=(Q2.o.2.2.1.trans k10).new (ε.grown (S:=fun j=>w1.heap.size<=j) f4 (fun j hj _=>(aU Q2.o.1 hj).1)) (fun j hj hs=>by omega);refine wp_append_run (.tmp 37) (.tmp 47) 101 rfl (.slice Wu n1 Ws) (.slice (some ⟨w7.heap.size,0,none⟩) 1 1) _ rfl rfl f1 ?_;refine hK _ _ (fun _=>k10.pure.trans (ε.grown f4 (fun j hj _=>(aU Q2.o.1 hj).1))) ?_;clear hK;iterate 1 (first|(apply bf rfl;go_frame)|(apply aj rfl rfl;(intro W hW;go_simp;rfl);go_frame))
   refine aG (fun _=>k10.pure.trans (ε.grown f4 (fun j hj _=>(aU Q2.o.1 hj).1))) ?_;have ecs:=Q2.o.2.2.2.2.1;have uM:=Q2.o.2.2.2.2.2.1;obtain⟨vd,g1,g2⟩:=ED (P:=Tryz.prog) Tryz.underlying101 (wO Wn) (ecs.pure (k1.trans xu)) aaL;obtain⟨da,dn,dc,hvd⟩: ∃da dn dc,vd= .slice da dn dc:=(by obtain⟨a,n,c,e,_⟩:=g2;exact⟨a,n,c,e⟩);subst hvd;obtain⟨v14,n14,lT,j1,j2,j3,j4⟩:=pJ f2 g2 (uM.drop (aT k T+1)).cells xu.size (by have:=Q2.o.2.2.2.2.2.2;simp;omega);obtain⟨nX,nV,rfl⟩:=au j2;have k14:ε η w1 lT:=xu.new (ε.grown (S:=fun j=>w1.heap.size<=j) j4 (fun j hj _=>(aU f2 hj).1)) (fun j hj hs=>by omega);have dP:lT.heap[b]?=some (.cells #[.slice pa T.length iQ] 103 (0,0)):=by
    obtain⟨Fj,ho,_⟩:=HT.o.obj;have h1:=(k1.trans k14).heap ho id;have h2:=(k1.trans k14).cell (p:=⟨b,0,none⟩) id c00.o;have h3:lT.cell? ⟨b,0,none⟩=some Fj:=ζ h1 rfl;rw[h3]at h2
    injection h2 with h2
    rw[h2]at h1;exact h1
   have cb:lT.cell? ⟨b,0,none⟩=some (.slice pa T.length iQ):=ζ dP rfl;have fb:=free_at dP 0;have c11:=xu.cell (p:=⟨b,0,none⟩) id c0;have hfin:Ar w b T k c (.returned (.int .i64 0)) (lT.setCell ⟨b,0,none⟩ (.slice nX n14 nV)):=by
    have hE:dW T k c.2.length=0:=(by unfold dW;rw[if_neg h16,if_neg (fun h=>QU.o.2 h.1)]);have Y5:dH T k c=gQ k c T:=(by unfold dH;rw[if_pos hE]);have kb:ε (one b) lT (lT.setCell ⟨b,0,none⟩ (.slice nX n14 nV)):=(ε.refl (one b) lT).setCell (p:=⟨b,0,none⟩) (.inl rfl) _;have hrows:cu lT ([]++cs.take (aT k T*3)++[.int .i64 k,.int .i64 c.1,.slice sJ n7 sH]++cs.drop ((aT k T+1)*3)) (T.take (aT k T)++[(k,(c.1,c.2))]++T.drop (aT k T+1)):=by
     refine cu.append (cu.append ?_ ?_) ?_
     ·rw[List.nil_append];exact(uM.take _).pure (k1.trans k14)
     ·refine cu.one ?_
      have ka:ε η w7 (w7.alloc (.cells #[.int .i64 k,.int .i64 c.1,.slice sJ n7 sH] 122)):=(ε.refl η w7).alloc _;have o10:=ka.owns O7.o (fun _ _ h=>h)
      have Yn:=(ε.grown (S:=fun j=>Value.ownBlock (.slice Wu n1 Ws)=some j) f4 (fun j hj _=>hj)).owns o10 (fun j hj hx=>by
       have h1:=(aU Q2.o.1 hx).2;have h2:=(aU O7.o hj).1
       omega)
      have o14:=(ε.grown (S:=fun j=>Value.ownBlock (.slice KL n11 KJ)=some j) j4 (fun j hj _=>hj)).owns Yn (fun j hj hx=>FT Yn f2 (by decide) hj hx);exact Reads.aN o14
     ·exact(uM.drop _).pure (k1.trans k14)
    have hnot: ∀(x:Value)(l:List Int),Reads lT 1 x (ints l)->Reads (lT.setCell ⟨b,0,none⟩ (.slice nX n14 nV)) 1 x (ints l):=fun x l hx=>
     hx.kept kb (fun bb hbb e=>hx.qN dP (by omega) (fun y hy=>by
      cases l with
      |nil=>cases hy
      |cons q l=>cases hy;exact⟨_,_,rfl⟩) bb hbb e)
    have Qj:(lT.setCell ⟨b,0,none⟩ (.slice nX n14 nV)).heap[b]?=some (.cells #[.slice nX n14 nV] 103 (0,0)):=(by have:=bD dP 0 (.slice nX n14 nV);simpa using this);have Qi:Reads (lT.setCell ⟨b,0,none⟩ (.slice nX n14 nV)) 3 (.slice nX n14 nV) ([]++cs.take (aT k T*3)++[.int .i64 k,.int .i64 c.1,.slice sJ n7 sH]++cs.drop ((aT k T+1)*3)):=(by exact(Reads.aN j2).kept kb (fun bb hbb e=>(Reads.aN j2).qN dP (by omega) hrows.first bb hbb e));have hRR:cu (lT.setCell ⟨b,0,none⟩ (.slice nX n14 nV)) ([]++cs.take (aT k T*3)++[.int .i64 k,.int .i64 c.1,.slice sJ n7 sH]++cs.drop ((aT k T+1)*3)) (dH T k c):=(by rw[Y5,Bj HT.o.ok.rises];have hsome:(if(bY T k).isSome=true then aT k T+1 else aT k T)=(aT k T+1):=(by rw[QU.o.1];rfl);rw[hsome];exact⟨hrows.1,fun i p hp=>by obtain⟨a,b',lv,c',d⟩:=hrows.2 i p hp;exact⟨a,b',lv,c',hnot _ _ d⟩⟩);have Y6:eP (dH T k c):=by rw[Y5];exact HT.o.ok.gQ HC.o.1 ⟨HC.o.2.1,HC.o.2.2,by omega⟩ (.inl QU.o.2)
    refine⟨by rw[hE],⟨⟨_,Qj,_,Qi,hRR⟩,Y6⟩,(k1.trans k14).pure.trans kb,?_⟩;obtain⟨Fj,ho,_⟩:=HT.o.obj;have aaO:Fj= .slice pa T.length iQ:=by
     have h1:=ζ ho (j:=0) (v:=Fj) rfl;rw[c00.o]at h1
     injection h1 with h1;exact h1.symm
    rw[aaO]at ho;refine oV.of ho ecs Qj Qi hRR Y6 (fun q hq=>by have:=(j2.lt q (uQ hq)).1;have:=k1.size;omega) (fun R hR hN=>?_);exact gZ.append (n:=aT k T+1) (by simp only[List.nil_append,ν,υ,φ,Γ];have:=uM.1;omega) (gZ.append (n:=aT k T) (by rw[List.nil_append,υ];have:=uM.1;omega) (by rw[List.nil_append];exact hR.take _) (gZ.one (hN _ (fun q hq=>by have:=(O7.o.lt q (uQ hq)).1;have:=Q2.o.2.2.1.size;have:=k1.size;omega)))) (hR.drop _)
   have F:=γ hfin;have J1:=γ j1;have G1:=γ g1;have g1y:=g1;rw[show(((aT k T+1:Nat):Nat):Int)=(aT k T:Int)+1 by omega]at g1y;clear hfin j1 j2 j3 j4 f1 f2 f3 f4 g2 k14 dP xu k10 k7 k4 kd XU I9 ecs uM;go_wp2_with (at_builtin;refine wpList_append_run rfl (.tmp 53) (.tmp 59) 101 rfl (.slice KL n11 KJ) (.slice da dn dc) _ rfl rfl J1.o ?_);go_ret;exact F.o
  |false=>
   have hnn:bY T k=none:=by cases hx:bY T k with|none=>rfl|some _=>rw[hx]at his;cases his
   have HN:=γ (θ his hnn);clear his hnn;go_wp2_with fail;have cc:=kJ k HC.o.1 w1;(with_reducible refine cc.mono ?_);clear cc;rintro e w1x ⟨rfl,rfl⟩;go_wp2_with fail;have cc:=BH b T (grp k) w1 (HT.o.pure k1);(with_reducible refine cc.mono ?_);clear cc;rintro e w1x ⟨rfl,rfl⟩;by_cases yB:40<=aV T (grp k)
   ·have ah2:(40:Int)<=((aV T (grp k):Nat):Int):=by omega
    have hE:dW T k c.2.length=7:=(by unfold dW;rw[if_neg h16,if_pos ⟨HN.o.2,yB⟩]);have Qh:dH T k c=T:=(by unfold dH;rw[hE];rfl);have F:=γ (show Ar w b T k c (.returned (.int .i64 7)) w1 from⟨by rw[hE],by rw[Qh];exact HT.o.pure k1,k1.mono (fun _ _ h=>h.elim),by rw[Qh];exact oV.same k1⟩);clear hE Qh;go_wp2_with fail;go_ret;exact F.o
   ·have ah2: ¬(40:Int)<=((aV T (grp k):Nat):Int):=by omega
    have QU:=γ (θ HN.o.1 yB);clear yB HN;have aaL:(aT k T)<=T.length:=(by exact hfl);obtain⟨cs,hcs1,hcs2⟩:=HRT.o;have Gq:=hcs1.pure k1;have hcl0:=hcs2.1;have e1:=EC (P:=Tryz.prog) Tryz.underlying101 (wO w1) Gq hfl;have O1:=World.ownsRow_nil w1 w1.heap.size 122 3;obtain⟨v1,n1,w2,a1,a2,a3,a4⟩:=pJ (base:=w1.heap.size) (n:=0) O1 e1.2 (hcs2.take (aT k T)).cells (ξ _) (by rw[Γ,υ];omega);obtain⟨Wu,Ws,rfl⟩:=au a2;have k12:ε η w1 w2:=ε.grown a4 (fun j hj _=>by cases hj);have tN:=hr.o.pure (((ε.refl η w).alloc (.cells #[.int .i64 c.1,.slice va c.2.length vc] 109)).trans (nP.o.trans k12));have d0:=k12.cell (p:=⟨w.heap.size,0,none⟩) id d0;have d1:=k12.cell (p:=⟨w.heap.size,1,none⟩) id d1;have c0x:=k12.cell (p:=⟨b,0,none⟩) id c0;have A1:=γ a1;have E1:=e1.1;have Q2:=γ (θ a2 (θ a3 (θ k12 (θ tN (θ hcs1 (θ hcs2 hcl0))))));clear a1 a2 a3 a4 e1 k12 tN O1 hcs1 hcs2 hcl0 Gq;go_wp2_with (at_builtin;refine wpList_append_run rfl (.tmp 29) (.tmp 35) 101 rfl (.slice none 0 0) (.slice pa (aT k T) iQ) _ rfl rfl A1.o ?_);refine ak [0,1,2,3,5,6,4,7,8,9,10,11,12] (fun W=>ε (fun j=>w1.heap.size<=j) w2 W) (by kernel_rfl) (by kernel_rfl) rfl δ.drew ?_;simp only[abU];iterate 6 (apply aj rfl rfl;(intro W hW;have z0:=hW.cell (fun h=>Nat.not_le.2 Vo h) d0;have z1:=hW.cell (fun h=>Nat.not_le.2 Vo h) d1;go_simp;rfl);go_frame)
    have kd:ε η w2 w2.drew:=δ.drew;apply aA rfl rfl;intro K hK;go_wp2_with fail;have k4:ε η w2 (w2.drew.alloc (.cells #[] 2)):=kd.alloc _;refine hK _ _ (fun _=>k4.pure) ?_;clear hK;apply aA rfl rfl;intro K hK;obtain⟨i2,hi2,hz2,hs2,hb2⟩:=info_parts Tryz.info2;obtain⟨v7,n7,w7,b1,b2,b3,b4,b5⟩:=aW (P:=Tryz.prog) w2.heap.size 97 97 2 i2 (.int .i64 0) 1 8 Tryz.underlying97 hi2 hz2 hs2 hb2 rfl (by omega) (World.ownsRow_made w2.drew #[] 0 (ξ _) (Nat.zero_le _) rfl:(w2.drew.alloc (.cells #[] 2)).ownsRow w2.heap.size 2 1 (.slice (some ⟨w2.heap.size,0,none⟩) 0 0) 0 []) (Q2.o.2.2.2.1.pure k4) (mQ c.2) (by simp;omega) (by unfold maxLen;simp;omega) k4.size;obtain⟨sJ,sH,rfl⟩:=au b2;have k7:ε η w2 w7:=k4.new (ε.grown (S:=fun j=>w2.heap.size<=j) b4 (fun j hj _=>by cases hj;exact ξ _)) (fun j hj hs=>by omega);refine wp_append_run (.tmp 41) (.tmp 43) 97 rfl (.slice (some ⟨w2.heap.size,0,none⟩) 0 0) (.slice va c.2.length vc) _ rfl rfl b1 ?_;refine hK _ _ (fun _=>k7.pure) ?_;clear hK;have R7:=γ (Reads.aN b2);have O7:=γ b2;clear b1 b2 b3 b4 b5 hi2 hz2 hs2 hb2;iterate 2 (first|(apply bf rfl;go_frame)|(apply aj rfl rfl;(intro W hW;go_simp;rfl);go_frame))
    apply aA rfl rfl;intro K hK;go_wp2_with fail;have k10:ε η w2 (w7.alloc (.cells #[.int .i64 k,.int .i64 c.1,.slice sJ n7 sH] 122)):=k7.alloc _;refine hK _ _ (fun _=>k10.pure) ?_;clear hK;apply aA rfl rfl;intro K hK;have XU:cu (w7.alloc (.cells #[.int .i64 k,.int .i64 c.1,.slice sJ n7 sH] 122)) [.int .i64 k,.int .i64 c.1,.slice sJ n7 sH] [(k,(c.1,c.2))]:=cu.one (by have:=R7.o.pure ((ε.refl η w7).alloc (.cells #[.int .i64 k,.int .i64 c.1,.slice sJ n7 sH] 122));simpa using this);have I9:=Reads.lit w7 [.int .i64 k,.int .i64 c.1,.slice sJ n7 sH] 122 3 1 rfl (by unfold maxLen;omega);obtain⟨v11,n11,Wn,f1,f2,f3,f4⟩:=pJ (k10.owns Q2.o.1 (fun _ _ h=>h)) I9 XU.cells (ω Q2.o.2.2.1.size k10.size) (by have:=Q2.o.2.2.2.2.2.2;simp;omega);obtain⟨KL,KJ,rfl⟩:=au f2;have xu:ε η w1 Wn:=(Q2.o.2.2.1.trans k10).new (ε.grown (S:=fun j=>w1.heap.size<=j) f4 (fun j hj _=>(aU Q2.o.1 hj).1)) (fun j hj hs=>by omega);refine wp_append_run (.tmp 37) (.tmp 47) 101 rfl (.slice Wu n1 Ws) (.slice (some ⟨w7.heap.size,0,none⟩) 1 1) _ rfl rfl f1 ?_;refine hK _ _ (fun _=>k10.pure.trans (ε.grown f4 (fun j hj _=>(aU Q2.o.1 hj).1))) ?_;clear hK;iterate 1 (first|(apply bf rfl;go_frame)|(apply aj rfl rfl;(intro W hW;go_simp;rfl);go_frame))
    refine aG (fun _=>k10.pure.trans (ε.grown f4 (fun j hj _=>(aU Q2.o.1 hj).1))) ?_;have ecs:=Q2.o.2.2.2.2.1;have uM:=Q2.o.2.2.2.2.2.1;obtain⟨vd,g1,g2⟩:=ED (P:=Tryz.prog) Tryz.underlying101 (wO Wn) (ecs.pure (k1.trans xu)) aaL;obtain⟨da,dn,dc,hvd⟩: ∃da dn dc,vd= .slice da dn dc:=(by obtain⟨a,n,c,e,_⟩:=g2;exact⟨a,n,c,e⟩);subst hvd;obtain⟨v14,n14,lT,j1,j2,j3,j4⟩:=pJ f2 g2 (uM.drop (aT k T)).cells xu.size (by have:=Q2.o.2.2.2.2.2.2;simp;omega);obtain⟨nX,nV,rfl⟩:=au j2;have k14:ε η w1 lT:=xu.new (ε.grown (S:=fun j=>w1.heap.size<=j) j4 (fun j hj _=>(aU f2 hj).1)) (fun j hj hs=>by omega);have dP:lT.heap[b]?=some (.cells #[.slice pa T.length iQ] 103 (0,0)):=by
     obtain⟨Fj,ho,_⟩:=HT.o.obj;have h1:=(k1.trans k14).heap ho id;have h2:=(k1.trans k14).cell (p:=⟨b,0,none⟩) id c00.o;have h3:lT.cell? ⟨b,0,none⟩=some Fj:=ζ h1 rfl;rw[h3]at h2
     injection h2 with h2
     rw[h2]at h1;exact h1
    have cb:lT.cell? ⟨b,0,none⟩=some (.slice pa T.length iQ):=ζ dP rfl;have fb:=free_at dP 0;have c11:=xu.cell (p:=⟨b,0,none⟩) id c0;have hfin:Ar w b T k c (.returned (.int .i64 0)) (lT.setCell ⟨b,0,none⟩ (.slice nX n14 nV)):=by
     have hE:dW T k c.2.length=0:=(by unfold dW;rw[if_neg h16,if_neg (fun h=>QU.o.2 h.2)]);have Y5:dH T k c=gQ k c T:=(by unfold dH;rw[if_pos hE]);have kb:ε (one b) lT (lT.setCell ⟨b,0,none⟩ (.slice nX n14 nV)):=(ε.refl (one b) lT).setCell (p:=⟨b,0,none⟩) (.inl rfl) _;have hrows:cu lT ([]++cs.take (aT k T*3)++[.int .i64 k,.int .i64 c.1,.slice sJ n7 sH]++cs.drop ((aT k T)*3)) (T.take (aT k T)++[(k,(c.1,c.2))]++T.drop (aT k T)):=by
      refine cu.append (cu.append ?_ ?_) ?_
      ·rw[List.nil_append];exact(uM.take _).pure (k1.trans k14)
      ·refine cu.one ?_
       have ka:ε η w7 (w7.alloc (.cells #[.int .i64 k,.int .i64 c.1,.slice sJ n7 sH] 122)):=(ε.refl η w7).alloc _;have o10:=ka.owns O7.o (fun _ _ h=>h)
       have Yn:=(ε.grown (S:=fun j=>Value.ownBlock (.slice Wu n1 Ws)=some j) f4 (fun j hj _=>hj)).owns o10 (fun j hj hx=>by
        have h1:=(aU Q2.o.1 hx).2;have h2:=(aU O7.o hj).1
        omega)
       have o14:=(ε.grown (S:=fun j=>Value.ownBlock (.slice KL n11 KJ)=some j) j4 (fun j hj _=>hj)).owns Yn (fun j hj hx=>FT Yn f2 (by decide) hj hx);exact Reads.aN o14
      ·exact(uM.drop _).pure (k1.trans k14)
     have hnot: ∀(x:Value)(l:List Int),Reads lT 1 x (ints l)->Reads (lT.setCell ⟨b,0,none⟩ (.slice nX n14 nV)) 1 x (ints l):=fun x l hx=>
      hx.kept kb (fun bb hbb e=>hx.qN dP (by omega) (fun y hy=>by
       cases l with
       |nil=>cases hy
       |cons q l=>cases hy;exact⟨_,_,rfl⟩) bb hbb e)
     have Qj:(lT.setCell ⟨b,0,none⟩ (.slice nX n14 nV)).heap[b]?=some (.cells #[.slice nX n14 nV] 103 (0,0)):=(by have:=bD dP 0 (.slice nX n14 nV);simpa using this);have Qi:Reads (lT.setCell ⟨b,0,none⟩ (.slice nX n14 nV)) 3 (.slice nX n14 nV) ([]++cs.take (aT k T*3)++[.int .i64 k,.int .i64 c.1,.slice sJ n7 sH]++cs.drop ((aT k T)*3)):=(by exact(Reads.aN j2).kept kb (fun bb hbb e=>(Reads.aN j2).qN dP (by omega) hrows.first bb hbb e));have hRR:cu (lT.setCell ⟨b,0,none⟩ (.slice nX n14 nV)) ([]++cs.take (aT k T*3)++[.int .i64 k,.int .i64 c.1,.slice sJ n7 sH]++cs.drop ((aT k T)*3)) (dH T k c):=(by rw[Y5,Bj HT.o.ok.rises];have hsome:(if(bY T k).isSome=true then aT k T+1 else aT k T)=(aT k T):=(by rw[QU.o.1];rfl);rw[hsome];exact⟨hrows.1,fun i p hp=>by obtain⟨a,b',lv,c',d⟩:=hrows.2 i p hp;exact⟨a,b',lv,c',hnot _ _ d⟩⟩);have Y6:eP (dH T k c):=by rw[Y5];exact HT.o.ok.gQ HC.o.1 ⟨HC.o.2.1,HC.o.2.2,by omega⟩ (.inr (by have:=QU.o.2;omega))
     refine⟨by rw[hE],⟨⟨_,Qj,_,Qi,hRR⟩,Y6⟩,(k1.trans k14).pure.trans kb,?_⟩;obtain⟨Fj,ho,_⟩:=HT.o.obj;have aaO:Fj= .slice pa T.length iQ:=by
      have h1:=ζ ho (j:=0) (v:=Fj) rfl;rw[c00.o]at h1
      injection h1 with h1;exact h1.symm
     rw[aaO]at ho;refine oV.of ho ecs Qj Qi hRR Y6 (fun q hq=>by have:=(j2.lt q (uQ hq)).1;have:=k1.size;omega) (fun R hR hN=>?_);exact gZ.append (n:=aT k T+1) (by simp only[List.nil_append,ν,υ,φ,Γ];have:=uM.1;omega) (gZ.append (n:=aT k T) (by rw[List.nil_append,υ];have:=uM.1;omega) (by rw[List.nil_append];exact hR.take _) (gZ.one (hN _ (fun q hq=>by have:=(O7.o.lt q (uQ hq)).1;have:=Q2.o.2.2.1.size;have:=k1.size;omega)))) (hR.drop _)
    have F:=γ hfin;have J1:=γ j1;have G1:=γ g1;have g1y:=g1
    skip
    clear hfin j1 j2 j3 j4 f1 f2 f3 f4 g2 k14 dP xu k10 k7 k4 kd XU I9 ecs uM;go_wp2_with (at_builtin;refine wpList_append_run rfl (.tmp 53) (.tmp 59) 101 rfl (.slice KL n11 KJ) (.slice da dn dc) _ rfl rfl J1.o ?_);go_ret;exact F.o
end
