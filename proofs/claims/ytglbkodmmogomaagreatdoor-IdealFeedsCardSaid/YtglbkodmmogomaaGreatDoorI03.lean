/- Put, Get, Drop. -/
import Derived.Test.YtglbkodmmogomaaGreatDoorI02
import Derived.Shelf.SlIterI.Nil
import Derived.Shelf.SlSortCmp.NoneTotal
import Derived.Sort.OwnSortedInts
import Derived.Test.YtglbkodmmogomaaGreatDoorChecked
import Derived.ProofKit
import Derived.OpenShut
import Derived.ShutString
import Derived.ChangeCalls
set_option linter.unusedVariables false
set_option linter.unusedSimpArgs false
set_option maxHeartbeats 800000
set_option maxRecDepth 100000
namespace Go.Proofs.YtglbkodmmogomaaGreatDoor
open Go Go.RowKit
theorem Ph {l:List (Int×Value)}{key:Int}{v:Value}(h:look l key=some v):(key,v)∈l:=by unfold look at h;obtain⟨p,hp,rfl⟩:=abP.1 h;have h1:=List.find?_some hp;have h2:=List.mem_of_find?_eq_some hp;have:key=p.1:=(by simpa using h1);subst this;exact h2
theorem Yw {l:List (Int×Value)}{key:Int}(h:look l key=none):key∉l.map (·.1):=by unfold look at h;intro hm;obtain⟨p,hp,rfl⟩:=abK.1 hm;simp at h;exact h _ _ hp rfl
theorem zI {w:World}{B:Nat->Prop}{T:Tab}{l:List (Int×Value)}(hT:dJ T)(hperm:(l.map (·.1)).Perm (bT T))(hc: ∀p∈l,∃c,(p.1,c)∈T/\CellIs w B p.2 c)(key:Int):
 (look l key=none/\bY T key=none)\/ ∃v c,look l key=some v/\bY T key=some c/\CellIs w B v c:=by
 cases hl:look l key with
 |none=>left;refine⟨rfl,IE.2 (fun hm=>Yw hl (hperm.mem_iff.2 hm))⟩
 |some v=>right;obtain⟨c,h1,h2⟩:=hc _ (Ph hl);exact⟨v,c,rfl,(nS hT).2 h1,h2⟩
theorem zi {key:Int}{v:Value}: ∀{l:List (Int×Value)}{p:Int×Value},(l.map (·.1)).Nodup->(p∈upd key v l↔p=(key,v)\/(p∈l/\p.1≠key))
 |[],p,_=>by simp[upd]
 |q::r,p,h=>by
  simp only[Θ,List.nodup_cons]at h;unfold upd;split
  ·rename_i he
   have he':key=q.1:=(by simpa using he);rw[abR,abR];constructor
   ·rintro(h'|h')
    ·exact .inl h'
    ·exact .inr ⟨.inr h',fun e=>h.1 (abK.2 ⟨p,h',by rw[e,he']⟩)⟩
   ·rintro(h'|⟨h'|h',hne⟩)
    ·exact .inl h'
    ·subst h';exact absurd he'.symm hne
    ·exact .inr h'
  ·rename_i he
   have he':q.1≠key:=fun e=>he (by simp[e]);rw[abR,zi h.2,abR];constructor
   ·rintro(h'|h'|h')
    ·subst h';exact .inr ⟨.inl rfl,he'⟩
    ·exact .inl h'
    ·exact .inr ⟨.inr h'.1,h'.2⟩
   ·rintro(h'|⟨h'|h',hne⟩)
    ·exact .inr (.inl h')
    ·exact .inl h'
    ·exact .inr (.inr ⟨h',hne⟩)
theorem FW {l r:List Int}(h1:l.Nodup)(h2:r.Nodup)(h: ∀x,x∈l↔x∈r):l.Perm r:=by rw[List.perm_iff_count];intro a;rw[h1.count,h2.count];simp[h a]
def QN (w:World)(B:Nat->Prop)(b m:Nat)(T:Tab)(k:Int)(c:Cell)(e:Ending)(w':World):Prop:=
 e= .returned (.int .i64 (dW T k c.2.length))/\TabAt w' B b m (dH T k c)/\ε (one m) w w'
theorem TabAt.put {w w':World}{B:Nat->Prop}{b m:Nat}{T:Tab}(h:TabAt w B b m T){l:List (Int×Value)}(hl:dQ w m l)(hperm:(l.map (·.1)).Perm (bT T))
 (hc: ∀p∈l,∃c,(p.1,c)∈T/\CellIs w B p.2 c) {k:Int} {c:Cell} {v:Value} (hl':dQ w' m (upd k v l)) (hk:ε (one m) w w') (hv:CellIs w' B v c) (hok:eP (gQ k c T)):TabAt w' B b m (gQ k c T):=by
 have hnd:=hl.nodup;refine⟨h.hb,h.hm,hk.heap h.obj (fun e=>?_),⟨_,hl',?_,fun p hp=>?_⟩,hok⟩
 ·have:=h.obj
  rw[show b=m from e]at this;obtain⟨L,cl,hL,_⟩:=hl;rw[hL.heap]at this;cases this
 ·refine FW hl'.nodup h.ok.rises.gQ.nodup fun x=>?_
  unfold bT;simp only[abK];constructor
  ·rintro⟨p,hp,rfl⟩
   rcases(zi hnd).1 hp with rfl|⟨hp,hne⟩
   ·exact⟨(k,c),(jU h.ok.rises).2 (.inl rfl),rfl⟩
   ·obtain⟨c',h1,_⟩:=hc p hp
    exact⟨(p.1,c'),(jU h.ok.rises).2 (.inr ⟨h1,hne⟩),rfl⟩
  ·rintro⟨p,hp,rfl⟩
   rcases(jU h.ok.rises).1 hp with rfl|⟨hp,hne⟩
   ·exact⟨(k,v),(zi hnd).2 (.inl rfl),rfl⟩
   ·have:p.1∈l.map (·.1):=hperm.mem_iff.2 (abK.2 ⟨p,hp,rfl⟩)
    obtain⟨q,hq,e⟩:=abK.1 this;exact⟨q,(zi hnd).2 (.inr ⟨hq,by rw[e];exact hne⟩),e⟩
 ·rcases(zi hnd).1 hp with rfl|⟨hp,hne⟩
  ·exact⟨c,(jU h.ok.rises).2 (.inl rfl),hv⟩
  ·obtain⟨c',h1,h2⟩:=hc p hp
   exact⟨c',(jU h.ok.rises).2 (.inr ⟨h1,hne⟩),h2.kept hk (.map hl B)⟩
theorem Dz.Zx {w w':World}{B:Nat->Prop}{n':Nat}{v':Value}{c:Cell}(h:w'.ownsRow w.heap.size 2 1 v' n' (ints c.2))(hB: ∀k,w.heap.size<=k->B k):CellIs w' B (.agg #[.int .i64 c.1,v']) c:=
 ⟨v',rfl,Reads.aN h,fun _ hb=>hB _ (nZ h hb).1⟩
theorem put_any (B:Nat->Prop)(b m:Nat)(T:Tab)(k:Int)(c:Cell)(v:Value)(w:World)(h:TabAt w B b m T)(hB: ∀k,w.heap.size<=k->B k)(hk:aH k)(hc1:aH c.1)(hc2: ∀x∈c.2,aH x)(hlen:c.2.length<=17592186044416)(hr:Reads w 1 v (ints c.2)):
 Calls Tryz.prog 112 #[.pointer (some ⟨b,0,none⟩),.int .i64 k,.agg #[.int .i64 c.1,v]] w (QN w B b m T k c):=by
 obtain⟨a,n,cap,rfl,hn,hcap,hl,hp,hcell⟩:=hr.slice;have hn':c.2.length=n:=(by simpa using hl);have hcb:=h.cell;have hbl:=block_lt_of_cell hcb;simp only[]at hbl;have Uo:=γ hB;clear hcell hp hl hB;by_cases h16:16<n
 ·have hE:dW T k c.2.length=2:=by unfold dW;rw[if_pos (by omega)]
  have hT:dH T k c=T:=(by unfold dH;rw[hE];rfl);have E1:=γ hE;have E2:=γ hT;have E3:=γ hn';have H:=γ h;clear hE hT hn' h hr hcb;go_enter Tryz.func112,Tryz.ntmps112;go_wp2;go_ret;refine⟨by rw[E1.o];rfl,by rw[E2.o];exact H.o.pure (δ.alloc _),δ.alloc _⟩
 ·obtain⟨l,hml,hperm,hcs⟩:=h.map
  have hz:=Tryz.zeroValue109;have hk1:ε η w (w.alloc (.cells #[.int .i64 c.1,.slice a n cap] 109)):=δ.alloc _;have hlk:=(hml.kept hk1 id).lookup (P:=Tryz.prog) Tryz.underlying113 Tryz.underlying2 k (hz _);have hlook:=zI h.ok.rises hperm hcs k;have H:=γ h;have HM:=γ hml;have HP:=γ hperm;have HC:=γ hcs;have HR:=γ hr;have E3:=γ hn';clear h hml hperm hcs hr hn'
  rcases hlook with⟨h1,h2⟩|⟨v0,c0,h1,h2,lv,rfl,hlv⟩
  ·rw[h1]at hlk
   simp only[Option.getD_none,Option.isSome_none]at hlk;have H2:=γ h2;clear h1 h2 hz hk1;by_cases yB:40<=aV T (grp k)
   ·have hE:dW T k c.2.length=7:=by unfold dW;rw[if_neg (by rw[E3.o];exact h16),if_pos ⟨H2.o,yB⟩]
    have E1:=γ hE;have ah3:(40:Int)<=((aV T (grp k):Nat):Int):=(by omega);clear hE;go_enter Tryz.func112,Tryz.ntmps112;go_wp2_with fail;refine(xg _ _).mono ?_;rintro e w' ⟨rfl,rfl⟩;go_wp2_with fail;refine(zV B b m T _ _ (H.o.pure ((δ.alloc _).alloc _))).mono ?_;rintro e w1 ⟨rfl,k1⟩;go_wp2_with fail;go_ret;have k2:ε η w w1:=((δ.alloc _).alloc _).trans k1;refine⟨by rw[E1.o];rfl,?_,k2.pure⟩;unfold dH;rw[if_neg (by rw[E1.o];decide)];exact H.o.pure k2
   ·have ah3: ¬(40:Int)<=((aV T (grp k):Nat):Int):=by omega
    go_enter Tryz.func112,Tryz.ntmps112;go_wp2_with fail;refine(xg _ _).mono ?_;rintro e w' ⟨rfl,rfl⟩;go_wp2_with fail;refine(zV B b m T _ _ (H.o.pure ((δ.alloc _).alloc _))).mono ?_;rintro e w0 ⟨rfl,k0⟩;go_wp2_with fail;obtain⟨W0,hW0⟩: ∃W0,w0=W0:=⟨_,rfl⟩;have hs:w.heap.size+2<=W0.heap.size:=(by rw[<-hW0];have:=k0.size;simpa using this);have hk0:ε η w W0:=(by rw[<-hW0];(exact((δ.alloc _).alloc _).trans k0));have c0:W0.cell? ⟨w.heap.size,0,none⟩=some (.int .i64 c.1):=(by rw[<-hW0];(exact k0.cell id (by simp)));have c1:W0.cell? ⟨w.heap.size,1,none⟩=some (.slice a n cap):=(by rw[<-hW0];(exact k0.cell id (by simp)));have c2:W0.cell? ⟨b,0,none⟩=some (.map (some m)):=hk0.cell (p:=⟨b,0,none⟩) id hcb;have ahY:b<W0.heap.size:=(by omega);have aa0:w.heap.size<W0.heap.size:=(by omega);rw[hW0];clear hW0 hlk hcb;refine ak [0,1,2,3,4,5,6,7] (fun W=>ε η W0 W) (by kernel_rfl) (by kernel_rfl) rfl δ.drew ?_;simp only[abU];iterate 6 (apply aj rfl rfl;(intro W hW;have hc:=hW.cq;go_simp;rfl);go_frame)
    apply aA rfl rfl;intro K hK;go_wp2_with fail;refine(Dc _ _ (ints c.2) _ (HR.o.pure hk0.drew) (mQ _) (by simpa using hlen)).mono ?_;rintro e w1 ⟨v',n',rfl,g1,g2,g3⟩;have k1:ε η W0 w1:=g3.aZ;have k2:ε η w w1:=hk0.trans k1;obtain⟨w2,hup,rF,k3,hs3⟩:=(HM.o.kept k2 id).update (P:=Tryz.prog) Tryz.underlying113 Tryz.underlying2 k (.agg #[.int .i64 c.1,v']);have hfin:QN w B b m T k c (.returned (.int .i64 0)) w2:=(by have hok:eP (gQ k c T):=H.o.ok.gQ hk ⟨hc1,hc2,by rw[E3.o];omega⟩ (.inr (by omega));have hci:CellIs w1 B (.agg #[.int .i64 c.1,v']) c:=Dz.Zx (w:=W0.drew) g1 (fun k hk=>Uo.o k (ω (ω (Nat.le_add_right _ 2) hs) hk));have hE:dW T k c.2.length=0:=(by unfold dW;rw[if_neg (by rw[E3.o];exact h16),if_neg (fun h=>yB h.2)]);refine⟨by rw[hE],?_,k2.pure.trans k3⟩;unfold dH;rw[if_pos hE];refine(H.o.pure k2).put (HM.o.kept k2 id) HP.o (fun p hp=>?_) rF k3 (hci.kept k3 (.map (HM.o.kept k2 id) B)) hok;obtain⟨c',h1,h2⟩:=HC.o p hp;exact⟨c',h1,h2.kept k2 (.none _ _)⟩);have F:=γ hfin;clear hfin rF k3 g1 g2 g3;go_wp2_with fail;refine hK _ _ (fun _=>k1) ?_;clear hK;apply aA rfl rfl;intro K2 hK2;go_wp2_with fail;refine hK2 _ _ (fun h=>absurd rfl h) (jo (by kernel_rfl) ?_);clear hK2;go_wp2_with fail;go_ret;exact F.o
  ·rw[h1]at hlk
   simp only[Δ,Option.isSome_some]at hlk;obtain⟨a2,n2,cap2,rfl,hj⟩:=hlv.1.slice;clear hj;have H2:=γ h2;clear h1 h2 hz hk1 hlv;go_enter Tryz.func112,Tryz.ntmps112;go_wp2_with fail;obtain⟨W0,hW0⟩: ∃W0,((w.alloc (.cells #[.int .i64 c.1,.slice a n cap] 109)).alloc (.cells #[.int .i64 c0.1,.slice a2 n2 cap2] 109))=W0:=⟨_,rfl⟩;have hs:w.heap.size+2<=W0.heap.size:=(by rw[<-hW0];simp);have hk0:ε η w W0:=(by rw[<-hW0];(exact(δ.alloc _).alloc _));have d0:W0.cell? ⟨w.heap.size,0,none⟩=some (.int .i64 c.1):=(by rw[<-hW0];simp);have d1:W0.cell? ⟨w.heap.size,1,none⟩=some (.slice a n cap):=(by rw[<-hW0];simp);have c2:W0.cell? ⟨b,0,none⟩=some (.map (some m)):=hk0.cell (p:=⟨b,0,none⟩) id hcb;have ahY:b<W0.heap.size:=(by omega);have aa0:w.heap.size<W0.heap.size:=(by omega);rw[hW0];clear hW0 hlk hcb;refine ak [0,1,2,3,4,5,6,7] (fun W=>ε η W0 W) (by kernel_rfl) (by kernel_rfl) rfl δ.drew ?_;simp only[abU];iterate 6 (apply aj rfl rfl;(intro W hW;have hc:=hW.cq;go_simp;rfl);go_frame)
   apply aA rfl rfl;intro K hK;go_wp2_with fail;refine(Dc _ _ (ints c.2) _ (HR.o.pure hk0.drew) (mQ _) (by simpa using hlen)).mono ?_;rintro e w1 ⟨v',n',rfl,g1,g2,g3⟩;have k1:ε η W0 w1:=g3.aZ;have k2:ε η w w1:=hk0.trans k1;obtain⟨w2,hup,rF,k3,hs3⟩:=(HM.o.kept k2 id).update (P:=Tryz.prog) Tryz.underlying113 Tryz.underlying2 k (.agg #[.int .i64 c.1,v']);have hfin:QN w B b m T k c (.returned (.int .i64 0)) w2:=(by have hok:eP (gQ k c T):=H.o.ok.gQ hk ⟨hc1,hc2,by rw[E3.o];omega⟩ (.inl (by rw[H2.o];simp));have hci:CellIs w1 B (.agg #[.int .i64 c.1,v']) c:=Dz.Zx (w:=W0.drew) g1 (fun k hk=>Uo.o k (ω (ω (Nat.le_add_right _ 2) hs) hk));have hE:dW T k c.2.length=0:=(by unfold dW;rw[if_neg (by rw[E3.o];exact h16),if_neg (fun h=>by rw[H2.o]at h;cases h.1)]);refine⟨by rw[hE],?_,k2.pure.trans k3⟩;unfold dH;rw[if_pos hE];refine(H.o.pure k2).put (HM.o.kept k2 id) HP.o (fun p hp=>?_) rF k3 (hci.kept k3 (.map (HM.o.kept k2 id) B)) hok;obtain⟨c',h1,h2⟩:=HC.o p hp;exact⟨c',h1,h2.kept k2 (.none _ _)⟩);have F:=γ hfin;clear hfin rF k3 g1 g2 g3;go_wp2_with fail;refine hK _ _ (fun _=>k1) ?_;clear hK;apply aA rfl rfl;intro K2 hK2;go_wp2_with fail;refine hK2 _ _ (fun h=>absurd rfl h) (jo (by kernel_rfl) ?_);clear hK2;go_wp2_with fail;go_ret;exact F.o
def Q7 (w:World)(T:Tab)(k:Int)(e:Ending)(w':World):Prop:=
 ∃lv n',e= .returned (.tuple #[.agg #[.int .i64 ((bY T k).getD (0,[])).1,lv],.bool (bY T k).isSome])/\w'.ownsRow w.heap.size 2 1 lv n' (ints ((bY T k).getD (0,[])).2)/\n'=((bY T k).getD (0,[])).2.length/\ε η w w'
theorem get_any (B:Nat->Prop)(b m:Nat)(T:Tab)(k:Int)(w:World)(h:TabAt w B b m T):
 Calls Tryz.prog 60 #[.pointer (some ⟨b,0,none⟩),.int .i64 k] w (Q7 w T k):=by
 have hcb:=h.cell;have hbl:=block_lt_of_cell hcb;simp only[]at hbl;obtain⟨l,hml,hperm,hcs⟩:=h.map;have hz:=Tryz.zeroValue109;have hk1:ε η w (w.alloc (.cells #[.int .i64 0,.slice none 0 0] 109)):=δ.alloc _;have hlk:=(hml.kept hk1 id).lookup (P:=Tryz.prog) Tryz.underlying113 Tryz.underlying2 k (hz _);have hlook:=zI h.ok.rises hperm hcs k;have HT:=γ h;clear h hml hperm hcs
 rcases hlook with⟨h1,h2⟩|⟨v0,c0,h1,h2,lv,rfl,hlv⟩
 ·rw[h1]at hlk
  simp only[Option.getD_none,Option.isSome_none]at hlk;have H2:=γ h2;clear h1 h2 hz hk1;go_enter Tryz.func60,Tryz.ntmps60;go_wp2_with fail;obtain⟨W0,hW0⟩: ∃W0,((w.alloc (.cells #[.int .i64 0,.slice none 0 0] 109)).alloc (.cells #[.int .i64 0,.slice none 0 0] 109))=W0:=⟨_,rfl⟩;have hs:w.heap.size+2<=W0.heap.size:=(by rw[<-hW0];simp);have aa0:w.heap.size<W0.heap.size:=(by omega);have hk0:ε η w W0:=(by rw[<-hW0];exact(δ.alloc _).alloc _);have z0:W0.cell? ⟨w.heap.size,0,none⟩=some (.int .i64 0):=(by rw[<-hW0];simp);have z1:W0.cell? ⟨w.heap.size,1,none⟩=some (.slice none 0 0):=(by rw[<-hW0];simp);have f0:W0.frozen? ⟨w.heap.size,0,none⟩=false:=(by rw[<-hW0];simp);have f1:W0.frozen? ⟨w.heap.size,1,none⟩=false:=(by rw[<-hW0];simp);rw[hW0];clear hW0 hlk hcb;refine(Dc _ _ (ints []) _ (Reads.nil _ _) (mQ _) (by simp)).mono ?_;rintro e w1 ⟨v',n',rfl,g1,g2,k1⟩;obtain⟨a',cap',rfl⟩:=au g1;have q0:=k1.cell (p:=⟨w.heap.size,0,none⟩) id z0;have q1:=k1.cell (p:=⟨w.heap.size,1,none⟩) id z1;have hf:=k1.fq;have F:Q7 w T k (.returned (.tuple #[.agg #[.int .i64 0,.slice a' n' cap'],.bool false])) ((w1.setCell ⟨w.heap.size,0,none⟩ (.int .i64 0)).setCell ⟨w.heap.size,1,none⟩ (.slice a' n' cap')):=by
   refine⟨_,n',by rw[H2.o];rfl,?_,by rw[H2.o];simpa using g2,((hk0.trans k1).setCell (p:=⟨w.heap.size,0,none⟩) (.inr (by simp)) _).setCell (p:=⟨w.heap.size,1,none⟩) (.inr (by simp)) _⟩;rw[H2.o];refine jH (base:=W0.heap.size) ?_ (by omega);exact(((ε.refl (fun k=>k<W0.heap.size) w1).setCell (p:=⟨w.heap.size,0,none⟩) (.inl (by simp;omega)) _).setCell (p:=⟨w.heap.size,1,none⟩) (.inl (by simp;omega)) _).owns g1
    (fun k hk h=>by have:=(g1.lt k hk).1;omega)
  have F':=γ F;clear F g1 g2 hk0;go_wp2_with fail;refine bodyPost_ret (v:= .tuple #[.agg #[.int .i64 0,.slice a' n' cap'],.bool false]) (by simp[results,Tryz.results60,go_sem,q0,q1]) rfl F'.o
 ·rw[h1]at hlk
  simp only[Δ,Option.isSome_some]at hlk;obtain⟨a2,n2,cap2,rfl,hj⟩:=hlv.1.slice;clear hj;have hc2:=(HT.o.ok.cell _ ((nS HT.o.ok.rises).1 h2)).2.2;have HL:=γ hlv.1;clear hlv;have H2:=γ h2;clear h1 h2 hz hk1;go_enter Tryz.func60,Tryz.ntmps60;go_wp2_with fail;obtain⟨W0,hW0⟩: ∃W0,((w.alloc (.cells #[.int .i64 0,.slice none 0 0] 109)).alloc (.cells #[.int .i64 c0.1,.slice a2 n2 cap2] 109))=W0:=⟨_,rfl⟩;have hs:w.heap.size+2<=W0.heap.size:=(by rw[<-hW0];simp);have aa0:w.heap.size<W0.heap.size:=(by omega);have hk0:ε η w W0:=(by rw[<-hW0];exact(δ.alloc _).alloc _);have z0:W0.cell? ⟨w.heap.size,0,none⟩=some (.int .i64 0):=(by rw[<-hW0];simp);have z1:W0.cell? ⟨w.heap.size,1,none⟩=some (.slice none 0 0):=(by rw[<-hW0];simp);have f0:W0.frozen? ⟨w.heap.size,0,none⟩=false:=(by rw[<-hW0];simp);have f1:W0.frozen? ⟨w.heap.size,1,none⟩=false:=(by rw[<-hW0];simp);rw[hW0];clear hW0 hlk hcb;refine(Dc _ _ (ints c0.2) _ (HL.o.pure hk0) (mQ _) (by simp;omega)).mono ?_;rintro e w1 ⟨v',n',rfl,g1,g2,k1⟩;obtain⟨a',cap',rfl⟩:=au g1;have q0:=k1.cell (p:=⟨w.heap.size,0,none⟩) id z0;have q1:=k1.cell (p:=⟨w.heap.size,1,none⟩) id z1;have hf:=k1.fq;have F:Q7 w T k (.returned (.tuple #[.agg #[.int .i64 c0.1,.slice a' n' cap'],.bool true])) ((w1.setCell ⟨w.heap.size,0,none⟩ (.int .i64 c0.1)).setCell ⟨w.heap.size,1,none⟩ (.slice a' n' cap')):=by
   refine⟨_,n',by rw[H2.o];rfl,?_,by rw[H2.o];simpa using g2,((hk0.trans k1).setCell (p:=⟨w.heap.size,0,none⟩) (.inr (by simp)) _).setCell (p:=⟨w.heap.size,1,none⟩) (.inr (by simp)) _⟩;rw[H2.o];refine jH (base:=W0.heap.size) ?_ (by omega);exact(((ε.refl (fun k=>k<W0.heap.size) w1).setCell (p:=⟨w.heap.size,0,none⟩) (.inl (by simp;omega)) _).setCell (p:=⟨w.heap.size,1,none⟩) (.inl (by simp;omega)) _).owns g1
    (fun k hk h=>by have:=(g1.lt k hk).1;omega)
  have F':=γ F;clear F g1 g2 hk0;go_wp2_with fail;refine bodyPost_ret (v:= .tuple #[.agg #[.int .i64 c0.1,.slice a' n' cap'],.bool true]) (by simp[results,Tryz.results60,go_sem,q0,q1]) rfl F'.o
theorem Ia {key:Int}{l:List (Int×Value)}{p:Int×Value}:p∈del key l↔p∈l/\p.1≠key:=by unfold del;simp;intro _;exact⟨fun h e=>h e.symm,fun h e=>h e.symm⟩
theorem TabAt.drop {w w':World}{B:Nat->Prop}{b m:Nat}{T:Tab}(h:TabAt w B b m T){l:List (Int×Value)}(hl:dQ w m l)(hperm:(l.map (·.1)).Perm (bT T))
 (hc: ∀p∈l,∃c,(p.1,c)∈T/\CellIs w B p.2 c) {k:Int} (hl':dQ w' m (del k l)) (hk:ε (one m) w w'):TabAt w' B b m (dS k T):=by
 refine⟨h.hb,h.hm,hk.heap h.obj (fun e=>?_),⟨_,hl',?_,fun p hp=>?_⟩,h.ok.dS k⟩
 ·have:=h.obj
  rw[show b=m from e]at this;obtain⟨L,cl,hL,_⟩:=hl;rw[hL.heap]at this;cases this
 ·refine FW hl'.nodup h.ok.rises.dS.nodup fun x=>?_
  unfold bT;simp only[abK];constructor
  ·rintro⟨p,hp,rfl⟩
   obtain⟨hp,hne⟩:=Ia.1 hp;obtain⟨c',h1,_⟩:=hc p hp;exact⟨(p.1,c'),rV.2 ⟨h1,hne⟩,rfl⟩
  ·rintro⟨p,hp,rfl⟩
   obtain⟨hp,hne⟩:=rV.1 hp;have:p.1∈l.map (·.1):=hperm.mem_iff.2 (abK.2 ⟨p,hp,rfl⟩);obtain⟨q,hq,e⟩:=abK.1 this;exact⟨q,Ia.2 ⟨hq,by rw[e];exact hne⟩,e⟩
 ·obtain⟨hp,hne⟩:=Ia.1 hp
  obtain⟨c',h1,h2⟩:=hc p hp;exact⟨c',rV.2 ⟨h1,hne⟩,h2.kept hk (.map hl B)⟩
def V4 (w:World)(B:Nat->Prop)(b m:Nat)(T:Tab)(k:Int)(e:Ending)(w':World):Prop:=
 e= .returned (.bool (bY T k).isSome)/\TabAt w' B b m (dS k T)/\ε (one m) w w'
theorem abf (B:Nat->Prop)(b m:Nat)(T:Tab)(k:Int)(w:World)(h:TabAt w B b m T):
 Calls Tryz.prog 114 #[.pointer (some ⟨b,0,none⟩),.int .i64 k] w (V4 w B b m T k):=by
 have hcb:=h.cell;have hbl:=block_lt_of_cell hcb;simp only[]at hbl;obtain⟨l,hml,hperm,hcs⟩:=h.map;have hz:=Tryz.zeroValue109;have hlk:=hml.lookup (P:=Tryz.prog) Tryz.underlying113 Tryz.underlying2 k (hz _);have hlook:=zI h.ok.rises hperm hcs k;have HT:=γ h
 rcases hlook with⟨h1,h2⟩|⟨v0,c0,h1,h2,lv,rfl,hlv⟩
 ·rw[h1]at hlk
  simp only[Option.getD_none,Option.isSome_none]at hlk;have hk1:ε η w (w.alloc (.cells #[.int .i64 0,.slice none 0 0] 109)):=δ.alloc _;obtain⟨w2,hdel,rF,k2,hs2⟩:=(hml.kept hk1 id).delete (P:=Tryz.prog) Tryz.underlying113 Tryz.underlying2 k;have F:V4 w B b m T k (.returned (.bool false)) w2:=⟨by rw[h2];rfl,(h.pure hk1).drop (hml.kept hk1 id) hperm (fun p hp=>(hcs p hp).imp fun c hc=>⟨hc.1,hc.2.kept hk1 (.none _ _)⟩) rF k2,hk1.pure.trans k2⟩;have F':=γ F;clear F h hml hperm hcs h1 h2 hz hk1 k2 hs2 rF;go_enter Tryz.func114,Tryz.ntmps114;go_wp2_with fail;go_ret;exact F'.o
 ·rw[h1]at hlk
  simp only[Δ,Option.isSome_some]at hlk;obtain⟨a2,n2,cap2,rfl,hj⟩:=hlv.1.slice;clear hj;have hk1:ε η w (w.alloc (.cells #[.int .i64 c0.1,.slice a2 n2 cap2] 109)):=δ.alloc _;obtain⟨w2,hdel,rF,k2,hs2⟩:=(hml.kept hk1 id).delete (P:=Tryz.prog) Tryz.underlying113 Tryz.underlying2 k;have F:V4 w B b m T k (.returned (.bool true)) w2:=⟨by rw[h2];rfl,(h.pure hk1).drop (hml.kept hk1 id) hperm (fun p hp=>(hcs p hp).imp fun c hc=>⟨hc.1,hc.2.kept hk1 (.none _ _)⟩) rF k2,hk1.pure.trans k2⟩;have F':=γ F;clear F h hml hperm hcs h1 h2 hz hk1 k2 hs2 rF hlv;go_enter Tryz.func114,Tryz.ntmps114;go_wp2_with fail;go_ret;exact F'.o
end Go.Proofs.YtglbkodmmogomaaGreatDoor
namespace Go.Proofs
open Go.Shelf
def Tryz.keysL_ren:Go.Shelf.Ren:=⟨fun|7=>90|10=>137|n=>n,fun|23=>113|26=>2|3=>109|28=>169|0=>0|27=>168|33=>188|4=>4|n=>n,fun|n=>n⟩
theorem Tryz.keysL:Go.Proofs.SlLaysZI.n7 Tryz.prog Tryz.keysL_ren:={
 mixed:=by kernel_rfl
 f7:=⟨Tryz.f90.name,by decide,Tryz.func90.trans (congrArg some (by kernel_rfl))⟩
 f10:=⟨Tryz.f137.name,by decide,Tryz.func137.trans (congrArg some (by kernel_rfl))⟩
 t0:=Tryz.underlying0
 a0:=Tryz.isAgg0
 z0:=Tryz.sizeOf0
 v0:=Tryz.zeroValue0
 t4:=Tryz.underlying4
 a4:=Tryz.isAgg4
 z4:=Tryz.sizeOf4
 v4:=Tryz.zeroValue4
 t23:=Tryz.underlying113
 a23:=Tryz.isAgg113
 z23:=Tryz.sizeOf113
 v23:=Tryz.zeroValue113
 t26:=Tryz.underlying2
 a26:=Tryz.isAgg2
 z26:=Tryz.sizeOf2
 v26:=Tryz.zeroValue2
 t27:=Tryz.underlying168
 a27:=Tryz.isAgg168
 z27:=Tryz.sizeOf168
 v27:=Tryz.zeroValue168
 t28:=Tryz.underlying169
 a28:=Tryz.isAgg169
 z28:=Tryz.sizeOf169
 v28:=Tryz.zeroValue169
 t33:=Tryz.underlying188
 a33:=Tryz.isAgg188
 z33:=Tryz.sizeOf188
 v33:=Tryz.zeroValue188}
def Tryz.collectL_ren:Go.Shelf.Ren:=⟨fun|8=>135|11=>169|n=>n,fun|26=>2|28=>169|24=>97|0=>0|33=>188|4=>4|n=>n,fun|n=>n⟩
theorem Tryz.collectL:Go.Proofs.SlLaysZI.n8 Tryz.prog Tryz.collectL_ren:={
 mixed:=by kernel_rfl
 f8:=⟨Tryz.f135.name,by decide,Tryz.func135.trans (congrArg some (by kernel_rfl))⟩
 f11:=⟨Tryz.f169.name,by decide,Tryz.func169.trans (congrArg some (by kernel_rfl))⟩
 t0:=Tryz.underlying0
 a0:=Tryz.isAgg0
 z0:=Tryz.sizeOf0
 v0:=Tryz.zeroValue0
 t24:=Tryz.underlying97
 a24:=Tryz.isAgg97
 z24:=Tryz.sizeOf97
 v24:=Tryz.zeroValue97
 t26:=Tryz.underlying2
 a26:=Tryz.isAgg2
 z26:=Tryz.sizeOf2
 v26:=Tryz.zeroValue2
 t28:=Tryz.underlying169
 a28:=Tryz.isAgg169
 z28:=Tryz.sizeOf169
 v28:=Tryz.zeroValue169
 i26:=by kernel_rfl}
def Tryz.sortL_ren:Go.Shelf.Ren:=⟨fun|6=>136|15=>171|14=>170|28=>208|29=>209|20=>200|21=>201|22=>202|23=>203|24=>204|25=>205|26=>206|27=>207|46=>235|47=>236|48=>237|49=>238|50=>239|57=>261|n=>n,fun|22=>97|24=>2|25=>110|3=>3|39=>212|0=>0|53=>288|55=>174|4=>4|46=>282|45=>281|50=>229|5=>5|9=>9|66=>312|70=>316|76=>330|77=>331|n=>n,fun|n=>n⟩
theorem Tryz.sortL:Go.Proofs.SlLaysF.n6 Tryz.prog Tryz.sortL_ren:={
 mixed:=by kernel_rfl
 f6:=⟨Tryz.f136.name,by decide,Tryz.func136.trans (congrArg some (by kernel_rfl))⟩
 f14:=⟨Tryz.f170.name,by decide,Tryz.func170.trans (congrArg some (by kernel_rfl))⟩
 f15:=Tryz.func171.trans (congrArg some (by kernel_rfl))
 f20:=⟨Tryz.f200.name,by decide,Tryz.func200.trans (congrArg some (by kernel_rfl))⟩
 f21:=⟨Tryz.f201.name,by decide,Tryz.func201.trans (congrArg some (by kernel_rfl))⟩
 f22:=⟨Tryz.f202.name,by decide,Tryz.func202.trans (congrArg some (by kernel_rfl))⟩
 f23:=⟨Tryz.f203.name,by decide,Tryz.func203.trans (congrArg some (by kernel_rfl))⟩
 f24:=⟨Tryz.f204.name,by decide,Tryz.func204.trans (congrArg some (by kernel_rfl))⟩
 f25:=⟨Tryz.f205.name,by decide,Tryz.func205.trans (congrArg some (by kernel_rfl))⟩
 f26:=⟨Tryz.f206.name,by decide,Tryz.func206.trans (congrArg some (by kernel_rfl))⟩
 f27:=⟨Tryz.f207.name,by decide,Tryz.func207.trans (congrArg some (by kernel_rfl))⟩
 f28:=Tryz.func208.trans (congrArg some (by kernel_rfl))
 f29:=Tryz.func209.trans (congrArg some (by kernel_rfl))
 f46:=⟨Tryz.f235.name,by decide,Tryz.func235.trans (congrArg some (by kernel_rfl))⟩
 f47:=Tryz.func236.trans (congrArg some (by kernel_rfl))
 f48:=Tryz.func237.trans (congrArg some (by kernel_rfl))
 f49:=⟨Tryz.f238.name,by decide,Tryz.func238.trans (congrArg some (by kernel_rfl))⟩
 f50:=⟨Tryz.f239.name,by decide,Tryz.func239.trans (congrArg some (by kernel_rfl))⟩
 f57:=⟨Tryz.f261.name,by decide,Tryz.func261.trans (congrArg some (by kernel_rfl))⟩
 t0:=Tryz.underlying0
 a0:=Tryz.isAgg0
 z0:=Tryz.sizeOf0
 v0:=Tryz.zeroValue0
 t3:=Tryz.underlying3
 a3:=Tryz.isAgg3
 z3:=Tryz.sizeOf3
 v3:=Tryz.zeroValue3
 t4:=Tryz.underlying4
 a4:=Tryz.isAgg4
 z4:=Tryz.sizeOf4
 v4:=Tryz.zeroValue4
 t5:=Tryz.underlying5
 a5:=Tryz.isAgg5
 z5:=Tryz.sizeOf5
 v5:=Tryz.zeroValue5
 t9:=Tryz.underlying9
 a9:=Tryz.isAgg9
 z9:=Tryz.sizeOf9
 v9:=Tryz.zeroValue9
 t22:=Tryz.underlying97
 a22:=Tryz.isAgg97
 z22:=Tryz.sizeOf97
 v22:=Tryz.zeroValue97
 a24:=Tryz.isAgg2
 z24:=Tryz.sizeOf2
 t25:=Tryz.underlying110
 a25:=Tryz.isAgg110
 z25:=Tryz.sizeOf110
 v25:=Tryz.zeroValue110
 t39:=Tryz.underlying212
 a39:=Tryz.isAgg212
 z39:=Tryz.sizeOf212
 v39:=Tryz.zeroValue212
 t45:=Tryz.underlying281
 a45:=Tryz.isAgg281
 z45:=Tryz.sizeOf281
 v45:=Tryz.zeroValue281
 t46:=Tryz.underlying282
 a46:=Tryz.isAgg282
 z46:=Tryz.sizeOf282
 v46:=Tryz.zeroValue282
 t50:=Tryz.underlying229
 a50:=Tryz.isAgg229
 z50:=Tryz.sizeOf229
 v50:=Tryz.zeroValue229
 t53:=Tryz.underlying288
 a53:=Tryz.isAgg288
 z53:=Tryz.sizeOf288
 v53:=Tryz.zeroValue288
 t55:=Tryz.underlying174
 a55:=Tryz.isAgg174
 z55:=Tryz.sizeOf174
 v55:=Tryz.zeroValue174
 t66:=Tryz.underlying312
 a66:=Tryz.isAgg312
 z66:=Tryz.sizeOf312
 v66:=Tryz.zeroValue312
 t70:=Tryz.underlying316
 a70:=Tryz.isAgg316
 z70:=Tryz.sizeOf316
 v70:=Tryz.zeroValue316
 t76:=Tryz.underlying330
 a76:=Tryz.isAgg330
 z76:=Tryz.sizeOf330
 v76:=Tryz.zeroValue330
 t77:=Tryz.underlying331
 a77:=Tryz.isAgg331
 z77:=Tryz.sizeOf331
 v77:=Tryz.zeroValue331}
end Go.Proofs
namespace Go.Proofs.YtglbkodmmogomaaGreatDoor
section
open Go Go.RowKit Go.Shelf Go.Sort
def gG (a b:Int):Int:=if a<b then-1 else if b<a then 1 else 0
def TG (a b:Int):Int:=if a=0 then b else a
def yR (a b:Int):Int:=TG (gG (grp a) (grp b)) (gG a b)
theorem Uh (a b:Int):decide (yR a b<0)=bH a b:=by
 rw[Bool.eq_iff_iff,pV];unfold yR TG gG;simp only[decide_eq_true_eq];by_cases h1:grp a<grp b
 ·simp[h1]
 ·by_cases h2:grp b<grp a
  ·simp[h1,h2];omega
  ·have:grp a=grp b:=by omega
   simp[this];by_cases h3:a<b
   ·simp[h3]
   ·by_cases h4:b<a<;>simp[h3,h4]
theorem acp (a b:Int)(w:World):Calls Tryz.prog 99 #[.int .i64 a,.int .i64 b] w fun e w'=>e= .returned (.int .i64 (gG a b))/\w=w':=by
 by_cases h1:a<b
 ·have e:gG a b= -1:=by simp[gG,h1]
  have E:=γ e;clear e;go_enter Tryz.func99,Tryz.ntmps99;go_wp2;go_ret;exact⟨gW E.o.symm,rfl⟩
 ·by_cases h2:b<a
  ·have e:gG a b=1:=by simp[gG,h1,h2]
   have E:=γ e;clear e;go_enter Tryz.func99,Tryz.ntmps99;go_wp2;go_ret;exact⟨gW E.o.symm,rfl⟩
  ·have e:gG a b=0:=by simp[gG,h1,h2]
   have E:=γ e;clear e;go_enter Tryz.func99,Tryz.ntmps99;go_wp2;go_ret;exact⟨gW E.o.symm,rfl⟩
theorem cmpInt (a b:Int)(w:World):Calls Tryz.prog 98 #[.int .i64 a,.int .i64 b] w fun e w'=>e= .returned (.int .i64 (gG a b))/\w=w':=by
 by_cases h1:a<b
 ·have e:gG a b= -1:=by simp[gG,h1]
  have E:=γ e;clear e;go_enter Tryz.func98,Tryz.ntmps98;go_wp2;go_ret;exact⟨gW E.o.symm,rfl⟩
 ·by_cases h2:b<a
  ·have e:gG a b=1:=by simp[gG,h1,h2]
   have E:=γ e;clear e;go_enter Tryz.func98,Tryz.ntmps98;go_wp2;go_ret;exact⟨gW E.o.symm,rfl⟩
  ·have e:gG a b=0:=by simp[gG,h1,h2]
   have E:=γ e;clear e;go_enter Tryz.func98,Tryz.ntmps98;go_wp2;go_ret;exact⟨gW E.o.symm,rfl⟩
theorem adK (a b:Int)(g cap:Nat)(w:World)(h0:w.cell? ⟨g,0,none⟩=some (.int .i64 a))(h1:w.cell? ⟨g,0+1,none⟩=some (.int .i64 b)):
 Calls Tryz.prog 97 #[.slice (some ⟨g,0,none⟩) 2 cap] w fun e w'=>e= .returned (.int .i64 (TG a b))/\w=w':=by
 go_enter Tryz.func97,Tryz.ntmps97;go_wp2
 go_loop [8] (fun i=> ∃k:Nat,k<=2/\i= .int .i64 k/\(1<=k->a=0)/\(2<=k->b=0)) (fun i=>2-(intOf i).toNat)
 case atStart=>exact⟨0,by omega,rfl,by omega,by omega⟩
 case round=>
  obtain⟨k,hk,rfl,ha,hb⟩:=hrel;have hk3:k=0\/k=1\/k=2:=by omega
  rcases hk3 with rfl|rfl|rfl
  ·clear ha hb
   by_cases hz:a=0
   ·subst hz
    go_wp2
    go_round
    case rel=>exact⟨1,by omega,by go_num,fun _=>(by simp),by omega⟩
    case measure=>simp[intOf]
   ·have hz1:(a !=0)=true:=by simp[hz]
    go_wp2;go_ret;exact⟨gW (by unfold TG;rw[if_neg hz]),rfl⟩
  ·have ha':=ha (ξ _)
   clear ha hb;have A:=γ ha';clear ha';by_cases hz:b=0
   ·subst hz
    go_wp2
    go_round
    case rel=>exact⟨2,by omega,by go_num,fun _=>A.o,fun _=>(by simp)⟩
    case measure=>simp[intOf]
   ·have hz1:(b !=0)=true:=by simp[hz]
    go_wp2;go_ret;exact⟨gW (by unfold TG;rw[if_pos A.o]),rfl⟩
  ·have A:=γ (θ (ha (by omega)) (hb (by omega)))
   clear ha hb;go_wp2;go_ret;exact⟨gW (by unfold TG;rw[if_pos A.o.1,A.o.2]),rfl⟩
theorem VT (w:World)(o:Obj):w.alloc o=grow (w.drewN 0) #[o]:=by unfold grow World.alloc;rw[Array.push_eq_append];rfl
theorem GY (a b:Int)(w:World):Calls Tryz.prog 50 #[.int .i64 a,.int .i64 b] w fun e w'=>e= .returned (.int .i64 (yR a b))/\ ∃q os',w'=grow (w.drewN q) os':=by go_enter Tryz.func50,Tryz.ntmps50;go_wp2_with fail;refine(xg _ _).mono ?_;rintro e w' ⟨rfl,rfl⟩;go_wp2_with fail;refine(xg _ _).mono ?_;rintro e w' ⟨rfl,rfl⟩;go_wp2_with fail;refine(cmpInt _ _ _).mono ?_;rintro e w' ⟨rfl,rfl⟩;go_wp2_with fail;refine(acp _ _ _).mono ?_;rintro e w' ⟨rfl,rfl⟩;go_wp2_with fail;refine(adK (gG (grp a) (grp b)) (gG a b) w.heap.size 2 _ (by simp) (by simp)).mono ?_;rintro e w' ⟨rfl,rfl⟩;go_wp2_with fail;go_ret;exact⟨rfl,0,_,VT _ _⟩
end
section
open Go Go.RowKit Go.Shelf
def yh:Value->Option (DataW Unit×List MemPlace):=fun _=>some (.lit (.bool true),[])
theorem aH.wf {n:Int}(h:aH n):(Lit.int .i64 n).wf=true:=by unfold aH at h;exact WalkArith.wf_i64 h
theorem X6 {t:T3}(h:aH t.1):WideElems.rd Tryz.prog 2 yh (ent t)=some (.int .i64 t.1,.lit (.bool true))/\WideElems.rg Tryz.prog 2 yh (ent t)=(.int .i64 t.1,.lit (.bool true)):=by have h1:WideElems.rd Tryz.prog 2 yh (ent t)=some (.int .i64 t.1,.lit (.bool true)):=(by unfold WideElems.rd;rw[show(ent t).key= .int .i64 t.1 from rfl,Maps.keyOf_int_mk Tryz.underlying2 h.wf];rfl);exact⟨h1,by unfold WideElems.rg;rw[h1];rfl⟩
theorem dQ.owns {w:World}{m:Nat}{l:List (Int×Value)}(h:dQ w m l)(hk: ∀p∈l,aH p.1)(hl:l.length<=maxLen):
 ∃D:DataW Unit,w.ownsMap Tryz.prog 2 yh m l.length D/\(intKeys D).Perm (l.map (·.1))/\Maps.size D=l.length:=by
 obtain⟨L,clock,h,rfl⟩:=h;have hk': ∀t∈L,aH t.1:=fun t ht=>hk (kv t) (abK.2 ⟨t,ht,rfl⟩);have hmap:(L.map ent).map (WideElems.rg Tryz.prog 2 yh)=L.map (fun t=>(Lit.int .i64 t.1,DataW.lit (.bool true))):=(by rw[List.map_map];apply List.map_congr_left;intro t ht;have:=(X6 (hk' t ht)).2;rw[Function.comp_apply,this]);have hsz:((L.map ent).toArray).size<=maxLen:=(by rw[List.size_toArray,List.length_map];rw[List.length_map]at hl;exact hl);have hsz2:((L.map ent).toArray).size<=(L.map kv).length:=(by simp);refine⟨.map (List.foldr DataW.insert [] (List.map (WideElems.rg Tryz.prog 2 yh) (L.map ent).toArray.toList)),⟨(L.map ent).toArray,clock,h.heap,⟨hsz,⟨?_,?_,?_⟩,?_⟩,hsz2,rfl⟩,?_,?_⟩
 ·intro x hx
  rw[List.toList_toArray]at hx;obtain⟨t,ht,rfl⟩:=abK.1 hx;exact h.old t ht
 ·simpa[ent,Function.comp_def]using h.born
 ·have:(L.map ent).toArray.toList.map (·.key)=(L.map (·.1)).map (Value.int .i64):=by simp[ent,Function.comp_def]
  rw[this];exact List.Pairwise.map _ (fun a b hab e=>hab (by simpa using e)) h.keys
 ·intro x hx
  rw[List.toList_toArray]at hx;obtain⟨t,ht,rfl⟩:=abK.1 hx;exact⟨_,(X6 (hk' t ht)).1⟩
 ·show(List.map (fun p=>_root_.Go.intOf p.1) (List.foldr DataW.insert [] (((L.map ent).toArray.toList).map (WideElems.rg Tryz.prog 2 yh)))).Perm _
  rw[List.toList_toArray,hmap];refine((WideShapes.sorted_perm _).map _).trans ?_;simp[_root_.Go.intOf,kv,Function.comp_def]
 ·show(List.foldr DataW.insert [] (((L.map ent).toArray.toList).map (WideElems.rg Tryz.prog 2 yh))).length=_
  rw[length_sorted];simp
end
section
open Go Go.RowKit Go.Shelf Go.Sort
theorem pU (x y:Int):ltOf yR x y=bH x y:=by unfold ltOf;exact Uh x y
theorem Td:SWO (ltOf yR) where
 irrefl x:=by rw[pU];exact bM x
 trans x y z h1 h2:=by rw[pU]at*;exact iI h1 h2
 ntrans x y z h1 h2:=by
  rw[pU]at*;cases h:bH x z
  ·rfl
  ·rw[pV]at h
   have h1': ¬bH x y=true:=(by simp[h1]);have h2': ¬bH y z=true:=(by simp[h2]);rw[pV]at h1' h2';omega
theorem Rn {T:Tab}(hT:dJ T){ss:List Int}(hp:ss.Perm (bT T)):(ss.mergeSort fun x y=>!(ltOf yR) y x)=bT T:=by
 have e:(fun x y=>!(ltOf yR) y x)=fun x y=>!bH y x:=(by funext x y;rw[pU]);rw[e];have tr: ∀a b c:Int,(!bH b a)=true->(!bH c b)=true->(!bH c a)=true:=fun a b c h1 h2=>(by simp only[Bool.not_eq_true']at*;have:=Td.ntrans c b a (by rw[pU];exact h2) (by rw[pU];exact h1);rwa[pU]at this);have to: ∀a b:Int,(!bH b a||!bH a b)=true:=fun a b=>by
  by_cases h:a=b
  ·subst h;rw[bM];rfl
  ·rcases jB h with h'|h'
   ·rw[vH h'];rfl
   ·rw[vH h'];simp
 refine List.Perm.eq_of_pairwise (le:=fun a b=>(!bH b a)=true) (fun a b _ _ h1 h2=>?_) (List.pairwise_mergeSort tr to ss) ?_ ((List.mergeSort_perm ss _).trans hp)
 ·simp only[Bool.not_eq_true']at h1 h2
  by_cases h:a=b
  ·exact h
  ·rcases jB h with h'|h'
   ·rw[h']at h2;cases h2
   ·rw[h']at h1;cases h1
 ·unfold bT
  rw[List.pairwise_map];exact hT.imp fun{a b} h=>by rw[vH h];rfl
theorem aaI (m:Nat)(w:World):Calls Tryz.prog 90 #[.map (some m)] w fun e w'=>e= .returned (.func (.func 137) #[] #[.pointer (some ⟨w.heap.size,0,none⟩)])/\w'=w.alloc (.cells #[.map (some m)] 113):=
 callsIn_wide.1 (AnyZI.keys_in Tryz.keysL Fence.wide 3 trivial rfl (some m) w)
theorem SG (m Bm:Nat)(T:Tab)(l:List (Int×Value))(w:World)(hl:dQ w m l)(hperm:(l.map (·.1)).Perm (bT T))(hT:eP T)(hc:w.cell? ⟨Bm,0,none⟩=some (.map (some m))):
 Calls Tryz.prog 135 #[.func (.func 137) #[] #[.pointer (some ⟨Bm,0,none⟩)]] w fun e w'=> ∃(v:Value)(ss:List Int),e= .returned v/\ss.Perm (bT T)/\w'.ownsRow w.heap.size 2 1 v ss.length (ss.map (Value.int .i64))/\(v= .slice none 0 0↔ss=[])/\ε η w w':=by
 have hR: ∀p∈l,aH p.1:=fun p hp=>(by have:p.1∈bT T:=hperm.mem_iff.1 (abK.2 ⟨p,hp,rfl⟩);obtain⟨q,hq,e⟩:=abK.1 this;rw[<-e];exact hT.key q hq);have hlen:l.length=T.length:=(by have:=hperm.length_eq;simpa[bT]using this);have h320:=hT.len;obtain⟨D,hown,hk,hsz⟩:=hl.owns hR (by unfold maxLen;omega);have hseq:=AnyZI.keys_gives (ρ:=Tryz.keysL_ren) {Tryz.keysL with} Fence.wide 2 trivial rfl (by omega) Bm m l.length D w (block_lt_of_cell hc) hc hown;have ahW:=AnyZI.collect_in Tryz.collectL Fence.wide 4 trivial trivial rfl (by omega) 137 #[.pointer (some ⟨Bm,0,none⟩)] trivial (enters_of Tryz.func137 (by kernel_rfl) rfl) (fun ss=>ss.Perm (intKeys D)) (Maps.size D) (by rw[hsz];unfold maxLen;omega) (by rw[hsz];omega) w hseq;refine(callsIn_wide.1 ahW).mono fun e w' ⟨v,ss,h1,h2,h3,h4,h5⟩=>⟨v,ss,h1,(h2.trans hk).trans hperm,h3,h4,.of_below h5⟩
theorem SI (blk off size:Nat)(w:World):CmpLays1 Tryz.prog 50 #[] (Value.int .i64) yR blk off size w:=
 fun _ _ _ _ x y=>GY x y _
def G6 (w:World)(l:List Int)(e:Ending)(w':World):Prop:=
 ∃v,e= .returned v/\w'.ownsRow w.heap.size 2 1 v l.length (ints l)/\(v= .slice none 0 0↔l=[])/\ε η w w'
theorem aae (v:Value)(T:Tab)(hT:eP T)(ss:List Int)(base:Nat)(w:World)(hp:ss.Perm (bT T))(hown:w.ownsRow base 2 1 v ss.length (ints ss))(hne:ss≠[]):
 Calls Tryz.prog 136 #[v,.func (.func 50) #[] #[]] w fun e w'=>e= .returned (.tuple #[])/\w'.ownsRow base 2 1 v ss.length (ints (bT T))/\ ∀k,v.ownBlock=some k->ε (one k) w w':=by
 obtain⟨hlen,h0|⟨g,cap,cur,rfl,hb,hg,hn,hc,hs,ht⟩⟩:=hown
 ·have:ss=[]:=τ h0.2
  exact absurd this hne
 ·have hlt:g<w.heap.size:=(κ.1 hg).1
  have hl320:ss.length<=320:=(by rw[hp.length_eq];unfold bT;rw[List.length_map];exact hT.len);have ht':cur.toList.take ss.length=ss.map (Value.int .i64):=(by rw[Nat.mul_one]at ht;exact ht);have hH:=holds_of_blockI hg ht';have hcon:=Any.slices_SortFunc_total Tryz.sortL (Value.int .i64) (fun _=>rfl) yR Td 50 #[] g 0 cap ss.toArray w (enters_of Tryz.func50 (by kernel_rfl) rfl) (SI g 0 _ w) hH hlt (by simp;omega)
   (fun x y h1 h2=>by
     rw[pU]at h1 h2;by_cases h:x=y
     ·exact h
     ·rcases jB h with h'|h'
      ·rw[h']at h1;cases h1
      ·rw[h']at h2;cases h2)
  have Kv:Calls Tryz.prog 136 #[.slice (some ⟨g,0,none⟩) ss.length cap,.func (.func 50) #[] #[]] w fun e w'=>e= .returned (.tuple #[])/\ ∃n os,w'=grow (putRow (Value.int .i64) (Sort.ahead w n) g 0 (bT T).toArray) os:=(by have h1:=hcon;rw[List.toList_toArray,Rn hT.rises hp]at h1;exact h1);refine Kv.mono fun e w' ⟨he,n,os,hw⟩=>⟨he,?_,?_⟩
  ·rw[hw]
   exact ownsRow_sortedI hp.length_eq.symm hb hg hn hc hs
  ·intro k hk
   simp[Value.ownBlock]at hk;subst hk;rw[hw];exact ε.grown (grownBy_sortedI _) (fun k hk _=>by cases hk;rfl)
theorem UU (m Bm:Nat)(T:Tab)(l:List (Int×Value))(w:World)(hl:dQ w m l)(hperm:(l.map (·.1)).Perm (bT T))(hT:eP T)(hc:w.cell? ⟨Bm,0,none⟩=some (.map (some m))):
 Calls Tryz.prog 89 #[.func (.func 137) #[] #[.pointer (some ⟨Bm,0,none⟩)],.func (.func 50) #[] #[]] w (G6 w (bT T)):=by
 have h1:=SG m Bm T l w hl hperm hT hc;have H1:=γ h1;have HT:=γ hT;clear h1 hl hperm hT hc;go_enter Tryz.func89,Tryz.ntmps89;go_wp2_with fail;refine H1.o.mono ?_;rintro e w1 ⟨v,ss,rfl,hp,hown,hnil,hk⟩;by_cases hne:ss=[]
 ·subst hne
  obtain rfl:v= .slice none 0 0:=hnil.2 rfl;have hT0:bT T=[]:=τ (by have:=hp.length_eq;simpa using this.symm);have hcon:=AnyF.slices_SortFunc_none {Tryz.sortL with} none 0 (.func (.func 50) #[] #[]) w1;have Kv:Calls Tryz.prog 136 #[.slice none 0 0,.func (.func 50) #[] #[]] w1 fun e w'=>e= .returned (.tuple #[])/\w'=w1:=hcon;have F:G6 w (bT T) (.returned (.slice none 0 0)) w1:=⟨_,rfl,by rw[hT0];exact World.ownsRow_nil _ _ _ _,by rw[hT0];simp,hk⟩;have F':=γ F;have HC:=γ Kv;clear F hcon Kv hp hown hnil hT0 hk;go_wp2_with fail;refine HC.o.mono ?_;rintro e w2 ⟨rfl,rfl⟩;go_wp2_with fail;go_ret;exact F'.o
 ·have hcon:=aae v T HT.o ss w.heap.size w1 hp hown hne
  have F: ∀w2:World,w2.ownsRow w.heap.size 2 1 v ss.length (ints (bT T))->(∀k,v.ownBlock=some k->ε (one k) w1 w2)->G6 w (bT T) (.returned v) w2:=fun w2 h1 h2=>by
   have hl:ss.length=(bT T).length:=hp.length_eq;refine⟨v,rfl,by rw[<-hl];exact h1,?_,?_⟩
   ·rw[hnil]
    constructor
    ·intro h;exact absurd h hne
    ·intro h;rw[h]at hl;exact τ hl
   ·rcases hown.2 with⟨_,h0⟩|⟨g,cap,cur,rfl,hb,_⟩
    ·exact absurd (τ h0) hne
    ·exact hk.new (h2 g rfl) (fun k hk e=>by unfold one at e;omega)
  have F':=γ F;have HC:=γ hcon;obtain⟨a,cap,rfl⟩:=au hown;clear F hcon hp hown hnil hk;go_wp2_with fail;refine HC.o.mono ?_;rintro e w2 ⟨rfl,g1,g2⟩;have G:=F'.o w2 g1 g2;have G':=γ G;clear G g1 g2;go_wp2_with fail;go_ret;exact G'.o
theorem Py (B:Nat->Prop)(b m:Nat)(T:Tab)(w:World)(h:TabAt w B b m T):Calls Tryz.prog 42 #[.pointer (some ⟨b,0,none⟩)] w (G6 w (bT T)):=by have hcb:=h.cell;obtain⟨l,hml,hperm,hcs⟩:=h.map;have HT:=γ h.ok;have HM:=γ hml;have HP:=γ hperm;clear h hml hperm hcs;go_enter Tryz.func42,Tryz.ntmps42;go_wp2_with fail;refine(aaI m w).mono ?_;rintro e w1 ⟨rfl,rfl⟩;have k1:ε η w (w.alloc (.cells #[.map (some m)] 113)):=δ.alloc _;go_wp2_with fail;refine(UU m w.heap.size T l _ (HM.o.kept k1 id) HP.o HT.o (by simp)).mono ?_;rintro e w2 ⟨v,rfl,g1,g2,g3⟩;obtain⟨a,cap,rfl⟩:=au g1;have F:G6 w (bT T) (.returned (.slice a (bT T).length cap)) w2:=⟨_,rfl,jH g1 (by simp),g2,k1.trans g3⟩;have F':=γ F;clear F g1 g2 g3;go_wp2_with fail;go_ret;exact F'.o
end
section
open Go Go.RowKit
theorem uJ {l:List Int}{i:Nat}{x:Int}(h:l[i]?=some x):(ints l)[i]?=some (.int .i64 x):=by simp[ints,h]
theorem Reads.at {w:World}{v:Value}{l:List Int}(h:Reads w 1 v (ints l)): ∃a cap,v= .slice a l.length cap/\l.length<=cap/\cap<=maxLen/\(l=[]\/ ∃b off,a=some ⟨b,off,none⟩/\ ∀i x,l[i]?=some x->w.cell? ⟨b,off+i,none⟩=some (.int .i64 x)):=by
 obtain⟨a,n,cap,rfl,h1,h2,h3,h4⟩:=h;have hn:n=l.length:=(by simpa using h3.symm);subst hn;refine⟨a,cap,rfl,h1,h2,?_⟩
 rcases h4 with h4|⟨b,off,rfl,h4⟩
 ·left
  have:(ints l).length=0:=(by rw[h4];rfl);rw[vI]at this;exact τ this
 ·exact .inr ⟨b,off,rfl,fun i x hx=>h4 i _ (uJ hx)⟩
theorem bK {a b:Bool}(h:a=b):Ending.returned (.bool a)= .returned (.bool b):=by rw[h]
theorem TabAt.lt {w:World}{B:Nat->Prop}{b m:Nat}{T:Tab}(h:TabAt w B b m T):m<w.heap.size/\b<w.heap.size:=by obtain⟨l,hl,_⟩:=h.map;exact⟨hl.lt,(κ.1 h.obj).1⟩
theorem QN.none {w0 w w':World}{B:Nat->Prop}{b m:Nat}{T:Tab}{k:Int}{c:Cell}{e:Ending}(h:QN w B b m T k c e w')(hk:ε η w0 w)(hm:w0.heap.size<=m):ε η w0 w':=
 hk.new h.2.2 (fun i hi e=>by unfold one at e;omega)
end
section
open Go Go.RowKit Go.ChangeShapes Go.WideShapes Go.ChangeAt Go.Deep
theorem aH.zQ {n:Int}(h:(Lit.int .i64 n).wf=true):aH n:=by
 have h2:IntKind.i64.min<=n/\n<=9223372036854775807:=by simpa[Lit.wf]using h
 exact⟨by have:IntKind.i64.min= -9223372036854775808:=by decide
          omega,h2.2⟩
theorem OD {w:World}{x:Addr}{v:Value}(h:w.cell? x=some v):x=⟨x.block,x.off,none⟩:=by
 unfold World.cell? at h;split at h
 ·by_cases hs:x.spot.isSome=true
  ·rw[if_pos hs]at h;cases h
  ·have:x.spot=none:=by simpa using hs
   cases x;simp only at this;rw[this]
 ·cases h
section
variable {H:Type} {enc:TypeId×Value->H} {P:Program} {w:World}
theorem sZ {t e:TypeId}{k fuel n cap:Nat}{a:Option Addr}{x:DataW H×List MemPlace}(ht:P.underlying t=some (.slice e))(hk:P.cellsOf e=k)(hk0:0<k)
 (h:DataW.trod enc P w 0 (fun _=>true) true fuel t [.slice a n cap]=some x):
 ∃cs:List Value,cs.length=n*k/\Reads w k (.slice a n cap) cs/\ ∀i,i<n-> ∃m y,DataW.trod enc P w 0 (fun _=>true) true m e ((cs.drop (i*k)).take k)=some y:=by
 rcases open_slice ht h with⟨h0,_⟩|⟨a',len,cap',m,f,D,Pl,h0,hb,hl,hm,hmm,rfl,hx⟩
 ·injection h0 with h0 _
  injection h0 with h1 h2 h3
  subst h1 h2 h3;exact⟨[],by simp,Reads.nil _ _,fun i hi=>by omega⟩
 ·injection h0 with h0 _
  injection h0 with h1 h2 h3
  subst h1 h2 h3;simp only[if_true]at hmm;subst hmm;have each: ∀j,j<n*k-> ∃v,w.cell? (a'.add j)=some v:=(by intro j hj;have hi:j/k<n:=(Nat.div_lt_iff_lt_mul hk0).2 hj;have hr:j%k<k:=Nat.mod_lt _ hk0;obtain⟨cs',h1,_⟩:=hx (j/k) (by omega);rw[hk]at h1;obtain⟨_,hlen,hcell⟩:=World.cells?_some h1;have h2:=hcell (j%k) hr;rw[add_add,show j/k*k+j%k=j by rw[Nat.mul_comm];exact Nat.div_add_mod j k]at h2;rw[h2,ι (by omega)];exact⟨_,rfl⟩);obtain⟨V,hV⟩:=choose_lt (α:=Value) (p:=fun j v=>w.cell? (a'.add j)=some v) each;refine⟨(List.range (n*k)).map V,by simp,⟨_,_,_,rfl,hl,hm,by simp,?_⟩,fun i hi=>?_⟩
  ·by_cases hz:n*k=0
   ·left;rw[hz];rfl
   ·right
    have e0:=OD (hV 0 (by omega));rw[Addr.add_zero']at e0;refine⟨a'.block,a'.off,by rw[<-e0],fun j x hj=>?_⟩;rw[abJ]at hj;obtain⟨j',hj',rfl⟩:=abP.1 hj;obtain⟨hlt,rfl⟩:=μ.1 hj';simp only[List.length_range]at hlt;have:=hV j hlt;rw[e0,Addr.add_lit]at this;simpa using this
  ·obtain⟨cs',h1,h2⟩:=hx i (by omega)
   rw[hk]at h1;obtain⟨_,hlen,hcell⟩:=World.cells?_some h1;refine⟨f,(D i,Pl i),?_⟩
   ·rw[show((((List.range (n*k)).map V).drop (i*k)).take k)=cs' from ?_]
    ·exact h2
    ·apply List.ext_getElem?
     intro j;have hin:i*k+k<=n*k:=(by rw[<-Nat.succ_mul];exact Nat.mul_le_mul_right k hi);by_cases hj:j<k
     ·rw[abO,if_pos hj,List.getElem?_drop,abJ,List.getElem?_range (by omega)]
      have h3:=hcell j hj;rw[add_add,hV (i*k+j) (by omega)]at h3;simpa using h3
     ·rw[abO,if_neg hj,abA (by omega)]
theorem Yl {t e:TypeId}{fuel n cap:Nat}{a:Option Addr}{x:DataW H×List MemPlace}(ht:P.underlying t=some (.slice e))(he:P.underlying e=some (.int .i64))(hk:P.cellsOf e=1)
 (h:DataW.trod enc P w 0 (fun _=>true) true fuel t [.slice a n cap]=some x):
 ∃l:List Int,l.length=n/\Reads w 1 (.slice a n cap) (ints l)/\ ∀y∈l,aH y:=by
 obtain⟨cs,hl,hr,hel⟩:=sZ ht hk (by omega) h;have: ∃l:List Int,cs=ints l/\ ∀y∈l,aH y:=by
  rw[Nat.mul_one]at hl;have aeB: ∀v∈cs,∃y,v= .int .i64 y/\aH y:=by
   intro v hv;obtain⟨i,hi,rfl⟩:=List.mem_iff_getElem.1 hv;obtain⟨m,y,hy⟩:=hel i (by omega);obtain⟨z,hz,_,hw⟩:=DataW.trod_int he hy;rw[Nat.mul_one,abS hi,List.take_succ_cons,List.take_zero]at hz
   injection hz with hz _
   exact⟨z,hz,.zQ hw⟩
  clear hl hr hel
  induction cs with
  |nil=>exact⟨[],rfl,by simp⟩
  |cons v cs ih=>obtain⟨y,rfl,hy⟩:=aeB v (by simp);obtain⟨l,rfl,hl⟩:=ih (fun u hu=>aeB u (by simp[hu]));exact⟨y::l,rfl,by simpa using⟨hy,hl⟩⟩
 obtain⟨l,rfl,h64⟩:=this;exact⟨l,by simpa using hl,hr,h64⟩
end
theorem own:ownKnob Tryz.prog.godebug=none:=by kernel_rfl
theorem laidOut:laidOutB Tryz.prog=true:=by kernel_rfl
noncomputable def readB (ts:List TypeId):Bool:=ts.all fun t=>Tryz.prog.readableRec t&&decide (t<Tryz.prog.types.size)
theorem ZC {H:Type}{enc:TypeId×Value->H}{W W':World}(hb:Below W.heap.size W W')(ts:List TypeId): ∀{vs:List Value}{ds:List (DataW H)}{ps:List MemPlace},readB ts=true->
 DataW.TrodAll enc Tryz.prog W 0 (fun _=>true) true ts vs ds ps-> ∃ps',DataW.TrodAll enc Tryz.prog W' 0 (fun b=>decide (b<W.heap.size)) true ts vs ds ps':=by
 induction ts with
 |nil=>intro vs ds ps _ h;obtain⟨rfl,rfl,rfl⟩:=trodAll_nil h;exact⟨[],trodAll_mk0⟩
 |cons t ts ih=>intro vs ds ps hr h;obtain⟨v,vs',d,ds',p,q,rfl,rfl,rfl,h0,h1⟩:=trodAll_cons h;unfold readB at hr;rw[List.all_cons,Φ,Φ]at hr;obtain⟨ps',h2⟩:=ih hr.2 h1;have hlt: ∀x∈p,x.block<W.heap.size:=(by obtain⟨m,hm⟩:=h0;exact DataW.trod_lt m _ _ _ hm);exact⟨_,trodAll_cons_mk (Below.trod laidOut hr.1.1 (of_decide_eq_true hr.1.2) h0 hb hlt) h2⟩
end
