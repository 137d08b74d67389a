/- Put, Get, Drop. -/
import Derived.Test.YtglbkodmmogomaaGreatDoorS01
import Derived.Shelf.SlIterI.Nil
import Derived.Shelf.SlSortCmp.NoneTotal
import Derived.Sort.OwnSortedInts
import Derived.Test.YtglbkodmmogomaaGreatDoorChecked
import Derived.ProofKit
import Derived.OpenShut
import Derived.ShutString
import Derived.ChangeCalls
set_option linter.unusedVariables false
set_option linter.unusedSimpArgs false
set_option maxHeartbeats 1000000
set_option maxRecDepth 100000
namespace Go.Proofs.YtglbkodmmogomaaGreatDoor
open List Go.Proofs.Tryz
open Go Go.RowKit
theorem P5 {l:List (Int×Value)}{key:Int}{v:Value}(h:look l key=some v):(key,v)∈l:=by unfold look at h;obtain⟨p,hp,rfl⟩:=acg.1 h;have h1:=find?_some hp;have h2:=mem_of_find?_eq_some hp;have:key=p.1:=(by simpa using h1);subst this;exact h2
theorem Y1 {l:List (Int×Value)}{key:Int}(h:look l key=none):key∉l.map (·.1):=by unfold look at h;intro hm;obtain⟨p,hp,rfl⟩:=aaw.1 hm;simp at h;exact h _ _ hp rfl
theorem EY {w:World}{B:Nat->Prop}{T:Tab}{l:List (Int×Value)}(hT:dO T)(hperm:(l.map (·.1)).Perm (dD T))(hc: ∀p∈l,∃c,(p.1,c)∈T/\CellIs w B p.2 c)(key:Int):
 (look l key=none/\bZ T key=none)\/ ∃v c,look l key=some v/\bZ T key=some c/\CellIs w B v c:=by
 cases hl:look l key with
 |none=>left;refine⟨rfl,Jo.2 (fun hm=>Y1 hl (hperm.mem_iff.2 hm))⟩
 |some v=>right;obtain⟨c,h1,h2⟩:=hc _ (P5 hl);exact⟨v,c,rfl,(qc hT).2 h1,h2⟩
theorem zI {key:Int}{v:Value}: ∀{l:List (Int×Value)}{p:Int×Value},(l.map (·.1)).Nodup->(p∈upd key v l↔p=(key,v)\/(p∈l/\p.1≠key))
 |[],p,_=>by simp[upd]
 |q::r,p,h=>by
  simp only[Θ,nodup_cons]at h;unfold upd;split
  ·rename_i he
   have he':key=q.1:=(by simpa using he);rw[aci,aci];constructor
   ·rintro(h'|h')
    ·exact .inl h'
    ·exact .inr ⟨.inr h',fun e=>h.1 (aaw.2 ⟨p,h',by rw[e,he']⟩)⟩
   ·rintro(h'|⟨h'|h',hne⟩)
    ·exact .inl h'
    ·subst h';exact absurd he'.symm hne
    ·exact .inr h'
  ·rename_i he
   have he':q.1≠key:=fun e=>he (by simp[e]);rw[aci,zI h.2,aci];constructor
   ·rintro(h'|h'|h')
    ·subst h';exact .inr ⟨.inl rfl,he'⟩
    ·exact .inl h'
    ·exact .inr ⟨.inr h'.1,h'.2⟩
   ·rintro(h'|⟨h'|h',hne⟩)
    ·exact .inr (.inl h')
    ·exact .inl h'
    ·exact .inr (.inr ⟨h',hne⟩)
theorem Gv {l r:List Int}(h1:l.Nodup)(h2:r.Nodup)(h: ∀x,x∈l↔x∈r):l.Perm r:=by rw[perm_iff_count];intro a;rw[h1.count,h2.count];simp[h a]
def RN (w:World)(B:Nat->Prop)(b m:Nat)(T:Tab)(k:Int)(c:Cell)(e:Ending)(w':World):Prop:=
 e= .returned (.int .i64 (eP T k c.2.length))/\TabAt w' B b m (dL T k c)/\ε (one m) w w'
theorem TabAt.put {w w':World}{B:Nat->Prop}{b m:Nat}{T:Tab}(h:TabAt w B b m T){l:List (Int×Value)}(hl:dW w m l)(hperm:(l.map (·.1)).Perm (dD T))
 (hc: ∀p∈l,∃c,(p.1,c)∈T/\CellIs w B p.2 c) {k:Int} {c:Cell} {v:Value} (hl':dW w' m (upd k v l)) (hk:ε (one m) w w') (hv:CellIs w' B v c) (hok:fC (iq k c T)):TabAt w' B b m (iq k c T):=by
 have hnd:=hl.nodup;refine⟨h.hb,h.hm,hk.heap h.obj (fun e=>?_),⟨_,hl',?_,fun p hp=>?_⟩,hok⟩
 ·have:=h.obj
  rw[show b=m from e]at this;obtain⟨L,cl,hL,_⟩:=hl;rw[hL.heap]at this;cases this
 ·refine Gv hl'.nodup h.ok.rises.iq.nodup fun x=>?_
  unfold dD;simp only[aaw];constructor
  ·rintro⟨p,hp,rfl⟩
   rcases(zI hnd).1 hp with rfl|⟨hp,hne⟩
   ·exact⟨(k,c),(kL h.ok.rises).2 (.inl rfl),rfl⟩
   ·obtain⟨c',h1,_⟩:=hc p hp
    exact⟨(p.1,c'),(kL h.ok.rises).2 (.inr ⟨h1,hne⟩),rfl⟩
  ·rintro⟨p,hp,rfl⟩
   rcases(kL h.ok.rises).1 hp with rfl|⟨hp,hne⟩
   ·exact⟨(k,v),(zI hnd).2 (.inl rfl),rfl⟩
   ·have:p.1∈l.map (·.1):=hperm.mem_iff.2 (aaw.2 ⟨p,hp,rfl⟩)
    obtain⟨q,hq,e⟩:=aaw.1 this;exact⟨q,(zI hnd).2 (.inr ⟨hq,by rw[e];exact hne⟩),e⟩
 ·rcases(zI hnd).1 hp with rfl|⟨hp,hne⟩
  ·exact⟨c,(kL h.ok.rises).2 (.inl rfl),hv⟩
  ·obtain⟨c',h1,h2⟩:=hc p hp
   exact⟨c',(kL h.ok.rises).2 (.inr ⟨h1,hne⟩),h2.kept hk (.map hl B)⟩
theorem D9.aaj {w w':World}{B:Nat->Prop}{n':Nat}{v':Value}{c:Cell}(h:w'.ownsRow w.heap.size 2 1 v' n' (ints c.2))(hB: ∀k,w.heap.size<=k->B k):CellIs w' B (.agg #[.int .i64 c.1,v']) c:=
 ⟨v',rfl,Reads.aN h,fun _ hb=>hB _ (oN h hb).1⟩
theorem put_any (B:Nat->Prop)(b m:Nat)(T:Tab)(k:Int)(c:Cell)(v:Value)(w:World)(h:TabAt w B b m T)(hB: ∀k,w.heap.size<=k->B k)(hk:aJ k)(hc1:aJ c.1)(hc2: ∀x∈c.2,aJ x)(hlen:c.2.length<=17592186044416)(hr:Reads w 1 v (ints c.2)):
 Calls prog 112 #[.pointer (some ⟨b,0,none⟩),.int .i64 k,.agg #[.int .i64 c.1,v]] w (RN w B b m T k c):=by
 obtain⟨a,n,cap,rfl,hn,hcap,hl,hp,hcell⟩:=hr.slice;have hn':c.2.length=n:=(by simpa using hl);have hcb:=h.cell;have hbl:=block_lt_of_cell hcb;simp only[]at hbl;have UZ:=γ hB;clear hcell hp hl hB;by_cases h16:16<n
 ·have hE:eP T k c.2.length=2:=by unfold eP;rw[if_pos (by omega)]
  have hT:dL T k c=T:=(by unfold dL;rw[hE];rfl);have E1:=γ hE;have E2:=γ hT;have E3:=γ hn';have H:=γ h;clear hE hT hn' h hr hcb;go_enter func112,ntmps112;go_wp2;go_ret;refine⟨by rw[E1.o];rfl,by rw[E2.o];exact H.o.pure (δ.alloc _),δ.alloc _⟩
 ·obtain⟨l,hml,hperm,hcs⟩:=h.map
  have hz:=zeroValue109;have hk1:ε η w (w.alloc (.cells #[.int .i64 c.1,.slice a n cap] 109)):=δ.alloc _;have hlk:=(hml.kept hk1 id).lookup (P:=prog) underlying113 underlying2 k (hz _);have hlook:=EY h.ok.rises hperm hcs k;have H:=γ h;have HM:=γ hml;have HP:=γ hperm;have HC:=γ hcs;have HR:=γ hr;have E3:=γ hn';clear h hml hperm hcs hr hn'
  rcases hlook with⟨h1,h2⟩|⟨v0,c0,h1,h2,lv,rfl,hlv⟩
  ·rw[h1]at hlk
   simp only[Option.getD_none,Option.isSome_none]at hlk;have H2:=γ h2;clear h1 h2 hz hk1;by_cases Ey:40<=aX T (grp k)
   ·have hE:eP T k c.2.length=7:=by unfold eP;rw[if_neg (by rw[E3.o];exact h16),if_pos ⟨H2.o,Ey⟩]
    have E1:=γ hE;have aiP:(40:Int)<=((aX T (grp k):Nat):Int):=(by omega);clear hE;go_enter func112,ntmps112;go_wp2_with fail;refine(wE _ _).mono ?_;rintro e w' ⟨rfl,rfl⟩;go_wp2_with fail;refine(Ai B b m T _ _ (H.o.pure ((δ.alloc _).alloc _))).mono ?_;rintro e w1 ⟨rfl,k1⟩;go_wp2;go_ret;have k2:ε η w w1:=((δ.alloc _).alloc _).trans k1;refine⟨by rw[E1.o];rfl,?_,k2.pure⟩;unfold dL;rw[if_neg (by rw[E1.o];decide)];exact H.o.pure k2
   ·have aiP: ¬(40:Int)<=((aX T (grp k):Nat):Int):=by omega
    go_enter func112,ntmps112;go_wp2_with fail;refine(wE _ _).mono ?_;rintro e w' ⟨rfl,rfl⟩;go_wp2_with fail;refine(Ai B b m T _ _ (H.o.pure ((δ.alloc _).alloc _))).mono ?_;rintro e w0 ⟨rfl,k0⟩;go_wp2_with fail;obtain⟨W0,hW0⟩:=acu w0;have hs:w.heap.size+2<=W0.heap.size:=(by rw[<-hW0];have:=k0.size;simpa using this);have hk0:ε η w W0:=(by rw[<-hW0];(exact((δ.alloc _).alloc _).trans k0));have c0:W0.cell? ⟨w.heap.size,0,none⟩=some (.int .i64 c.1):=(by rw[<-hW0];(exact k0.cell id (by simp)));have c1:W0.cell? ⟨w.heap.size,1,none⟩=some (.slice a n cap):=(by rw[<-hW0];(exact k0.cell id (by simp)));have c2:W0.cell? ⟨b,0,none⟩=some (.map (some m)):=hk0.cell (p:=⟨b,0,none⟩) id hcb;have aiK:b<W0.heap.size:=(by omega);have abB:w.heap.size<W0.heap.size:=(by omega);rw[hW0];clear hW0 hlk hcb;refine acv [0,1,2,3,4,5,6,7] ?_;simp only[aco];iterate 6 (apply aj rfl rfl;(intro W hW;have hc:=hW.cq;go_simp;rfl);go_frame)
    apply ay rfl rfl;intro K hK;go_wp2_with fail;refine(DI _ _ (ints c.2) _ (HR.o.pure hk0.drew) (nM _) (by simpa using hlen)).mono ?_;rintro e w1 ⟨v',n',rfl,g1,g2,g3⟩;have k1:ε η W0 w1:=g3.aW;have k2:ε η w w1:=hk0.trans k1;obtain⟨w2,hup,rW,k3,hs3⟩:=(HM.o.kept k2 id).update (P:=prog) underlying113 underlying2 k (.agg #[.int .i64 c.1,v']);have hfin:RN w B b m T k c (.returned (.int .i64 0)) w2:=(by have hok:fC (iq k c T):=H.o.ok.iq hk ⟨hc1,hc2,by rw[E3.o];omega⟩ (.inr (by omega));have hci:CellIs w1 B (.agg #[.int .i64 c.1,v']) c:=D9.aaj (w:=W0.drew) g1 (fun k hk=>UZ.o k (ω (ω (Nat.le_add_right _ 2) hs) hk));have hE:eP T k c.2.length=0:=(by unfold eP;rw[if_neg (by rw[E3.o];exact h16),if_neg (fun h=>Ey h.2)]);refine⟨by rw[hE],?_,k2.pure.trans k3⟩;unfold dL;rw[if_pos hE];refine(H.o.pure k2).put (HM.o.kept k2 id) HP.o (fun p hp=>?_) rW k3 (hci.kept k3 (.map (HM.o.kept k2 id) B)) hok;obtain⟨c',h1,h2⟩:=HC.o p hp;exact⟨c',h1,h2.kept k2 (.none _ _)⟩);have F:=γ hfin;clear hfin rW k3 g1 g2 g3;go_wp2;refine hK _ _ (fun _=>k1) ?_;clear hK;apply ay rfl rfl;intro K2 hK2;go_wp2;refine hK2 _ _ (fun h=>absurd rfl h) (jG (by kernel_rfl) ?_);clear hK2;go_wp2;go_ret;exact F.o
  ·rw[h1]at hlk
   simp only[Δ,Option.isSome_some]at hlk;obtain⟨a2,n2,cap2,rfl,hj⟩:=hlv.1.slice;clear hj;have H2:=γ h2;clear h1 h2 hz hk1 hlv;go_enter func112,ntmps112;go_wp2_with fail;obtain⟨W0,hW0⟩:=acu ((w.alloc (.cells #[.int .i64 c.1,.slice a n cap] 109)).alloc (.cells #[.int .i64 c0.1,.slice a2 n2 cap2] 109));have hs:w.heap.size+2<=W0.heap.size:=(by rw[<-hW0];simp);have hk0:ε η w W0:=(by rw[<-hW0];(exact(δ.alloc _).alloc _));have d0:W0.cell? ⟨w.heap.size,0,none⟩=some (.int .i64 c.1):=(by rw[<-hW0];simp);have d1:W0.cell? ⟨w.heap.size,1,none⟩=some (.slice a n cap):=(by rw[<-hW0];simp);have c2:W0.cell? ⟨b,0,none⟩=some (.map (some m)):=hk0.cell (p:=⟨b,0,none⟩) id hcb;have aiK:b<W0.heap.size:=(by omega);have abB:w.heap.size<W0.heap.size:=(by omega);rw[hW0];clear hW0 hlk hcb;refine acv [0,1,2,3,4,5,6,7] ?_;simp only[aco];iterate 6 (apply aj rfl rfl;(intro W hW;have hc:=hW.cq;go_simp;rfl);go_frame)
   apply ay rfl rfl;intro K hK;go_wp2_with fail;refine(DI _ _ (ints c.2) _ (HR.o.pure hk0.drew) (nM _) (by simpa using hlen)).mono ?_;rintro e w1 ⟨v',n',rfl,g1,g2,g3⟩;have k1:ε η W0 w1:=g3.aW;have k2:ε η w w1:=hk0.trans k1;obtain⟨w2,hup,rW,k3,hs3⟩:=(HM.o.kept k2 id).update (P:=prog) underlying113 underlying2 k (.agg #[.int .i64 c.1,v']);have hfin:RN w B b m T k c (.returned (.int .i64 0)) w2:=(by have hok:fC (iq k c T):=H.o.ok.iq hk ⟨hc1,hc2,by rw[E3.o];omega⟩ (.inl (by rw[H2.o];simp));have hci:CellIs w1 B (.agg #[.int .i64 c.1,v']) c:=D9.aaj (w:=W0.drew) g1 (fun k hk=>UZ.o k (ω (ω (Nat.le_add_right _ 2) hs) hk));have hE:eP T k c.2.length=0:=(by unfold eP;rw[if_neg (by rw[E3.o];exact h16),if_neg (fun h=>by rw[H2.o]at h;cases h.1)]);refine⟨by rw[hE],?_,k2.pure.trans k3⟩;unfold dL;rw[if_pos hE];refine(H.o.pure k2).put (HM.o.kept k2 id) HP.o (fun p hp=>?_) rW k3 (hci.kept k3 (.map (HM.o.kept k2 id) B)) hok;obtain⟨c',h1,h2⟩:=HC.o p hp;exact⟨c',h1,h2.kept k2 (.none _ _)⟩);have F:=γ hfin;clear hfin rW k3 g1 g2 g3;go_wp2;refine hK _ _ (fun _=>k1) ?_;clear hK;apply ay rfl rfl;intro K2 hK2;go_wp2;refine hK2 _ _ (fun h=>absurd rfl h) (jG (by kernel_rfl) ?_);clear hK2;go_wp2;go_ret;exact F.o
def Sj (w:World)(T:Tab)(k:Int)(e:Ending)(w':World):Prop:=
 ∃lv n',e= .returned (.tuple #[.agg #[.int .i64 ((bZ T k).getD (0,[])).1,lv],.bool (bZ T k).isSome])/\w'.ownsRow w.heap.size 2 1 lv n' (ints ((bZ T k).getD (0,[])).2)/\n'=((bZ T k).getD (0,[])).2.length/\ε η w w'
theorem get_any (B:Nat->Prop)(b m:Nat)(T:Tab)(k:Int)(w:World)(h:TabAt w B b m T):
 Calls prog 60 #[.pointer (some ⟨b,0,none⟩),.int .i64 k] w (Sj w T k):=by
 have hcb:=h.cell;have hbl:=block_lt_of_cell hcb;simp only[]at hbl;obtain⟨l,hml,hperm,hcs⟩:=h.map;have hz:=zeroValue109;have hk1:ε η w (w.alloc (.cells #[.int .i64 0,.slice none 0 0] 109)):=δ.alloc _;have hlk:=(hml.kept hk1 id).lookup (P:=prog) underlying113 underlying2 k (hz _);have hlook:=EY h.ok.rises hperm hcs k;have HT:=γ h;clear h hml hperm hcs
 rcases hlook with⟨h1,h2⟩|⟨v0,c0,h1,h2,lv,rfl,hlv⟩
 ·rw[h1]at hlk
  simp only[Option.getD_none,Option.isSome_none]at hlk;have H2:=γ h2;clear h1 h2 hz hk1;go_enter func60,ntmps60;go_wp2_with fail;obtain⟨W0,hW0⟩:=acu ((w.alloc (.cells #[.int .i64 0,.slice none 0 0] 109)).alloc (.cells #[.int .i64 0,.slice none 0 0] 109));have hs:w.heap.size+2<=W0.heap.size:=(by rw[<-hW0];simp);have abB:w.heap.size<W0.heap.size:=(by omega);have hk0:ε η w W0:=(by rw[<-hW0];exact(δ.alloc _).alloc _);have z0:W0.cell? ⟨w.heap.size,0,none⟩=some (.int .i64 0):=(by rw[<-hW0];simp);have z1:W0.cell? ⟨w.heap.size,1,none⟩=some (.slice none 0 0):=(by rw[<-hW0];simp);have f0:W0.frozen? ⟨w.heap.size,0,none⟩=false:=(by rw[<-hW0];simp);have f1:W0.frozen? ⟨w.heap.size,1,none⟩=false:=(by rw[<-hW0];simp);rw[hW0];clear hW0 hlk hcb;refine(DI _ _ (ints []) _ (Reads.nil _ _) (nM _) (by simp)).mono ?_;rintro e w1 ⟨v',n',rfl,g1,g2,k1⟩;obtain⟨a',cap',rfl⟩:=au g1;have q0:=k1.cell (p:=⟨w.heap.size,0,none⟩) id z0;have q1:=k1.cell (p:=⟨w.heap.size,1,none⟩) id z1;have hf:=k1.fq;have F:Sj w T k (.returned (.tuple #[.agg #[.int .i64 0,.slice a' n' cap'],.bool false])) ((w1.setCell ⟨w.heap.size,0,none⟩ (.int .i64 0)).setCell ⟨w.heap.size,1,none⟩ (.slice a' n' cap')):=by
   refine⟨_,n',by rw[H2.o];rfl,?_,by rw[H2.o];simpa using g2,((hk0.trans k1).setCell (p:=⟨w.heap.size,0,none⟩) (.inr (by simp)) _).setCell (p:=⟨w.heap.size,1,none⟩) (.inr (by simp)) _⟩;rw[H2.o];refine jV (base:=W0.heap.size) ?_ (by omega);exact(((ε.refl (fun k=>k<W0.heap.size) w1).setCell (p:=⟨w.heap.size,0,none⟩) (.inl (by simp;omega)) _).setCell (p:=⟨w.heap.size,1,none⟩) (.inl (by simp;omega)) _).owns g1
    (fun k hk h=>by have:=(g1.lt k hk).1;omega)
  have F':=γ F;clear F g1 g2 hk0;go_wp2;refine bodyPost_ret (v:= .tuple #[.agg #[.int .i64 0,.slice a' n' cap'],.bool false]) (by simp[results,results60,go_sem,q0,q1]) rfl F'.o
 ·rw[h1]at hlk
  simp only[Δ,Option.isSome_some]at hlk;obtain⟨a2,n2,cap2,rfl,hj⟩:=hlv.1.slice;clear hj;have hc2:=(HT.o.ok.cell _ ((qc HT.o.ok.rises).1 h2)).2.2;have HL:=γ hlv.1;clear hlv;have H2:=γ h2;clear h1 h2 hz hk1;go_enter func60,ntmps60;go_wp2_with fail;obtain⟨W0,hW0⟩:=acu ((w.alloc (.cells #[.int .i64 0,.slice none 0 0] 109)).alloc (.cells #[.int .i64 c0.1,.slice a2 n2 cap2] 109));have hs:w.heap.size+2<=W0.heap.size:=(by rw[<-hW0];simp);have abB:w.heap.size<W0.heap.size:=(by omega);have hk0:ε η w W0:=(by rw[<-hW0];exact(δ.alloc _).alloc _);have z0:W0.cell? ⟨w.heap.size,0,none⟩=some (.int .i64 0):=(by rw[<-hW0];simp);have z1:W0.cell? ⟨w.heap.size,1,none⟩=some (.slice none 0 0):=(by rw[<-hW0];simp);have f0:W0.frozen? ⟨w.heap.size,0,none⟩=false:=(by rw[<-hW0];simp);have f1:W0.frozen? ⟨w.heap.size,1,none⟩=false:=(by rw[<-hW0];simp);rw[hW0];clear hW0 hlk hcb;refine(DI _ _ (ints c0.2) _ (HL.o.pure hk0) (nM _) (by simp;omega)).mono ?_;rintro e w1 ⟨v',n',rfl,g1,g2,k1⟩;obtain⟨a',cap',rfl⟩:=au g1;have q0:=k1.cell (p:=⟨w.heap.size,0,none⟩) id z0;have q1:=k1.cell (p:=⟨w.heap.size,1,none⟩) id z1;have hf:=k1.fq;have F:Sj w T k (.returned (.tuple #[.agg #[.int .i64 c0.1,.slice a' n' cap'],.bool true])) ((w1.setCell ⟨w.heap.size,0,none⟩ (.int .i64 c0.1)).setCell ⟨w.heap.size,1,none⟩ (.slice a' n' cap')):=by
   refine⟨_,n',by rw[H2.o];rfl,?_,by rw[H2.o];simpa using g2,((hk0.trans k1).setCell (p:=⟨w.heap.size,0,none⟩) (.inr (by simp)) _).setCell (p:=⟨w.heap.size,1,none⟩) (.inr (by simp)) _⟩;rw[H2.o];refine jV (base:=W0.heap.size) ?_ (by omega);exact(((ε.refl (fun k=>k<W0.heap.size) w1).setCell (p:=⟨w.heap.size,0,none⟩) (.inl (by simp;omega)) _).setCell (p:=⟨w.heap.size,1,none⟩) (.inl (by simp;omega)) _).owns g1
    (fun k hk h=>by have:=(g1.lt k hk).1;omega)
  have F':=γ F;clear F g1 g2 hk0;go_wp2;refine bodyPost_ret (v:= .tuple #[.agg #[.int .i64 c0.1,.slice a' n' cap'],.bool true]) (by simp[results,results60,go_sem,q0,q1]) rfl F'.o
theorem IW {key:Int}{l:List (Int×Value)}{p:Int×Value}:p∈del key l↔p∈l/\p.1≠key:=by unfold del;simp;intro _;exact⟨fun h e=>h e.symm,fun h e=>h e.symm⟩
theorem TabAt.drop {w w':World}{B:Nat->Prop}{b m:Nat}{T:Tab}(h:TabAt w B b m T){l:List (Int×Value)}(hl:dW w m l)(hperm:(l.map (·.1)).Perm (dD T))
 (hc: ∀p∈l,∃c,(p.1,c)∈T/\CellIs w B p.2 c) {k:Int} (hl':dW w' m (del k l)) (hk:ε (one m) w w'):TabAt w' B b m (eu k T):=by
 refine⟨h.hb,h.hm,hk.heap h.obj (fun e=>?_),⟨_,hl',?_,fun p hp=>?_⟩,h.ok.eu k⟩
 ·have:=h.obj
  rw[show b=m from e]at this;obtain⟨L,cl,hL,_⟩:=hl;rw[hL.heap]at this;cases this
 ·refine Gv hl'.nodup h.ok.rises.eu.nodup fun x=>?_
  unfold dD;simp only[aaw];constructor
  ·rintro⟨p,hp,rfl⟩
   obtain⟨hp,hne⟩:=IW.1 hp;obtain⟨c',h1,_⟩:=hc p hp;exact⟨(p.1,c'),sF.2 ⟨h1,hne⟩,rfl⟩
  ·rintro⟨p,hp,rfl⟩
   obtain⟨hp,hne⟩:=sF.1 hp;have:p.1∈l.map (·.1):=hperm.mem_iff.2 (aaw.2 ⟨p,hp,rfl⟩);obtain⟨q,hq,e⟩:=aaw.1 this;exact⟨q,IW.2 ⟨hq,by rw[e];exact hne⟩,e⟩
 ·obtain⟨hp,hne⟩:=IW.1 hp
  obtain⟨c',h1,h2⟩:=hc p hp;exact⟨c',sF.2 ⟨h1,hne⟩,h2.kept hk (.map hl B)⟩
def Xa (w:World)(B:Nat->Prop)(b m:Nat)(T:Tab)(k:Int)(e:Ending)(w':World):Prop:=
 e= .returned (.bool (bZ T k).isSome)/\TabAt w' B b m (eu k T)/\ε (one m) w w'
theorem abN (B:Nat->Prop)(b m:Nat)(T:Tab)(k:Int)(w:World)(h:TabAt w B b m T):
 Calls prog 114 #[.pointer (some ⟨b,0,none⟩),.int .i64 k] w (Xa w B b m T k):=by
 have hcb:=h.cell;have hbl:=block_lt_of_cell hcb;simp only[]at hbl;obtain⟨l,hml,hperm,hcs⟩:=h.map;have hz:=zeroValue109;have hlk:=hml.lookup (P:=prog) underlying113 underlying2 k (hz _);have hlook:=EY h.ok.rises hperm hcs k;have HT:=γ h
 rcases hlook with⟨h1,h2⟩|⟨v0,c0,h1,h2,lv,rfl,hlv⟩
 ·rw[h1]at hlk
  simp only[Option.getD_none,Option.isSome_none]at hlk;have hk1:ε η w (w.alloc (.cells #[.int .i64 0,.slice none 0 0] 109)):=δ.alloc _;obtain⟨w2,hdel,rW,k2,hs2⟩:=(hml.kept hk1 id).delete (P:=prog) underlying113 underlying2 k;have F:Xa w B b m T k (.returned (.bool false)) w2:=⟨by rw[h2];rfl,(h.pure hk1).drop (hml.kept hk1 id) hperm (fun p hp=>(hcs p hp).imp fun c hc=>⟨hc.1,hc.2.kept hk1 (.none _ _)⟩) rW k2,hk1.pure.trans k2⟩;have F':=γ F;clear F h hml hperm hcs h1 h2 hz hk1 k2 hs2 rW;go_enter func114,ntmps114;go_wp2;go_ret;exact F'.o
 ·rw[h1]at hlk
  simp only[Δ,Option.isSome_some]at hlk;obtain⟨a2,n2,cap2,rfl,hj⟩:=hlv.1.slice;clear hj;have hk1:ε η w (w.alloc (.cells #[.int .i64 c0.1,.slice a2 n2 cap2] 109)):=δ.alloc _;obtain⟨w2,hdel,rW,k2,hs2⟩:=(hml.kept hk1 id).delete (P:=prog) underlying113 underlying2 k;have F:Xa w B b m T k (.returned (.bool true)) w2:=⟨by rw[h2];rfl,(h.pure hk1).drop (hml.kept hk1 id) hperm (fun p hp=>(hcs p hp).imp fun c hc=>⟨hc.1,hc.2.kept hk1 (.none _ _)⟩) rW k2,hk1.pure.trans k2⟩;have F':=γ F;clear F h hml hperm hcs h1 h2 hz hk1 k2 hs2 rW hlv;go_enter func114,ntmps114;go_wp2;go_ret;exact F'.o
end Go.Proofs.YtglbkodmmogomaaGreatDoor
namespace Go.Proofs
open Go.Shelf
def Tryz.keysL_ren:Go.Shelf.Ren:=⟨fun|7=>90|10=>137|n=>n,fun|23=>113|26=>2|3=>109|28=>169|0=>0|27=>168|33=>188|4=>4|n=>n,fun|n=>n⟩
theorem Tryz.keysL:Go.Proofs.SlLaysZI.n7 Tryz.prog Tryz.keysL_ren:={
 mixed:=by kernel_rfl
 f7:=⟨Tryz.f90.name,by decide,Tryz.func90.trans (congrArg some (by kernel_rfl))⟩
 f10:=⟨Tryz.f137.name,by decide,Tryz.func137.trans (congrArg some (by kernel_rfl))⟩
 t0:=Tryz.underlying0
 a0:=Tryz.isAgg0
 z0:=Tryz.sizeOf0
 v0:=Tryz.zeroValue0
 t4:=Tryz.underlying4
 a4:=Tryz.isAgg4
 z4:=Tryz.sizeOf4
 v4:=Tryz.zeroValue4
 t23:=Tryz.underlying113
 a23:=Tryz.isAgg113
 z23:=Tryz.sizeOf113
 v23:=Tryz.zeroValue113
 t26:=Tryz.underlying2
 a26:=Tryz.isAgg2
 z26:=Tryz.sizeOf2
 v26:=Tryz.zeroValue2
 t27:=Tryz.underlying168
 a27:=Tryz.isAgg168
 z27:=Tryz.sizeOf168
 v27:=Tryz.zeroValue168
 t28:=Tryz.underlying169
 a28:=Tryz.isAgg169
 z28:=Tryz.sizeOf169
 v28:=Tryz.zeroValue169
 t33:=Tryz.underlying188
 a33:=Tryz.isAgg188
 z33:=Tryz.sizeOf188
 v33:=Tryz.zeroValue188}
def Tryz.collectL_ren:Go.Shelf.Ren:=⟨fun|8=>135|11=>169|n=>n,fun|26=>2|28=>169|24=>97|0=>0|33=>188|4=>4|n=>n,fun|n=>n⟩
theorem Tryz.collectL:Go.Proofs.SlLaysZI.n8 Tryz.prog Tryz.collectL_ren:={
 mixed:=by kernel_rfl
 f8:=⟨Tryz.f135.name,by decide,Tryz.func135.trans (congrArg some (by kernel_rfl))⟩
 f11:=⟨Tryz.f169.name,by decide,Tryz.func169.trans (congrArg some (by kernel_rfl))⟩
 t0:=Tryz.underlying0
 a0:=Tryz.isAgg0
 z0:=Tryz.sizeOf0
 v0:=Tryz.zeroValue0
 t24:=Tryz.underlying97
 a24:=Tryz.isAgg97
 z24:=Tryz.sizeOf97
 v24:=Tryz.zeroValue97
 t26:=Tryz.underlying2
 a26:=Tryz.isAgg2
 z26:=Tryz.sizeOf2
 v26:=Tryz.zeroValue2
 t28:=Tryz.underlying169
 a28:=Tryz.isAgg169
 z28:=Tryz.sizeOf169
 v28:=Tryz.zeroValue169
 i26:=by kernel_rfl}
def Tryz.sortL_ren:Go.Shelf.Ren:=⟨fun|6=>136|15=>171|14=>170|28=>208|29=>209|20=>200|21=>201|22=>202|23=>203|24=>204|25=>205|26=>206|27=>207|46=>235|47=>236|48=>237|49=>238|50=>239|57=>261|n=>n,fun|22=>97|24=>2|25=>110|3=>3|39=>212|0=>0|53=>288|55=>174|4=>4|46=>282|45=>281|50=>229|5=>5|9=>9|66=>312|70=>316|76=>330|77=>331|n=>n,fun|n=>n⟩
theorem Tryz.sortL:Go.Proofs.SlLaysF.n6 Tryz.prog Tryz.sortL_ren:={
 mixed:=by kernel_rfl
 f6:=⟨Tryz.f136.name,by decide,Tryz.func136.trans (congrArg some (by kernel_rfl))⟩
 f14:=⟨Tryz.f170.name,by decide,Tryz.func170.trans (congrArg some (by kernel_rfl))⟩
 f15:=Tryz.func171.trans (congrArg some (by kernel_rfl))
 f20:=⟨Tryz.f200.name,by decide,Tryz.func200.trans (congrArg some (by kernel_rfl))⟩
 f21:=⟨Tryz.f201.name,by decide,Tryz.func201.trans (congrArg some (by kernel_rfl))⟩
 f22:=⟨Tryz.f202.name,by decide,Tryz.func202.trans (congrArg some (by kernel_rfl))⟩
 f23:=⟨Tryz.f203.name,by decide,Tryz.func203.trans (congrArg some (by kernel_rfl))⟩
 f24:=⟨Tryz.f204.name,by decide,Tryz.func204.trans (congrArg some (by kernel_rfl))⟩
 f25:=⟨Tryz.f205.name,by decide,Tryz.func205.trans (congrArg some (by kernel_rfl))⟩
 f26:=⟨Tryz.f206.name,by decide,Tryz.func206.trans (congrArg some (by kernel_rfl))⟩
 f27:=⟨Tryz.f207.name,by decide,Tryz.func207.trans (congrArg some (by kernel_rfl))⟩
 f28:=Tryz.func208.trans (congrArg some (by kernel_rfl))
 f29:=Tryz.func209.trans (congrArg some (by kernel_rfl))
 f46:=⟨Tryz.f235.name,by decide,Tryz.func235.trans (congrArg some (by kernel_rfl))⟩
 f47:=Tryz.func236.trans (congrArg some (by kernel_rfl))
 f48:=Tryz.func237.trans (congrArg some (by kernel_rfl))
 f49:=⟨Tryz.f238.name,by decide,Tryz.func238.trans (congrArg some (by kernel_rfl))⟩
 f50:=⟨Tryz.f239.name,by decide,Tryz.func239.trans (congrArg some (by kernel_rfl))⟩
 f57:=⟨Tryz.f261.name,by decide,Tryz.func261.trans (congrArg some (by kernel_rfl))⟩
 t0:=Tryz.underlying0
 a0:=Tryz.isAgg0
 z0:=Tryz.sizeOf0
 v0:=Tryz.zeroValue0
 t3:=Tryz.underlying3
 a3:=Tryz.isAgg3
 z3:=Tryz.sizeOf3
 v3:=Tryz.zeroValue3
 t4:=Tryz.underlying4
 a4:=Tryz.isAgg4
 z4:=Tryz.sizeOf4
 v4:=Tryz.zeroValue4
 t5:=Tryz.underlying5
 a5:=Tryz.isAgg5
 z5:=Tryz.sizeOf5
 v5:=Tryz.zeroValue5
 t9:=Tryz.underlying9
 a9:=Tryz.isAgg9
 z9:=Tryz.sizeOf9
 v9:=Tryz.zeroValue9
 t22:=Tryz.underlying97
 a22:=Tryz.isAgg97
 z22:=Tryz.sizeOf97
 v22:=Tryz.zeroValue97
 a24:=Tryz.isAgg2
 z24:=Tryz.sizeOf2
 t25:=Tryz.underlying110
 a25:=Tryz.isAgg110
 z25:=Tryz.sizeOf110
 v25:=Tryz.zeroValue110
 t39:=Tryz.underlying212
 a39:=Tryz.isAgg212
 z39:=Tryz.sizeOf212
 v39:=Tryz.zeroValue212
 t45:=Tryz.underlying281
 a45:=Tryz.isAgg281
 z45:=Tryz.sizeOf281
 v45:=Tryz.zeroValue281
 t46:=Tryz.underlying282
 a46:=Tryz.isAgg282
 z46:=Tryz.sizeOf282
 v46:=Tryz.zeroValue282
 t50:=Tryz.underlying229
 a50:=Tryz.isAgg229
 z50:=Tryz.sizeOf229
 v50:=Tryz.zeroValue229
 t53:=Tryz.underlying288
 a53:=Tryz.isAgg288
 z53:=Tryz.sizeOf288
 v53:=Tryz.zeroValue288
 t55:=Tryz.underlying174
 a55:=Tryz.isAgg174
 z55:=Tryz.sizeOf174
 v55:=Tryz.zeroValue174
 t66:=Tryz.underlying312
 a66:=Tryz.isAgg312
 z66:=Tryz.sizeOf312
 v66:=Tryz.zeroValue312
 t70:=Tryz.underlying316
 a70:=Tryz.isAgg316
 z70:=Tryz.sizeOf316
 v70:=Tryz.zeroValue316
 t76:=Tryz.underlying330
 a76:=Tryz.isAgg330
 z76:=Tryz.sizeOf330
 v76:=Tryz.zeroValue330
 t77:=Tryz.underlying331
 a77:=Tryz.isAgg331
 z77:=Tryz.sizeOf331
 v77:=Tryz.zeroValue331}
end Go.Proofs
namespace Go.Proofs.YtglbkodmmogomaaGreatDoor
open List Go.Proofs.Tryz
section
open Go Go.RowKit Go.Shelf Go.Sort
def gX (a b:Int):Int:=if a<b then-1 else if b<a then 1 else 0
def Uo (a b:Int):Int:=if a=0 then b else a
def zn (a b:Int):Int:=Uo (gX (grp a) (grp b)) (gX a b)
theorem UN (a b:Int):decide (zn a b<0)=bH a b:=by
 rw[Bool.eq_iff_iff,qA];unfold zn Uo gX;simp only[decide_eq_true_eq];by_cases h1:grp a<grp b
 ·simp[h1]
 ·by_cases h2:grp b<grp a
  ·simp[h1,h2];omega
  ·have:grp a=grp b:=by omega
   simp[this];by_cases h3:a<b
   ·simp[h3]
   ·by_cases h4:b<a<;>simp[h3,h4]
theorem ac3 (a b:Int)(w:World):Calls prog 99 #[.int .i64 a,.int .i64 b] w fun e w'=>e= .returned (.int .i64 (gX a b))/\w=w':=by
 by_cases h1:a<b
 ·have e:gX a b= -1:=by simp[gX,h1]
  have E:=γ e;clear e;go_enter func99,ntmps99;go_wp2;go_ret;exact⟨gV E.o.symm,rfl⟩
 ·by_cases h2:b<a
  ·have e:gX a b=1:=by simp[gX,h1,h2]
   have E:=γ e;clear e;go_enter func99,ntmps99;go_wp2;go_ret;exact⟨gV E.o.symm,rfl⟩
  ·have e:gX a b=0:=by simp[gX,h1,h2]
   have E:=γ e;clear e;go_enter func99,ntmps99;go_wp2;go_ret;exact⟨gV E.o.symm,rfl⟩
theorem cmpInt (a b:Int)(w:World):Calls prog 98 #[.int .i64 a,.int .i64 b] w fun e w'=>e= .returned (.int .i64 (gX a b))/\w=w':=by
 by_cases h1:a<b
 ·have e:gX a b= -1:=by simp[gX,h1]
  have E:=γ e;clear e;go_enter func98,ntmps98;go_wp2;go_ret;exact⟨gV E.o.symm,rfl⟩
 ·by_cases h2:b<a
  ·have e:gX a b=1:=by simp[gX,h1,h2]
   have E:=γ e;clear e;go_enter func98,ntmps98;go_wp2;go_ret;exact⟨gV E.o.symm,rfl⟩
  ·have e:gX a b=0:=by simp[gX,h1,h2]
   have E:=γ e;clear e;go_enter func98,ntmps98;go_wp2;go_ret;exact⟨gV E.o.symm,rfl⟩
theorem aem (a b:Int)(g cap:Nat)(w:World)(h0:w.cell? ⟨g,0,none⟩=some (.int .i64 a))(h1:w.cell? ⟨g,0+1,none⟩=some (.int .i64 b)):
 Calls prog 97 #[.slice (some ⟨g,0,none⟩) 2 cap] w fun e w'=>e= .returned (.int .i64 (Uo a b))/\w=w':=by
 go_enter func97,ntmps97;go_wp2
 go_loop [8] (fun i=> ∃k:Nat,k<=2/\i= .int .i64 k/\(1<=k->a=0)/\(2<=k->b=0)) (fun i=>2-(intOf i).toNat)
 case atStart=>exact⟨0,by omega,rfl,by omega,by omega⟩
 case round=>
  obtain⟨k,hk,rfl,ha,hb⟩:=hrel;have hk3:k=0\/k=1\/k=2:=by omega
  rcases hk3 with rfl|rfl|rfl
  ·clear ha hb
   by_cases hz:a=0
   ·subst hz
    go_wp2
    go_round
    case rel=>exact⟨1,by omega,by go_num,fun _=>(by simp),by omega⟩
    case measure=>simp[intOf]
   ·have hz1:(a !=0)=true:=by simp[hz]
    go_wp2;go_ret;exact⟨gV (by unfold Uo;rw[if_neg hz]),rfl⟩
  ·have ha':=ha (ξ _)
   clear ha hb;have A:=γ ha';clear ha';by_cases hz:b=0
   ·subst hz
    go_wp2
    go_round
    case rel=>exact⟨2,by omega,by go_num,fun _=>A.o,fun _=>(by simp)⟩
    case measure=>simp[intOf]
   ·have hz1:(b !=0)=true:=by simp[hz]
    go_wp2;go_ret;exact⟨gV (by unfold Uo;rw[if_pos A.o]),rfl⟩
  ·have A:=γ (θ (ha (by omega)) (hb (by omega)))
   clear ha hb;go_wp2;go_ret;exact⟨gV (by unfold Uo;rw[if_pos A.o.1,A.o.2]),rfl⟩
theorem WT (w:World)(o:Obj):w.alloc o=grow (w.drewN 0) #[o]:=by unfold grow World.alloc;rw[Array.push_eq_append];rfl
theorem Ik (a b:Int)(w:World):Calls prog 50 #[.int .i64 a,.int .i64 b] w fun e w'=>e= .returned (.int .i64 (zn a b))/\ ∃q os',w'=grow (w.drewN q) os':=by go_enter func50,ntmps50;go_wp2_with fail;refine(wE _ _).mono ?_;rintro e w' ⟨rfl,rfl⟩;go_wp2_with fail;refine(wE _ _).mono ?_;rintro e w' ⟨rfl,rfl⟩;go_wp2_with fail;refine(cmpInt _ _ _).mono ?_;rintro e w' ⟨rfl,rfl⟩;go_wp2_with fail;refine(ac3 _ _ _).mono ?_;rintro e w' ⟨rfl,rfl⟩;go_wp2_with fail;refine(aem (gX (grp a) (grp b)) (gX a b) w.heap.size 2 _ (by simp) (by simp)).mono ?_;rintro e w' ⟨rfl,rfl⟩;go_wp2;go_ret;exact⟨rfl,0,_,WT _ _⟩
end
section
open Go Go.RowKit Go.Shelf
def yK:Value->Option (DataW Unit×List MemPlace):=fun _=>some (.lit (.bool true),[])
theorem aJ.wf {n:Int}(h:aJ n):(Lit.int .i64 n).wf=true:=by unfold aJ at h;exact WalkArith.wf_i64 h
theorem Yy {t:T3}(h:aJ t.1):WideElems.rd prog 2 yK (ent t)=some (.int .i64 t.1,.lit (.bool true))/\WideElems.rg prog 2 yK (ent t)=(.int .i64 t.1,.lit (.bool true)):=by have h1:WideElems.rd prog 2 yK (ent t)=some (.int .i64 t.1,.lit (.bool true)):=(by unfold WideElems.rd;rw[show(ent t).key= .int .i64 t.1 from rfl,Maps.keyOf_int_mk underlying2 h.wf];rfl);exact⟨h1,by unfold WideElems.rg;rw[h1];rfl⟩
theorem dW.owns {w:World}{m:Nat}{l:List (Int×Value)}(h:dW w m l)(hk: ∀p∈l,aJ p.1)(hl:l.length<=maxLen):
 ∃D:DataW Unit,w.ownsMap prog 2 yK m l.length D/\(intKeys D).Perm (l.map (·.1))/\Maps.size D=l.length:=by
 obtain⟨L,clock,h,rfl⟩:=h;have hk': ∀t∈L,aJ t.1:=fun t ht=>hk (kv t) (aaw.2 ⟨t,ht,rfl⟩);have hmap:(L.map ent).map (WideElems.rg prog 2 yK)=L.map (fun t=>(Lit.int .i64 t.1,DataW.lit (.bool true))):=(by rw[map_map];apply map_congr_left;intro t ht;have:=(Yy (hk' t ht)).2;rw[Function.comp_apply,this]);have hsz:((L.map ent).toArray).size<=maxLen:=(by rw[size_toArray,length_map];rw[length_map]at hl;exact hl);have hsz2:((L.map ent).toArray).size<=(L.map kv).length:=(by simp);refine⟨.map (foldr DataW.insert [] (List.map (WideElems.rg prog 2 yK) (L.map ent).toArray.toList)),⟨(L.map ent).toArray,clock,h.heap,⟨hsz,⟨?_,?_,?_⟩,?_⟩,hsz2,rfl⟩,?_,?_⟩
 ·intro x hx
  rw[toList_toArray]at hx;obtain⟨t,ht,rfl⟩:=aaw.1 hx;exact h.old t ht
 ·simpa[ent,Function.comp_def]using h.born
 ·have:(L.map ent).toArray.toList.map (·.key)=(L.map (·.1)).map (Value.int .i64):=by simp[ent,Function.comp_def]
  rw[this];exact Pairwise.map _ (fun a b hab e=>hab (by simpa using e)) h.keys
 ·intro x hx
  rw[toList_toArray]at hx;obtain⟨t,ht,rfl⟩:=aaw.1 hx;exact⟨_,(Yy (hk' t ht)).1⟩
 ·show(List.map (fun p=>_root_.Go.intOf p.1) (foldr DataW.insert [] (((L.map ent).toArray.toList).map (WideElems.rg prog 2 yK)))).Perm _
  rw[toList_toArray,hmap];refine((WideShapes.sorted_perm _).map _).trans ?_;simp[_root_.Go.intOf,kv,Function.comp_def]
 ·show(foldr DataW.insert [] (((L.map ent).toArray.toList).map (WideElems.rg prog 2 yK))).length=_
  rw[length_sorted];simp
end
section
open Go Go.RowKit Go.Shelf Go.Sort
theorem qy (x y:Int):ltOf zn x y=bH x y:=by unfold ltOf;exact UN x y
theorem Uc:SWO (ltOf zn) where
 irrefl x:=by rw[qy];exact bM x
 trans x y z h1 h2:=by rw[qy]at*;exact iY h1 h2
 ntrans x y z h1 h2:=by
  rw[qy]at*;cases h:bH x z
  ·rfl
  ·rw[qA]at h
   have h1': ¬bH x y=true:=(by simp[h1]);have h2': ¬bH y z=true:=(by simp[h2]);rw[qA]at h1' h2';omega
theorem SI {T:Tab}(hT:dO T){ss:List Int}(hp:ss.Perm (dD T)):(ss.mergeSort fun x y=>!(ltOf zn) y x)=dD T:=by
 have e:(fun x y=>!(ltOf zn) y x)=fun x y=>!bH y x:=(by funext x y;rw[qy]);rw[e];have tr: ∀a b c:Int,(!bH b a)=true->(!bH c b)=true->(!bH c a)=true:=fun a b c h1 h2=>(by simp only[Bool.not_eq_true']at*;have:=Uc.ntrans c b a (by rw[qy];exact h2) (by rw[qy];exact h1);rwa[qy]at this);have to: ∀a b:Int,(!bH b a||!bH a b)=true:=fun a b=>by
  by_cases h:a=b
  ·subst h;rw[bM];rfl
  ·rcases jO h with h'|h'
   ·rw[vS h'];rfl
   ·rw[vS h'];simp
 refine List.Perm.eq_of_pairwise (le:=fun a b=>(!bH b a)=true) (fun a b _ _ h1 h2=>?_) (pairwise_mergeSort tr to ss) ?_ ((mergeSort_perm ss _).trans hp)
 ·simp only[Bool.not_eq_true']at h1 h2
  by_cases h:a=b
  ·exact h
  ·rcases jO h with h'|h'
   ·rw[h']at h2;cases h2
   ·rw[h']at h1;cases h1
 ·unfold dD
  rw[pairwise_map];exact hT.imp fun{a b} h=>by rw[vS h];rfl
theorem abl (m:Nat)(w:World):Calls prog 90 #[.map (some m)] w fun e w'=>e= .returned (.func (.func 137) #[] #[.pointer (some ⟨w.heap.size,0,none⟩)])/\w'=w.alloc (.cells #[.map (some m)] 113):=
 callsIn_wide.1 (AnyZI.keys_in keysL Fence.wide 3 trivial rfl (some m) w)
theorem TS (m Bm:Nat)(T:Tab)(l:List (Int×Value))(w:World)(hl:dW w m l)(hperm:(l.map (·.1)).Perm (dD T))(hT:fC T)(hc:w.cell? ⟨Bm,0,none⟩=some (.map (some m))):
 Calls prog 135 #[.func (.func 137) #[] #[.pointer (some ⟨Bm,0,none⟩)]] w fun e w'=> ∃(v:Value)(ss:List Int),e= .returned v/\ss.Perm (dD T)/\w'.ownsRow w.heap.size 2 1 v ss.length (ss.map (Value.int .i64))/\(v= .slice none 0 0↔ss=[])/\ε η w w':=by
 have hR: ∀p∈l,aJ p.1:=fun p hp=>(by have:p.1∈dD T:=hperm.mem_iff.1 (aaw.2 ⟨p,hp,rfl⟩);obtain⟨q,hq,e⟩:=aaw.1 this;rw[<-e];exact hT.key q hq);have hlen:l.length=T.length:=(by have:=hperm.length_eq;simpa[dD]using this);have h320:=hT.len;obtain⟨D,hown,hk,hsz⟩:=hl.owns hR (by unfold maxLen;omega);have hseq:=AnyZI.keys_gives (ρ:=keysL_ren) {keysL with} Fence.wide 2 trivial rfl (by omega) Bm m l.length D w (block_lt_of_cell hc) hc hown;have aiI:=AnyZI.collect_in collectL Fence.wide 4 trivial trivial rfl (by omega) 137 #[.pointer (some ⟨Bm,0,none⟩)] trivial (enters_of func137 (by kernel_rfl) rfl) (fun ss=>ss.Perm (intKeys D)) (Maps.size D) (by rw[hsz];unfold maxLen;omega) (by rw[hsz];omega) w hseq;refine(callsIn_wide.1 aiI).mono fun e w' ⟨v,ss,h1,h2,h3,h4,h5⟩=>⟨v,ss,h1,(h2.trans hk).trans hperm,h3,h4,.of_below h5⟩
theorem TT (blk off size:Nat)(w:World):CmpLays1 prog 50 #[] (Value.int .i64) zn blk off size w:=
 fun _ _ _ _ x y=>Ik x y _
def Ip (w:World)(l:List Int)(e:Ending)(w':World):Prop:=
 ∃v,e= .returned v/\w'.ownsRow w.heap.size 2 1 v l.length (ints l)/\(v= .slice none 0 0↔l=[])/\ε η w w'
theorem aaM (v:Value)(T:Tab)(hT:fC T)(ss:List Int)(base:Nat)(w:World)(hp:ss.Perm (dD T))(hown:w.ownsRow base 2 1 v ss.length (ints ss))(hne:ss≠[]):
 Calls prog 136 #[v,.func (.func 50) #[] #[]] w fun e w'=>e= .returned (.tuple #[])/\w'.ownsRow base 2 1 v ss.length (ints (dD T))/\ ∀k,v.ownBlock=some k->ε (one k) w w':=by
 obtain⟨hlen,h0|⟨g,cap,cur,rfl,hb,hg,hn,hc,hs,ht⟩⟩:=hown
 ·have:ss=[]:=τ h0.2
  exact absurd this hne
 ·have hlt:g<w.heap.size:=(κ.1 hg).1
  have hl320:ss.length<=320:=(by rw[hp.length_eq];unfold dD;rw[length_map];exact hT.len);have ht':cur.toList.take ss.length=ss.map (Value.int .i64):=(by rw[Nat.mul_one]at ht;exact ht);have hH:=holds_of_blockI hg ht';have hcon:=Any.slices_SortFunc_total sortL (Value.int .i64) (fun _=>rfl) zn Uc 50 #[] g 0 cap ss.toArray w (enters_of func50 (by kernel_rfl) rfl) (TT g 0 _ w) hH hlt (by simp;omega)
   (fun x y h1 h2=>by
     rw[qy]at h1 h2;by_cases h:x=y
     ·exact h
     ·rcases jO h with h'|h'
      ·rw[h']at h1;cases h1
      ·rw[h']at h2;cases h2)
  have Lr:Calls prog 136 #[.slice (some ⟨g,0,none⟩) ss.length cap,.func (.func 50) #[] #[]] w fun e w'=>e= .returned (.tuple #[])/\ ∃n os,w'=grow (putRow (Value.int .i64) (Sort.ahead w n) g 0 (dD T).toArray) os:=(by have h1:=hcon;rw[toList_toArray,SI hT.rises hp]at h1;exact h1);refine Lr.mono fun e w' ⟨he,n,os,hw⟩=>⟨he,?_,?_⟩
  ·rw[hw]
   exact ownsRow_sortedI hp.length_eq.symm hb hg hn hc hs
  ·intro k hk
   simp[Value.ownBlock]at hk;subst hk;rw[hw];exact ε.grown (grownBy_sortedI _) (fun k hk _=>by cases hk;rfl)
theorem Vm (m Bm:Nat)(T:Tab)(l:List (Int×Value))(w:World)(hl:dW w m l)(hperm:(l.map (·.1)).Perm (dD T))(hT:fC T)(hc:w.cell? ⟨Bm,0,none⟩=some (.map (some m))):
 Calls prog 89 #[.func (.func 137) #[] #[.pointer (some ⟨Bm,0,none⟩)],.func (.func 50) #[] #[]] w (Ip w (dD T)):=by
 have h1:=TS m Bm T l w hl hperm hT hc;have H1:=γ h1;have HT:=γ hT;clear h1 hl hperm hT hc;go_enter func89,ntmps89;go_wp2_with fail;refine H1.o.mono ?_;rintro e w1 ⟨v,ss,rfl,hp,hown,hnil,hk⟩;by_cases hne:ss=[]
 ·subst hne
  obtain rfl:v= .slice none 0 0:=hnil.2 rfl;have hT0:dD T=[]:=τ (by have:=hp.length_eq;simpa using this.symm);have hcon:=AnyF.slices_SortFunc_none {sortL with} none 0 (.func (.func 50) #[] #[]) w1;have Lr:Calls prog 136 #[.slice none 0 0,.func (.func 50) #[] #[]] w1 fun e w'=>e= .returned (.tuple #[])/\w'=w1:=hcon;have F:Ip w (dD T) (.returned (.slice none 0 0)) w1:=⟨_,rfl,by rw[hT0];exact World.ownsRow_nil _ _ _ _,by rw[hT0];simp,hk⟩;have F':=γ F;have HC:=γ Lr;clear F hcon Lr hp hown hnil hT0 hk;go_wp2_with fail;refine HC.o.mono ?_;rintro e w2 ⟨rfl,rfl⟩;go_wp2;go_ret;exact F'.o
 ·have hcon:=aaM v T HT.o ss w.heap.size w1 hp hown hne
  have F: ∀w2:World,w2.ownsRow w.heap.size 2 1 v ss.length (ints (dD T))->(∀k,v.ownBlock=some k->ε (one k) w1 w2)->Ip w (dD T) (.returned v) w2:=fun w2 h1 h2=>by
   have hl:ss.length=(dD T).length:=hp.length_eq;refine⟨v,rfl,by rw[<-hl];exact h1,?_,?_⟩
   ·rw[hnil]
    constructor
    ·intro h;exact absurd h hne
    ·intro h;rw[h]at hl;exact τ hl
   ·rcases hown.2 with⟨_,h0⟩|⟨g,cap,cur,rfl,hb,_⟩
    ·exact absurd (τ h0) hne
    ·exact hk.new (h2 g rfl) (fun k hk e=>by unfold one at e;omega)
  have F':=γ F;have HC:=γ hcon;obtain⟨a,cap,rfl⟩:=au hown;clear F hcon hp hown hnil hk;go_wp2_with fail;refine HC.o.mono ?_;rintro e w2 ⟨rfl,g1,g2⟩;have G:=F'.o w2 g1 g2;have G':=γ G;clear G g1 g2;go_wp2;go_ret;exact G'.o
theorem abk (B:Nat->Prop)(b m:Nat)(T:Tab)(w:World)(h:TabAt w B b m T):Calls prog 42 #[.pointer (some ⟨b,0,none⟩)] w (Ip w (dD T)):=by have hcb:=h.cell;obtain⟨l,hml,hperm,hcs⟩:=h.map;have HT:=γ h.ok;have HM:=γ hml;have HP:=γ hperm;clear h hml hperm hcs;go_enter func42,ntmps42;go_wp2_with fail;refine(abl m w).mono ?_;rintro e w1 ⟨rfl,rfl⟩;have k1:ε η w (w.alloc (.cells #[.map (some m)] 113)):=δ.alloc _;go_wp2_with fail;refine(Vm m w.heap.size T l _ (HM.o.kept k1 id) HP.o HT.o (by simp)).mono ?_;rintro e w2 ⟨v,rfl,g1,g2,g3⟩;obtain⟨a,cap,rfl⟩:=au g1;have F:Ip w (dD T) (.returned (.slice a (dD T).length cap)) w2:=⟨_,rfl,jV g1 (by simp),g2,k1.trans g3⟩;have F':=γ F;clear F g1 g2 g3;go_wp2;go_ret;exact F'.o
end
section
open Go Go.RowKit
theorem uU {l:List Int}{i:Nat}{x:Int}(h:l[i]?=some x):(ints l)[i]?=some (.int .i64 x):=by simp[ints,h]
theorem Reads.at {w:World}{v:Value}{l:List Int}(h:Reads w 1 v (ints l)): ∃a cap,v= .slice a l.length cap/\l.length<=cap/\cap<=maxLen/\(l=[]\/ ∃b off,a=some ⟨b,off,none⟩/\ ∀i x,l[i]?=some x->w.cell? ⟨b,off+i,none⟩=some (.int .i64 x)):=by
 obtain⟨a,n,cap,rfl,h1,h2,h3,h4⟩:=h;have hn:n=l.length:=(by simpa using h3.symm);subst hn;refine⟨a,cap,rfl,h1,h2,?_⟩
 rcases h4 with h4|⟨b,off,rfl,h4⟩
 ·left
  have:(ints l).length=0:=(by rw[h4];rfl);rw[vT]at this;exact τ this
 ·exact .inr ⟨b,off,rfl,fun i x hx=>h4 i _ (uU hx)⟩
theorem dw {a b:Bool}(h:a=b):Ending.returned (.bool a)= .returned (.bool b):=by rw[h]
theorem TabAt.lt {w:World}{B:Nat->Prop}{b m:Nat}{T:Tab}(h:TabAt w B b m T):m<w.heap.size/\b<w.heap.size:=by obtain⟨l,hl,_⟩:=h.map;exact⟨hl.lt,(κ.1 h.obj).1⟩
theorem RN.none {w0 w w':World}{B:Nat->Prop}{b m:Nat}{T:Tab}{k:Int}{c:Cell}{e:Ending}(h:RN w B b m T k c e w')(hk:ε η w0 w)(hm:w0.heap.size<=m):ε η w0 w':=
 hk.new h.2.2 (fun i hi e=>by unfold one at e;omega)
end
section
open Go Go.RowKit Go.ChangeShapes Go.WideShapes Go.ChangeAt Go.Deep
theorem aJ.Ad {n:Int}(h:(Lit.int .i64 n).wf=true):aJ n:=by
 have h2:IntKind.i64.min<=n/\n<=9223372036854775807:=by simpa[Lit.wf]using h
 exact⟨by have:IntKind.i64.min= -9223372036854775808:=by decide
          omega,h2.2⟩
theorem Pg {w:World}{x:Addr}{v:Value}(h:w.cell? x=some v):x=⟨x.block,x.off,none⟩:=by
 unfold World.cell? at h;split at h
 ·by_cases hs:x.spot.isSome=true
  ·rw[if_pos hs]at h;cases h
  ·have:x.spot=none:=by simpa using hs
   cases x;simp only at this;rw[this]
 ·cases h
section
variable {H:Type} {enc:TypeId×Value->H} {P:Program} {w:World}
theorem tX {t e:TypeId}{k fuel n cap:Nat}{a:Option Addr}{x:DataW H×List MemPlace}(ht:P.underlying t=some (.slice e))(hk:P.cellsOf e=k)(hk0:0<k)
 (h:DataW.trod enc P w 0 (fun _=>true) true fuel t [.slice a n cap]=some x):
 ∃cs:List Value,cs.length=n*k/\Reads w k (.slice a n cap) cs/\ ∀i,i<n-> ∃m y,DataW.trod enc P w 0 (fun _=>true) true m e ((cs.drop (i*k)).take k)=some y:=by
 rcases open_slice ht h with⟨h0,_⟩|⟨a',len,cap',m,f,D,Pl,h0,hb,hl,hm,hmm,rfl,hx⟩
 ·injection h0 with h0 _
  injection h0 with h1 h2 h3
  subst h1 h2 h3;exact⟨[],by simp,Reads.nil _ _,fun i hi=>by omega⟩
 ·injection h0 with h0 _
  injection h0 with h1 h2 h3
  subst h1 h2 h3;simp only[if_true]at hmm;subst hmm;have each: ∀j,j<n*k-> ∃v,w.cell? (a'.add j)=some v:=(by intro j hj;have hi:j/k<n:=(Nat.div_lt_iff_lt_mul hk0).2 hj;have hr:j%k<k:=Nat.mod_lt _ hk0;obtain⟨cs',h1,_⟩:=hx (j/k) (by omega);rw[hk]at h1;obtain⟨_,hlen,hcell⟩:=World.cells?_some h1;have h2:=hcell (j%k) hr;rw[add_add,show j/k*k+j%k=j by rw[Nat.mul_comm];exact Nat.div_add_mod j k]at h2;rw[h2,ι (by omega)];exact⟨_,rfl⟩);obtain⟨V,hV⟩:=choose_lt (α:=Value) (p:=fun j v=>w.cell? (a'.add j)=some v) each;refine⟨(range (n*k)).map V,by simp,⟨_,_,_,rfl,hl,hm,by simp,?_⟩,fun i hi=>?_⟩
  ·by_cases hz:n*k=0
   ·left;rw[hz];rfl
   ·right
    have e0:=Pg (hV 0 (by omega));rw[Addr.add_zero']at e0;refine⟨a'.block,a'.off,by rw[<-e0],fun j x hj=>?_⟩;rw[aav]at hj;obtain⟨j',hj',rfl⟩:=acg.1 hj;obtain⟨hlt,rfl⟩:=μ.1 hj';simp only[length_range]at hlt;have:=hV j hlt;rw[e0,Addr.add_lit]at this;simpa using this
  ·obtain⟨cs',h1,h2⟩:=hx i (by omega)
   rw[hk]at h1;obtain⟨_,hlen,hcell⟩:=World.cells?_some h1;refine⟨f,(D i,Pl i),?_⟩
   ·rw[show((((range (n*k)).map V).drop (i*k)).take k)=cs' from ?_]
    ·exact h2
    ·apply ext_getElem?
     intro j;have hin:i*k+k<=n*k:=(by rw[<-Nat.succ_mul];exact Nat.mul_le_mul_right k hi);by_cases hj:j<k
     ·rw[aaA,if_pos hj,getElem?_drop,aav,getElem?_range (by omega)]
      have h3:=hcell j hj;rw[add_add,hV (i*k+j) (by omega)]at h3;simpa using h3
     ·rw[aaA,if_neg hj,aak (by omega)]
theorem YN {t e:TypeId}{fuel n cap:Nat}{a:Option Addr}{x:DataW H×List MemPlace}(ht:P.underlying t=some (.slice e))(he:P.underlying e=some (.int .i64))(hk:P.cellsOf e=1)
 (h:DataW.trod enc P w 0 (fun _=>true) true fuel t [.slice a n cap]=some x):
 ∃l:List Int,l.length=n/\Reads w 1 (.slice a n cap) (ints l)/\ ∀y∈l,aJ y:=by
 obtain⟨cs,hl,hr,hel⟩:=tX ht hk (by omega) h;have: ∃l:List Int,cs=ints l/\ ∀y∈l,aJ y:=by
  rw[Nat.mul_one]at hl;have afa: ∀v∈cs,∃y,v= .int .i64 y/\aJ y:=by
   intro v hv;obtain⟨i,hi,rfl⟩:=mem_iff_getElem.1 hv;obtain⟨m,y,hy⟩:=hel i (by omega);obtain⟨z,hz,_,hw⟩:=DataW.trod_int he hy;rw[Nat.mul_one,acn hi,take_succ_cons,take_zero]at hz
   injection hz with hz _
   exact⟨z,hz, .Ad hw⟩
  clear hl hr hel
  induction cs with
  |nil=>exact⟨[],rfl,by simp⟩
  |cons v cs ih=>obtain⟨y,rfl,hy⟩:=afa v (by simp);obtain⟨l,rfl,hl⟩:=ih (fun u hu=>afa u (by simp[hu]));exact⟨y::l,rfl,by simpa using⟨hy,hl⟩⟩
 obtain⟨l,rfl,h64⟩:=this;exact⟨l,by simpa using hl,hr,h64⟩
end
theorem own:ownKnob prog.godebug=none:=by kernel_rfl
theorem laidOut:laidOutB prog=true:=by kernel_rfl
noncomputable def readB (ts:List TypeId):Bool:=ts.all fun t=>prog.readableRec t&&decide (t<prog.types.size)
theorem aao {H:Type}{enc:TypeId×Value->H}{W W':World}(hb:Below W.heap.size W W')(ts:List TypeId): ∀{vs:List Value}{ds:List (DataW H)}{ps:List MemPlace},readB ts=true->
 DataW.TrodAll enc prog W 0 (fun _=>true) true ts vs ds ps-> ∃ps',DataW.TrodAll enc prog W' 0 (fun b=>decide (b<W.heap.size)) true ts vs ds ps':=by
 induction ts with
 |nil=>intro vs ds ps _ h;obtain⟨rfl,rfl,rfl⟩:=trodAll_nil h;exact⟨[],trodAll_mk0⟩
 |cons t ts ih=>intro vs ds ps hr h;obtain⟨v,vs',d,ds',p,q,rfl,rfl,rfl,h0,h1⟩:=trodAll_cons h;unfold readB at hr;rw[all_cons,Φ,Φ]at hr;obtain⟨ps',h2⟩:=ih hr.2 h1;have hlt: ∀x∈p,x.block<W.heap.size:=(by obtain⟨m,hm⟩:=h0;exact DataW.trod_lt m _ _ _ hm);exact⟨_,trodAll_cons_mk (Below.trod laidOut hr.1.1 (of_decide_eq_true hr.1.2) h0 hb hlt) h2⟩
end
section
open Go
section
variable {P:Program} {ops:Array Oper} {md:Region.Mode} {C:World->Prop}
def PN:Op->Bool
 | .move _| .assign _| .pick .. | .build .. | .binOp .. | .unOp .. | .convert .. | .fieldAddr .. | .field .. | .indexAddr .. | .extract .. =>true
 |_=>false
def gq:Op->Bool
 | .store .. =>true
 |_=>false
def nU (o:Op):Bool:=floats o&&!PN o
def yh (md:Region.Mode)(ops:Array Oper):Bool:=
 (range ops.size).all fun j=>match ops[j]? with
   |some oj=>!gq oj.op||(range ops.size).all fun i=>match ops[i]? with
    |some oi=>!nU oi.op||oj.after.any fun e=>Region.binds md e&&e.on==i
    |none=>true
   |none=>true
theorem CU (h:yh md ops=true){j i:Nat}{oj oi:Oper}(hj:ops[j]?=some oj)(hi:ops[i]?=some oi)(hh:gq oj.op=true)(hr:nU oi.op=true):
 ∃e∈oj.after,Region.binds md e=true/\e.on=i:=by
 have hj':=(κ.1 hj).1;have hi':=(κ.1 hi).1;have h1:=all_eq_true.1 h j (mem_range.2 hj');simp only[hj,hh,Bool.not_true,Bool.false_or]at h1;have h2:=all_eq_true.1 h1 i (mem_range.2 hi');simp only[hi,hr,Bool.not_true,Bool.false_or]at h2;rw[Array.any_eq_true]at h2;obtain⟨k,hk,h2⟩:=h2;simp only[Φ,beq_iff_eq]at h2;exact⟨_,Array.getElem_mem hk,h2.1,h2.2⟩
def rY (ops:Array Oper)(listed:Array Bool):Prop:= ∀(j:Nat) oj,ops[j]?=some oj->gq oj.op=true->listed.getD j true=false
def Shut (ops:Array Oper)(listed:Array Bool):Prop:= ∀(j:Nat) oj,ops[j]?=some oj->gq oj.op=true->listed.getD j true=true-> ∀(i:Nat) oi,ops[i]?=some oi->nU oi.op=true->listed.getD i true=true
theorem ny {listed:Array Bool}{j:Nat}(hj:j∈Region.ready md ops listed){oj:Oper}(hoj:ops[j]?=some oj){e:Edge}(he:e∈oj.after)(hb:Region.binds md e=true):listed.getD e.on true=true:=by
 obtain⟨_,o,ho,hall⟩:=mem_ready.1 hj;rw[hoj]at ho;cases ho;have h2:=hall e he hb
 rcases Nat.lt_or_ge e.on listed.size with h'|h'
 ·simp[h']at h2⊢;exact h2
 ·simp[Array.getElem?_eq_none h']at h2
theorem kP (listed:Array Bool)(j:Nat):(listed.setIfInBounds j true).getD j true=true:=by
 rw[Array.getD_eq_getD_getElem?,Array.getElem?_setIfInBounds];by_cases h:j<listed.size
 ·simp[h]
 ·simp[h]
theorem getD_set_true (listed:Array Bool)(j i:Nat)(h:listed.getD i true=true):(listed.setIfInBounds j true).getD i true=true:=by
 by_cases e:j=i
 ·subst e
  exact kP _ _
 ·rw[getD_set_ne true e];exact h
theorem Shut.set (hh:yh md ops=true){listed:Array Bool}(h:Shut ops listed){j:Nat}(hj:j∈Region.ready md ops listed):Shut ops (listed.setIfInBounds j true):=by
 intro k ok hk nO hl i oi hi hr;by_cases e:j=k
 ·subst e
  obtain⟨e,he,hb,rfl⟩:=CU hh hk hi nO hr;exact getD_set_true _ _ _ (ny hj hk he hb)
 ·rw[getD_set_ne true e]at hl
  exact getD_set_true _ _ _ (h k ok hk nO hl i oi hi hr)
def wpAnyH (P:Program)(md:Region.Mode)(ops:Array Oper)(C:World->Prop)(Q:Act->World->Prop):Nat->Array Bool->Act->World->Prop
 |0,listed,a,w=>(rY ops listed->C w)/\(∀(k:Nat) o,ops[k]?=some o->listed.getD k true=true)/\Q a w
 |fuel+1,listed,a,w=>(rY ops listed->C w)/\(Region.ready md ops listed=[]->Q a w)/\
  ∀i∈Region.ready md ops listed,wpOp P ops (mD Q) i (wpAnyH P md ops C Q fuel (listed.setIfInBounds i true)) a w
theorem sU {Q:Act->World->Prop}{Q':Exit->Act->World->Prop}(hQ: ∀a w,Q a w->Q' .normal a w): ∀(fuel:Nat)(listed:Array Bool)(a:Act)(w:World),
 wpAnyH P md ops C Q fuel listed a w->wpAny P md ops Q' fuel listed a w
 |0,_,_,_,h=>⟨ready_nil h.2.1,hQ _ _ h.2.2⟩
 |fuel+1,_,_,_,h=>⟨fun h0=>hQ _ _ (h.2.1 h0),fun i hi=>wpOp_mono (fun a w=>sU hQ fuel _ a w)
   (zS (fun e a w h=>by cases e<;>first|exact hQ _ _ h|exact h.elim) (h.2.2 i hi))⟩
theorem wpAnyH.cold {Q:Act->World->Prop}{fuel:Nat}{listed:Array Bool}{a:Act}{w:World}(h:wpAnyH P md ops C Q fuel listed a w):rY ops listed->C w:=by
 cases fuel with
 |zero=>exact h.1
 |succ f=>exact h.1
def vg (C:World->Prop)(o:Oper)(w:World):Prop:=nU o.op=true->C w
theorem wpAnyH_first {Q:Act->World->Prop}{i:Nat}{oi:Oper}{v:Value}(hh:yh md ops=true)(hi:ops[i]?=some oi)(hfl:floats oi.op=true)(hsel: ∀(j:Nat)(o:Oper) cs b,ops[j]?=some o->o.op≠ .select cs b):
 ∀(fuel:Nat)(listed:Array Bool)(a:Act)(w:World),
  (∀j oj,ops[j]?=some oj->j≠i->listed.getD j true=false->(∀e∈oj.after,Region.binds md e=true->e.on≠i)->oi.apart ops oj=true)->
  (rY ops listed->C w)->Shut ops listed->
  i∈Region.ready md ops listed->ku P ops (vg C oi) oi v a->
  wpAnyH P md ops C Q fuel (listed.setIfInBounds i true) (a.put oi.dst v) w->wpAnyH P md ops C Q (fuel+1) listed a w:=by
 have hnot:gq oi.op=false:=by cases h:oi.op<;>rw[h]at hfl<;>first|rfl|cases hfl
 have hcls: ∀(listed:Array Bool)(w:World),(rY ops listed->C w)->Shut ops listed->i∈Region.ready md ops listed->vg C oi w:=by
  intro listed w hC hS hr hread;refine hC fun j oj hj nO=>?_
  cases hl:listed.getD j true with
  |false=>rfl
  |true=>have:=hS j oj hj nO hl i oi hi hread;rw[(mem_ready.1 hr).1]at this;cases this
 intro fuel
 induction fuel with
 |zero=>
  intro listed a w _ hC hS hr hy H;refine⟨hC,fun h=>(by rw[h]at hr;cases hr),fun j hj=>?_⟩;by_cases hji:j=i
  ·subst hji;exact hy.wpOp hi (hcls listed w hC hS hr) H
  ·have:=ready_mono hj hji
   rw[ready_nil H.2.1]at this;cases this
 |succ fuel ih=>
  intro listed a w hfree hC hS hr hy H;refine⟨hC,fun h=>(by rw[h]at hr;cases hr),fun j hj=>?_⟩;by_cases hji:j=i
  ·subst hji;exact hy.wpOp hi (hcls listed w hC hS hr) H
  ·have h1:=H.2.2 j (ready_mono hj hji)
   obtain⟨hjun,oj,hoj,hall⟩:=mem_ready.1 hj;have V7: ∀e∈oj.after,Region.binds md e=true->e.on≠i:=fun e he hb heq=>(by have h1:=ny hj hoj he hb;rw[heq,(mem_ready.1 hr).1]at h1;cases h1);have h2:=BA hoj (hfree j oj hoj hji hjun V7) (fun cs b=>hsel i oi cs b hi) (fun cs b=>hsel j oj cs b hoj) hy h1;have hfree': ∀k ok,ops[k]?=some ok->k≠i->(listed.setIfInBounds j true).getD k true=false->
    (∀e∈ok.after,Region.binds md e=true->e.on≠i)->oi.apart ops ok=true:=fun k ok hk hki hun hno=>by
    refine hfree k ok hk hki ?_ hno;by_cases hjk:j=k
    ·subst hjk;exact hjun
    ·rw[getD_set_ne true hjk]at hun;exact hun
   refine wpOp_mono (fun a' w' h3=>ih (listed.setIfInBounds j true) a' w' hfree' (fun Wq=>?_) (hS.set hh hj) (ready_mono hr (Ne.symm hji)) h3.1 ?_) h2
   ·refine h3.2.cold fun k ok hk nO=>?_
    have hki:k≠i:=fun e=>(by subst e;rw[hi]at hk;cases hk;rw[hnot]at nO;cases nO);have:=Wq k ok hk nO;by_cases hjk:j=k
    ·subst hjk
     rw[kP]at this;cases this
    ·rw[getD_set_ne true hjk,getD_set_ne true (Ne.symm hki)]
     rwa[getD_set_ne true hjk]at this
   ·rw[Array.setIfInBounds_comm _ _ hji]
    exact h3.2
def eX (P:Program)(ops:Array Oper)(C:World->Prop)(Q:Act->World->Prop):Bool->List Oper->Act->World->Prop
 |cO,[],a,w=>(cO=true->C w)/\Q a w
 |cO,o::rest,a,w=>
  if Region.wanted o (yielded ops a.tmps)then
   if floats o.op then∃v,(∀w',vg C o w'->(execOp a.eval o).run P w'= .ok (.value v) w')/\eX P ops C Q cO rest (a.put o.dst v) w
   else o.wp P a w (fun a' w'=>((cO&&!gq o.op)=true->C w')/\eX P ops C Q (cO&&!gq o.op) rest a' w') (mD Q)
  else eX P ops C Q (cO&&!gq o.op) rest (a.put o.dst undef) w
theorem gG {Q:Act->World->Prop}(hs:Region.noSelect ops=true)(hh:yh .any ops=true): ∀(l:List Nat)(listed:Array Bool)(cO:Bool)(a:Act)(w:World),
 gJ .any ops l listed=true->Shut ops listed->(rY ops listed->cO=true)->(cO=true->C w)->eX P ops C Q cO (l.map fun k=>(ops[k]?).getD default) a w->wpAnyH P .any ops C Q l.length listed a w
 |[],listed,cO,a,w,hB,_,qU,hC,h=>by refine⟨fun hc=>hC (qU hc),fun k o hk=>?_,h.2⟩;simp only[gJ,all_eq_true,mem_range]at hB;exact hB k (κ.1 hk).1
 |k::rest,listed,cO,a,w,hB,hS,qU,hC,h=>by
  simp only[gJ,Φ]at hB;obtain⟨hk,hB'⟩:=hB;have hr:k∈Region.ready .any ops listed:=by
   split at hk
   ·simp only[Φ]at hk;simpa using hk.1
   ·have:Region.ready .any ops listed=[k]:=by simpa using hk
    rw[this];simp
  obtain⟨hun,o,hok,_⟩:=mem_ready.1 hr;simp only[Θ,hok,Δ,eX]at h;simp only[yA,hok]at hk;have hS':=hS.set hh hr;have hnext:rY ops (listed.setIfInBounds k true)->(cO&&!gq o.op)=true:=by
   intro hc;have hno:gq o.op=false:=by
    cases hz:gq o.op with
    |false=>rfl
    |true=>have h1:=hc k o hok hz;rw[kP]at h1;cases h1
   rw[hno,qU]
   ·rfl
   ·intro j oj hj nO
    have:=hc j oj hj nO;by_cases e:k=j
    ·subst e;exact hun
    ·rwa[getD_set_ne true e]at this
  by_cases hf:floats o.op=true
  ·rw[if_pos hf]at hk
   simp only[Φ]at hk;have hno:gq o.op=false:=by cases h:o.op<;>rw[h]at hf<;>first|rfl|cases hf
   by_cases hw:Region.wanted o (yielded ops a.tmps)=true
   ·simp only[hw,if_true,hf]at h
    obtain⟨v,hv,hn⟩:=h;refine wpAnyH_first hh hok hf (Region.noSelect_spec hs) rest.length listed a w (Region.free_spec hok hk.2) (fun hc=>hC (qU hc)) hS hr (.inl ⟨hw,hv⟩)
     (gG hs hh rest _ cO _ w hB' hS' (fun hc=>?_) hC hn)
    have:=hnext hc;rw[Φ]at this;exact this.1
   ·simp only[hw,hno,Bool.not_false,Bool.and_true]at h
    refine wpAnyH_first hh hok hf (Region.noSelect_spec hs) rest.length listed a w (Region.free_spec hok hk.2) (fun hc=>hC (qU hc)) hS hr (.inr ⟨by simpa using hw,rfl⟩)
     (gG hs hh rest _ cO _ w hB' hS' (fun hc=>?_) hC h)
    have:=hnext hc;rw[Φ]at this;exact this.1
  ·rw[if_neg hf]at hk
   have hr1:Region.ready .any ops listed=[k]:=(by simpa using hk);refine⟨fun hc=>hC (qU hc),fun h0=>(by rw[h0]at hr1;cases hr1),fun j hj=>?_⟩;rw[hr1]at hj;obtain rfl:j=k:=(by simpa using hj);unfold wpOp;simp only[hok];by_cases hw:Region.wanted o (yielded ops a.tmps)=true
   ·simp only[hw,if_true,hf]at h⊢
    exact .inl (Oper.wp_mono (fun a' w' h'=>gG hs hh rest _ _ a' w' hB' hS' hnext h'.1 h'.2) h)
   ·simp only[hw]at h⊢
    refine gG hs hh rest _ _ _ w hB' hS' hnext (fun hc=>hC ?_) h;rw[Φ]at hc;exact hc.1
theorem fJ {id:Nat}{Q:Exit->Act->World->Prop}{a:Act}{w:World}(ord:List Nat)(C:World->Prop)(hm:P.follows .mixedOrders=true)(hB:(Region.noSelect ops&&yh .any ops&&gJ .any ops ord (Array.replicate ops.size false))=true)
 (hlen:ord.length=ops.size) (hC:C w.drew) (h:eX P ops C (Q .normal) true (ord.map fun k=>(ops[k]?).getD default) a w.drew):(Code.region id ops true).wp P Q a w:=by
 simp only[Φ]at hB;obtain⟨⟨h1,h2⟩,h3⟩:=hB;refine wp_region_any hm (sU (C:=C) (Q:=Q .normal) (fun _ _ h=>h) _ _ _ _ ?_);rw[<-hlen];refine gG h1 h2 ord _ true a w.drew (by rw[hlen];exact h3) (fun j oj hj _ hl=>?_) (fun _=>rfl) (fun _=>hC) h;have hlt:=(κ.1 hj).1;rw[hlen,Array.getD_eq_getD_getElem?,Array.getElem?_replicate,if_pos hlt]at hl;cases hl
theorem dZ {Q:Act->World->Prop}{rest:List Oper}{a:Act}{w:World}{o:Oper}{v:Value}{cO:Bool}(hw:Region.wanted o (yielded ops a.tmps)=true)(hf:floats o.op=true)
 (hv: ∀w',(execOp a.eval o).run P w'= .ok (.value v) w') (h:eX P ops C Q cO rest (a.put o.dst v) w):eX P ops C Q cO (o::rest) a w:=by
 unfold eX;simp only[hw,hf,if_true];exact⟨v,fun w' _=>hv w',h⟩
theorem lJ {Q:Act->World->Prop}{rest:List Oper}{a:Act}{w:World}{o:Oper}{v:Value}{cO:Bool}(hw:Region.wanted o (yielded ops a.tmps)=true)(hf:floats o.op=true)(hr:nU o.op=true)
 (hv: ∀w',C w'->(execOp a.eval o).run P w'= .ok (.value v) w') (h:eX P ops C Q cO rest (a.put o.dst v) w):eX P ops C Q cO (o::rest) a w:=by
 unfold eX;simp only[hw,hf,if_true];exact⟨v,fun w' hc=>hv w' (hc hr),h⟩
theorem iZ {Q:Act->World->Prop}{rest:List Oper}{a:Act}{w:World}{o:Oper}{cO:Bool}(hw:Region.wanted o (yielded ops a.tmps)=true)(hf:floats o.op=false)(hh:gq o.op=false)
 (h: ∀K:Act->World->Prop,(∀a' w',(cO=true->C w')->eX P ops C Q cO rest a' w'->K a' w')->o.wp P a w K (mD Q)):eX P ops C Q cO (o::rest) a w:=by
 unfold eX;simp only[hw,hf,hh,Bool.not_false,Bool.and_true,if_true];exact h _ fun a' w' h1 h2=>⟨h1,h2⟩
theorem jH {Q:Act->World->Prop}{rest:List Oper}{a:Act}{w:World}{o:Oper}{cO:Bool}(hw:Region.wanted o (yielded ops a.tmps)=true)(hf:floats o.op=false)(hh:gq o.op=true)
 (h: ∀K:Act->World->Prop,(∀a' w',eX P ops C Q false rest a' w'->K a' w')->o.wp P a w K (mD Q)):eX P ops C Q cO (o::rest) a w:=by
 unfold eX;simp only[hw,hf,hh,Bool.not_true,Bool.and_false,if_true];exact h _ fun a' w' h2=>⟨fun h=>(by cases h),h2⟩
theorem nT {Q:Act->World->Prop}{a:Act}{w:World}(h:Q a w):eX P ops C Q false [] a w:=⟨fun h=>(by cases h),h⟩
end
end
section
open Go Go.RowKit
def recs (L:List Rec):List Value:=L.flatMap fun r=>[.int .i64 r.pos,.int .i64 r.key,.int .i64 r.val]
def uy (w:World)(b o:Nat)(r:Rec):Prop:=
 w.cell? ⟨b,o,none⟩=some (.int .i64 r.pos)/\w.cell? ⟨b,o+1,none⟩=some (.int .i64 r.key)/\w.cell? ⟨b,o+2,none⟩=some (.int .i64 r.val)
def afR (w:World)(b o:Nat):Prop:=w.frozen? ⟨b,o,none⟩=false/\w.frozen? ⟨b,o+1,none⟩=false/\w.frozen? ⟨b,o+2,none⟩=false
structure RW (w:World)(b off:Nat)(L:List Rec):Prop where
 recs: ∀i r,L[i]?=some r->uy w b (off+i*3) r
 soft: ∀i,i<L.length->afR w b (off+i*3)
theorem uy.pure {w w':World}{b o:Nat}{r:Rec}(h:uy w b o r)(hk:ε η w w'):uy w' b o r:=
 ⟨hk.cell id h.1,hk.cell id h.2.1,hk.cell id h.2.2⟩
theorem RW.pure {w w':World}{b off:Nat}{L:List Rec}(h:RW w b off L)(hk:ε η w w'):RW w' b off L:=by refine⟨fun i r hr=>(h.recs i r hr).pure hk,fun i hi=>?_⟩;obtain⟨r,hr⟩: ∃r,L[i]?=some r:=⟨_,ι hi⟩;have hb:=block_lt_of_cell (h.recs i r hr).1;have hs:=h.soft i hi;exact⟨by rw[hk.fq _ _ hb];exact hs.1,by rw[hk.fq _ _ hb];exact hs.2.1,by rw[hk.fq _ _ hb];exact hs.2.2⟩
def qm (w:World)(b o:Nat)(r:Rec):World:=((w.setCell ⟨b,o,none⟩ (.int .i64 r.pos)).setCell ⟨b,o+1,none⟩ (.int .i64 r.key)).setCell ⟨b,o+2,none⟩ (.int .i64 r.val)
theorem Ej (w:World)(b o:Nat)(r:Rec):ε (one b) w (qm w b o r):=
 (((ε.refl (one b) w).setCell (p:=⟨b,o,none⟩) (.inl rfl) _).setCell (p:=⟨b,o+1,none⟩) (.inl rfl) _).setCell (p:=⟨b,o+2,none⟩) (.inl rfl) _
theorem S9 {w:World}{b o:Nat}{r x:Rec}(h:uy w b o x):uy (qm w b o r) b o r:=by
 obtain⟨h0,h1,h2⟩:=h;unfold qm uy;refine⟨?_,?_,?_⟩
 ·rw[World.cell?_setCell_other _ _ _ _ (by simp),World.cell?_setCell_other _ _ _ _ (by simp),World.cell?_setCell_same _ _ _ h0]
 ·rw[World.cell?_setCell_other _ _ _ _ (by simp),World.cell?_setCell_same _ _ _ (by rw[World.cell?_setCell_other _ _ _ _ (by simp)];exact h1)]
 ·rw[World.cell?_setCell_same _ _ _ (by rw[World.cell?_setCell_other _ _ _ _ (by simp),World.cell?_setCell_other _ _ _ _ (by simp)];exact h2)]
theorem VA {w:World}{b o o':Nat}{r x:Rec}(h:uy w b o' x)(hne:o'+2<o\/o+2<o'):uy (qm w b o r) b o' x:=by
 obtain⟨h0,h1,h2⟩:=h;unfold qm uy;refine⟨?_,?_,?_⟩
 ·rw[World.cell?_setCell_other _ _ _ _ (by intro e;injection e with _ e _;omega),World.cell?_setCell_other _ _ _ _ (by intro e;injection e with _ e _;omega),World.cell?_setCell_other _ _ _ _ (by intro e;injection e with _ e _;omega)];exact h0
 ·rw[World.cell?_setCell_other _ _ _ _ (by intro e;injection e with _ e _;omega),World.cell?_setCell_other _ _ _ _ (by intro e;injection e with _ e _;omega),World.cell?_setCell_other _ _ _ _ (by intro e;injection e with _ e _;omega)];exact h1
 ·rw[World.cell?_setCell_other _ _ _ _ (by intro e;injection e with _ e _;omega),World.cell?_setCell_other _ _ _ _ (by intro e;injection e with _ e _;omega),World.cell?_setCell_other _ _ _ _ (by intro e;injection e with _ e _;omega)];exact h2
theorem RW.put {w:World}{b off i:Nat}{L:List Rec}(h:RW w b off L)(r:Rec)(hi:i<L.length):RW (qm w b (off+i*3) r) b off (L.set i r):=by
 refine⟨fun j x hx=>?_,fun j hj=>?_⟩
 ·by_cases e:i=j
  ·subst e
   rw[getElem?_set_self hi]at hx;cases hx;exact S9 (h.recs i _ (ι hi))
  ·rw[getElem?_set_ne e]at hx
   exact VA (h.recs j x hx) (by omega)
 ·rw[length_set]at hj
  have:=h.soft j hj;unfold afR qm at*;simpa using this
theorem RW.swap {w:World}{b off i j:Nat}{L:List Rec}(h:RW w b off L)(x y:Rec)(hi:i<L.length)(hj:j<L.length):RW (qm (qm w b (off+i*3) y) b (off+j*3) x) b off ((L.set i y).set j x):=
 (h.put y hi).put x (by rw[length_set];exact hj)
theorem yL (w:World)(b o o':Nat)(x y:Rec):ε (one b) w (qm (qm w b o y) b o' x):=(Ej _ _ _ _).trans (Ej _ _ _ _)
def Moves (w:World)(b off:Nat)(L:List Rec)(e:Ending)(w':World):Prop:=e= .returned (.tuple #[])/\RW w' b off L/\ε (one b) w w'
theorem bI {n:Nat}(h:n<4398046511104):IntKind.i64.wrap ((n:Nat):Int)=((n:Nat):Int):=by rw[IntKind.wrap_i64];omega
theorem set_mid {A B:List Rec}{x y:Rec}{i:Nat}(h:A.length=i):(A++x::B).set i y=A++y::B:=by subst h;rw[set_append_right _ _ (ξ _)];simp
theorem lG {A B:List Rec}{x:Rec}{i:Nat}(h:A.length=i):(A++x::B)[i]?=some x:=by subst h;simp
theorem Yd {P V1 U M U1 V S:List Rec}{x y:Rec}{i j:Nat}(hi:(P++V1).length=i)(hj:(P++V1++x::U++M++U1).length=j):
 (((P++V1++x::U++M++U1++y::V++S).set i y).set j x)=P++(V1++[y])++U++M++(U1++[x])++V++S:=by
 rw[show P++V1++x::U++M++U1++y::V++S=(P++V1)++x::(U++M++U1++y::V++S) by simp,set_mid hi,
  show(P++V1)++y::(U++M++U1++y::V++S)=(P++V1++y::U++M++U1)++y::(V++S) by simp,set_mid (by simpa using hj)]
 simp
theorem wR (b off cap N a m n:Nat)(P U M V S:List Rec)(w:World)(h:RW w b off (P++U++M++V++S))(hN:(P++U++M++V++S).length=N)(sK:N<1099511627776)
 (ha:P.length=a) (hm:(P++U++M).length=m) (hU:U.length=n) (hV:V.length=n):
 Calls prog 242 #[.slice (some ⟨b,off,none⟩) N cap,.int .i64 a,.int .i64 m,.int .i64 n,.func (.func 117) #[] #[]] w (Moves w b off (P++V++M++U++S)):=by
 have H:=γ h;have HN:=γ hN;have LN:(P++U++M++V++S).length=P.length+U.length+M.length+V.length+S.length:=(by simp;omega);have LM:(P++U++M).length=P.length+U.length+M.length:=(by simp;omega);have b1:a+n<=m/\m+n<=N:=(by omega);have HL:=γ (θ ha (θ hm (θ hU hV)));clear h hN ha hm hU hV LN LM;go_enter func242,ntmps242;go_wp2
 go_loopw [10] (fun i wr=> ∃k:Nat,k<=n/\i= .int .i64 k/\RW wr b off (P++V.take k++U.drop k++M++U.take k++V.drop k++S)/\ε (one b) w wr) (fun i _=>n-(intOf i).toNat)
 case atStart=>exact⟨0,by omega,rfl,by simpa using H.o,ε.refl _ _⟩
 case round=>
  obtain⟨k,hk,rfl,hr,hkp⟩:=hrel;by_cases hlt:k<n
  ·obtain⟨L1,L2,L3,L4⟩:=HL.o
   obtain⟨x,hx⟩: ∃x,U.drop k=x::U.drop (k+1):=⟨_,acn (by omega)⟩;obtain⟨y,hy⟩: ∃y,V.drop k=y::V.drop (k+1):=⟨_,acn (by omega)⟩;have hx':U.take (k+1)=U.take k++[x]:=(by have h1:U[k]?=some x:=(by have:=congrArg head? hx;rwa[head?_drop,head?_cons]at this);rw[ψ,h1];rfl);have hy':V.take (k+1)=V.take k++[y]:=(by have h1:V[k]?=some y:=(by have:=congrArg head? hy;rwa[head?_drop,head?_cons]at this);rw[ψ,h1];rfl);rw[hx,hy]at hr;obtain⟨i,hi⟩:=acu (a+k);obtain⟨j,hj⟩:=acu (m+k);have lx:=congrArg length hx;have ly:=congrArg length hy;rw[length_drop,φ]at lx ly;have hi2:(P++V.take k).length=i:=(by rw[ν,υ];omega);have hj2:(P++V.take k++x::U.drop (k+1)++M++U.take k).length=j:=(by simp only[ν,φ,length_drop,υ]at L2⊢;omega);have hlen:(P++V.take k++x::U.drop (k+1)++M++U.take k++y::V.drop (k+1)++S).length=N:=(by have:=HN.o;simp only[ν,φ,length_drop,υ]at L2 this⊢;omega);have hstep:=Yd (S:=S) (V:=V.drop (k+1)) (y:=y) hi2 hj2;have gx:(P++V.take k++x::U.drop (k+1)++M++U.take k++y::V.drop (k+1)++S)[i]?=some x:=(by rw[show P++V.take k++x::U.drop (k+1)++M++U.take k++y::V.drop (k+1)++S=(P++V.take k)++x::(U.drop (k+1)++M++U.take k++y::V.drop (k+1)++S) by simp];exact lG hi2);have gy:(P++V.take k++x::U.drop (k+1)++M++U.take k++y::V.drop (k+1)++S)[j]?=some y:=(by rw[show P++V.take k++x::U.drop (k+1)++M++U.take k++y::V.drop (k+1)++S=(P++V.take k++x::U.drop (k+1)++M++U.take k)++y::(V.drop (k+1)++S) by simp];exact lG hj2);obtain⟨x0,x1,x2⟩:=hr.recs _ _ gx;obtain⟨y0,y1,y2⟩:=hr.recs _ _ gy;have hx1:i<N:=(by omega);have hy1:j<N:=(by omega);obtain⟨fx0,fx1,fx2⟩:=hr.soft i (by omega);obtain⟨fy0,fy1,fy2⟩:=hr.soft j (by omega);have e1:IntKind.i64.wrap ((a:Int)+k)=(i:Int):=(by rw[<-hi];exact bI (n:=a+k) (by omega));have e2:IntKind.i64.wrap ((m:Int)+k)=(j:Int):=(by rw[<-hj];exact bI (n:=m+k) (by omega));have ne:i≠j:=(by omega);have hnext:=hr.swap x y (i:=i) (j:=j) (by omega) (by omega);rw[hstep,<-hx',<-hy']at hnext;have F:=γ (θ hnext (hkp.trans (yL wr b (off+i*3) (off+j*3) x y)));clear hr hnext hstep gx gy hx hy hx' hy' hi2 hj2 hlen hi hj lx ly L1 L2 L3 L4 hkp;go_wp2_with fail;refine fJ [0,1,2,3,4,5,6,7,8,9,10,11,12,13,14,15,16,17,18,19,20,21,22,23] (fun W=>ε η wr W) (by kernel_rfl) (by kernel_rfl) rfl δ.drew ?_;simp only[aco];iterate 21 (first|(apply dZ rfl rfl;(intro W;go_simp;rfl);go_frame)|(apply lJ rfl rfl rfl;(intro W hW;have c0:=hW.cell id x0;have c1:=hW.cell id x1;have c2:=hW.cell id x2;have d0:=hW.cell id y0;have d1:=hW.cell id y1;have d2:=hW.cell id y2;go_simp;rfl);go_frame))
   apply jH rfl rfl rfl;intro K hK;go_wp2_with fail;apply dZ rfl rfl
   ·intro W;go_simp;rfl
   go_frame;apply jH rfl rfl rfl;intro K2 hK2;go_wp2_with fail;apply nT;go_wp2_with fail
   go_roundw
   case rel=>exact⟨k+1,by omega,by go_num,F.o.1.pure δ.drew,F.o.2.drew⟩
   case measure=>simp[intOf];omega
  ·have ek:k=n:=by omega
   subst ek;obtain⟨L1,L2,L3,L4⟩:=HL.o;rw[χ (l:=V) (by omega),χ (l:=U) (by omega),drop_of_length_le (l:=U) (by omega),drop_of_length_le (l:=V) (by omega)]at hr;clear L1 L2 L3 L4;go_wp2_with fail
   go_end0
   exact⟨rfl,by simpa using hr,hkp⟩
theorem Vw (b off cap N a m n:Nat)(P U V S:List Rec)(w:World)(h:RW w b off (P++U++V++S))(hN:(P++U++V++S).length=N)(sK:N<1099511627776)
 (ha:P.length=a) (hm:(P++U).length=m) (hn:(P++U++V).length=n) (hU:U≠[]) (hV:V≠[]):
 Calls prog 214 #[.slice (some ⟨b,off,none⟩) N cap,.int .i64 a,.int .i64 m,.int .i64 n,.func (.func 117) #[] #[]] w (Moves w b off (P++V++U++S)):=by
 have H:=γ h;have HN:=γ hN;have lU:=length_pos_iff.2 hU;have lV:=length_pos_iff.2 hV;have LN:(P++U++V++S).length=P.length+U.length+V.length+S.length:=(by simp;omega);have LM:(P++U).length=P.length+U.length:=(by simp);have LV:(P++U++V).length=P.length+U.length+V.length:=(by simp;omega);have b1:m<N:=(by omega);have e1:IntKind.i64.wrap ((m:Int)-a)=(U.length:Int):=(by rw[show(m:Int)-a=((U.length:Nat):Int) by omega];exact bI (by omega));have e2:IntKind.i64.wrap ((n:Int)-m)=(V.length:Int):=(by rw[show(n:Int)-m=((V.length:Nat):Int) by omega];exact bI (by omega));have HL:=γ (θ ha (θ hm (θ hn (θ lU lV))));clear h hN ha hm hn lU lV LN LM LV hU hV;go_enter func214,ntmps214;go_wp2
 go_loopg [10,11] (U.length+V.length) (fun g i j wr=> ∃(P' U' V' S':List Rec),i= .int .i64 (U'.length:Int)/\j= .int .i64 (V'.length:Int)/\U'.length+V'.length=g/\0<U'.length/\0<V'.length/\(P'++U').length=m/\P'++V'++U'++S'=P++V++U++S/\
  RW wr b off (P'++U'++V'++S')/\ε (one b) w wr)
 case atStart=>exact⟨P,U,V,S,rfl,rfl,rfl,HL.o.2.2.2.1,HL.o.2.2.2.2,HL.o.2.1,rfl,H.o,ε.refl _ _⟩
 case round=>
  obtain⟨P',U',V',S',rfl,rfl,hg,h1,h2,h3,h4,hr,hkp⟩:=hrel;have hlen:(P'++V'++U'++S').length=N:=(by rw[h4,<-HN.o];simp;omega);obtain⟨i,hi⟩:=acu U'.length;obtain⟨j,hj⟩:=acu V'.length;obtain⟨p,hp⟩:=acu P'.length;simp only[ν]at h3 hlen;rw[hi,hj]at hg⊢;rw[hi]at h1 h3;rw[hj]at h2;rw[hp]at h3;rw[hi,hj,hp]at hlen;have e3:IntKind.i64.wrap ((m:Int)-i)=(p:Int):=(by rw[show(m:Int)-i=((p:Nat):Int) by omega];exact bI (by omega));have A:=γ (θ hi (θ hj (θ hp (θ h3 (θ h4 hkp)))));have HS:=γ (show p+j+i+S'.length=N by omega);have HR:=γ hr;have hpN:p+i=m/\m+j<=N:=(by omega);clear hi hj hp h3 h4 hkp hr hlen e1 e2
  rcases Nat.lt_trichotomy i j with hlt|heq|hgt
  ·
   have n1:((i:Int) !=(j:Int))=true:=(by simp;omega);have n2: ¬(j:Int)<(i:Int):=(by omega);have e4:IntKind.i64.wrap ((m:Int)+j)=((m+j:Nat):Int):=bI (by omega);obtain⟨mj,hmj⟩:=acu (m+j);obtain⟨d,hd⟩:=acu (j-i);rw[hmj]at e4;have e5:IntKind.i64.wrap ((mj:Int)-i)=((m+d:Nat):Int):=(by rw[show(mj:Int)-i=((m+d:Nat):Int) by omega];exact bI (by omega));have e6:IntKind.i64.wrap ((j:Int)-i)=(d:Int):=(by rw[show(j:Int)-i=((d:Nat):Int) by omega];exact bI (by omega));have hd0:0<d/\d+i=j:=(by omega);clear hmj hd;obtain⟨V1,V2,rfl,l1,l2⟩: ∃V1 V2,V'=V1++V2/\V1.length=d/\V2.length=i:=⟨V'.take d,V'.drop d,(take_append_drop _ _).symm,by rw[υ];have:=A.o.2.1;omega,by rw[length_drop];have:=A.o.2.1;omega⟩;have L:=γ (θ l1 l2);clear l1 l2;go_wp2_with fail;refine(wR b off cap N p (m+d) i P' U' V1 V2 S' wr (by simpa using HR.o) ?_ sK A.o.2.2.1 ?_ A.o.1 L.o.2).mono ?_
   ·have h5:=A.o;have h6:=HS.o;have h7:=L.o
    simp only[ν]at h5⊢;omega
   ·have h5:=A.o;have h6:=HS.o;have h7:=L.o
    simp only[ν]at h5⊢;omega
   ·rintro e w2 ⟨rfl,hr2,hk2⟩
    have F:RW w2 b off (P'++V2++V1++(U'++S'))/\ε (one b) w w2:=⟨by simpa using hr2,A.o.2.2.2.2.2.trans hk2⟩;have FF:=γ F;clear F hr2 hk2;go_wp2;go_roundg (i+d)
    case rel=>
     refine⟨P',V2,V1,U'++S',?_,?_,?_,?_,?_,?_,?_,FF.o.1,FF.o.2⟩
     ·rw[L.o.2]
     ·rw[L.o.1]
     ·rw[L.o.1,L.o.2]
     ·rw[L.o.2];exact h1
     ·rw[L.o.1];exact hd0.1
     ·rw[ν,L.o.2,A.o.2.2.1];exact hpN.1
     ·rw[<-A.o.2.2.2.2.1];simp
    case measure=>omega
  ·
   subst heq;have n1:((i:Int) !=(i:Int))=false:=(by simp);go_wp2_with fail;refine(wR b off cap N p m i P' U' [] V' S' wr (by simpa using HR.o) ?_ sK A.o.2.2.1 ?_ A.o.1 A.o.2.1).mono ?_
   ·have h5:=A.o;have h6:=HS.o
    simp only[ν,Γ]at h5⊢;omega
   ·have h5:=A.o;have h6:=HS.o
    simp only[ν,Γ]at h5⊢;omega
   ·rintro e w2 ⟨rfl,hr2,hk2⟩
    have F:RW w2 b off (P++V++U++S)/\ε (one b) w w2:=⟨by rw[<-A.o.2.2.2.2.1];simpa using hr2,A.o.2.2.2.2.2.trans hk2⟩;have FF:=γ F;clear F hr2 hk2;go_wp2_with fail
    go_end0
    exact⟨rfl,FF.o.1,FF.o.2⟩
  ·
   have n1:((i:Int) !=(j:Int))=true:=(by simp;omega);have n2:(j:Int)<(i:Int):=(by omega);obtain⟨d,hd⟩:=acu (i-j);have e6:IntKind.i64.wrap ((i:Int)-j)=(d:Int):=(by rw[show(i:Int)-j=((d:Nat):Int) by omega];exact bI (by omega));have hd0:0<d/\d+j=i:=(by omega);clear hd;obtain⟨U1,U2,rfl,l1,l2⟩: ∃U1 U2,U'=U1++U2/\U1.length=j/\U2.length=d:=⟨U'.take j,U'.drop j,(take_append_drop _ _).symm,by rw[υ];have:=A.o.1;omega,by rw[length_drop];have:=A.o.1;omega⟩;have L:=γ (θ l1 l2);clear l1 l2;go_wp2_with fail;refine(wR b off cap N p m j P' U1 U2 V' S' wr (by simpa using HR.o) ?_ sK A.o.2.2.1 ?_ L.o.1 A.o.2.1).mono ?_
   ·have h5:=A.o;have h6:=HS.o;have h7:=L.o
    simp only[ν]at h5⊢;omega
   ·have h5:=A.o;have h6:=HS.o;have h7:=L.o
    simp only[ν]at h5⊢;omega
   ·rintro e w2 ⟨rfl,hr2,hk2⟩
    have F:RW w2 b off (P'++V'++U2++U1++S')/\ε (one b) w w2:=⟨by simpa using hr2,A.o.2.2.2.2.2.trans hk2⟩;have FF:=γ F;clear F hr2 hk2;go_wp2;go_roundg (d+j)
    case rel=>
     refine⟨P'++V',U2,U1,S',?_,?_,?_,?_,?_,?_,?_,FF.o.1,FF.o.2⟩
     ·rw[L.o.2]
     ·rw[L.o.1]
     ·rw[L.o.1,L.o.2]
     ·rw[L.o.2];exact hd0.1
     ·rw[L.o.1];exact h2
     ·rw[ν,ν,L.o.2,A.o.2.2.1,A.o.2.1];omega
     ·rw[<-A.o.2.2.2.2.1];simp
    case measure=>omega
end
