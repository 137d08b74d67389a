/- slices.Equal, slices.Index, slices.Contains over records. -/
import Derived.Test.YtglbkodmmogomaaGreatDoorI12
import Derived.Laws.EntriesVeiled
set_option linter.unusedVariables false
set_option linter.unusedSimpArgs false
set_option maxHeartbeats 1000000
set_option maxRecDepth 100000
namespace Go.Proofs.YtglbkodmmogomaaGreatDoor
section
open Go Go.RowKit
attribute [local irreducible] cZ dX
def Qx (xs ys:List Rec):Bool:=decide (xs=ys)
theorem UK {xs ys:List Rec}{k:Nat}{x y:Rec}(h:xs.take k=ys.take k)(hx:xs[k]?=some x)(hy:ys[k]?=some y)(e:x=y):xs.take (k+1)=ys.take (k+1):=by rw[ψ,ψ,h,hx,hy,e]
theorem ade {xs ys:List Rec}(h:xs.length≠ys.length):Qx xs ys=false:=decide_eq_false (fun e=>h (by rw[e]))
theorem ae8 {xs ys:List Rec}{k:Nat}{x y:Rec}(hx:xs[k]?=some x)(hy:ys[k]?=some y)(h:x≠y):Qx xs ys=false:=
 decide_eq_false (fun e=>by rw[e,hy]at hx;cases hx;exact h rfl)
theorem abe {xs ys:List Rec}{k:Nat}(h:xs.take k=ys.take k)(hk:xs.length<=k)(hl:xs.length=ys.length):Qx xs ys=true:=
 decide_eq_true (by rwa[χ hk,χ (by omega)]at h)
theorem acV {x y:Rec}(h:x≠y):x.pos≠y.pos\/x.key≠y.key\/x.val≠y.val:=by
 by_cases h1:x.pos=y.pos
 ·by_cases h2:x.key=y.key
  ·by_cases h3:x.val=y.val
   ·exfalso;apply h;cases x;cases y;simp only at h1 h2 h3;rw[h1,h2,h3]
   ·exact .inr (.inr h3)
  ·exact .inr (.inl h2)
 ·exact .inl h1
theorem EY (a b:Value)(xs ys:List Rec)(w:World)(ha:Reads w 3 a (recs xs))(hb:Reads w 3 b (recs ys)):
 Calls Tryz.prog 26 #[a,b] w (Gives w (.bool (Qx xs ys))):=by
 obtain⟨pa,ca,rfl,a1,a2,a3⟩:=ha.recAt;obtain⟨pb,cb,rfl,b1,b2,b3⟩:=hb.recAt;unfold maxLen at a2 b2;clear ha hb;by_cases hl:xs.length=ys.length
 ·have hne:(((xs.length:Nat):Int) !=((ys.length:Nat):Int))=false:=by rw[hl];simp
  have A3:=γ a3;have B3:=γ b3;have HL:=γ hl;clear a3 b3 hl;go_enter Tryz.func26,Tryz.ntmps26;go_wp2
  go_loopw [13] (fun i wr=> ∃k:Nat,k<=xs.length/\i= .int .i64 k/\xs.take k=ys.take k/\ε η w wr) (fun i _=>xs.length-(intOf i).toNat)
  case atStart=>exact⟨0,by omega,rfl,by simp,ε.refl _ _⟩
  case round=>
   obtain⟨k,hk,rfl,ht,hkp⟩:=hrel;have HT:=γ ht;clear ht;by_cases hlt:k<xs.length
   ·obtain⟨x,hx⟩: ∃x,xs[k]?=some x:=⟨_,ι hlt⟩
    obtain⟨y,hy⟩: ∃y,ys[k]?=some y:=⟨_,ι (by rw[<-HL.o];exact hlt)⟩;obtain⟨b0,off,rfl,hc⟩:=A3.o.resolve_left (fun h=>by rw[h]at hlt;simp at hlt);obtain⟨b1,off1,rfl,hd⟩:=B3.o.resolve_left (fun h=>by rw[h]at hy;simp at hy);obtain⟨x0,x1,x2⟩:=(hc k x hx).pure hkp;obtain⟨y0,y1,y2⟩:=(hd k y hy).pure hkp;have HX:=γ (θ hx hy);have hlt2:k<ys.length:=(by rw[<-HL.o];exact hlt);clear hc hd hx hy A3 B3;go_wp2_with fail;refine ak [0,1,2,3,4,5,6,7,8] (fun W=>ε η wr W) (by kernel_rfl) (by kernel_rfl) rfl δ.drew ?_;simp only[abU];iterate 8 (apply aj rfl rfl;(intro W hW;have c0:=hW.cell id x0;have c1:=hW.cell id x1;have c2:=hW.cell id x2;have d0:=hW.cell id y0;have d1:=hW.cell id y1;have d2:=hW.cell id y2;go_simp;rfl);go_frame)
    refine aj (v:= .bool (decide (x≠y))) rfl rfl ?_ ?_
    ·intro W hW
     go_simp;by_cases hxy:x=y
     ·subst hxy;simp
     ·rcases acV hxy with h|h|h
      ·simp[h,hxy]
      ·simp[h,hxy]
      ·simp[h,hxy]
    go_frame;refine aG (fun _=>δ.drew) ?_;clear x0 x1 x2 y0 y1 y2;by_cases hxy:x=y
    ·have hf:decide (x≠y)=false:=by simp[hxy]
     rw[hf];have AZ:=γ hxy;clear hxy hf;go_wp2_with fail
     go_roundw
     case rel=>exact⟨k+1,by omega,by go_num,UK HT.o HX.o.1 HX.o.2 AZ.o,hkp.drew⟩
     case measure=>simp[intOf];omega
    ·have hf:decide (x≠y)=true:=by simp[hxy]
     rw[hf];have AZ:=γ hxy;clear hxy hf;go_wp2_with fail;go_ret;exact⟨bK (ae8 HX.o.1 HX.o.2 AZ.o).symm,hkp.drew⟩
   ·go_wp2_with fail
    go_ret;exact⟨bK (abe HT.o (by omega) HL.o).symm,hkp⟩
 ·have hne:(((xs.length:Nat):Int) !=((ys.length:Nat):Int))=true:=by simp;omega
  have HL:=γ hl;clear a3 b3 hl;go_enter Tryz.func26,Tryz.ntmps26;go_wp2;go_ret;exact⟨bK (ade HL.o).symm,ε.refl _ _⟩
end
section
open Go Go.RowKit Go.Shelf
attribute [local irreducible] cZ
theorem JL (v:Value)(cs:List Value)(w:World)(hr:Reads w 3 v cs)(h1: ∀x∈cs,x.oneCell'=true)(hlen:cs.length<=1099511627776):
 Calls Tryz.prog 102 #[v] w (Uk w 68 3 cs):=by
 obtain⟨i0,z0,hi,hz0,hz1,hz2,hz3⟩:=Tryz.info68;obtain⟨a,n,cap,rfl,hn,hc,hl,hp,hcell⟩:=hr.slice;have hnil:=fun(w:World) a n c=>Lib.run_eql_slice_nil (P:=Tryz.prog) w 60 68 a n c 0 0 Tryz.underlying60
 cases a with
 |none=>
  have hcs:cs=[]:=by
   rcases hp with rfl|h|⟨b,off,h⟩
   ·exact τ (by simpa using hl)
   ·cases h
   ·cases h
  subst hcs;clear hcell hp h1 hr;go_enter Tryz.func102,Tryz.ntmps102;go_wp2;go_ret;exact⟨_,0,rfl,World.ownsRow_nil _ _ _ _,rfl,ε.refl _ _⟩
 |some ad=>have H:=γ hr;have HH:=γ hl;have HC:=γ hlen;clear hcell hp hr hl hlen;go_enter Tryz.func102,Tryz.ntmps102;have hnew:(w.alloc (.cells #[] 68)).ownsRow w.heap.size 68 3 (.slice (some ⟨w.heap.size,0,none⟩) 0 0) 0 []:=World.ownsRow_made w #[] 0 (ξ _) (Nat.zero_le _) rfl;have hrd:=H.o.pure ((ε.refl η w).alloc (.cells #[] 68));have N1:=γ hnew;have N2:=γ hrd;clear hnew hrd;have B1:=γ (show(0*3+cs.length)*24<=140737488355328 by have:=HC.o;omega);have B2:=γ (show 0*3+cs.length<=maxLen by have:=HC.o;unfold maxLen;omega);go_wp2_with (at_builtin;(refine jl rfl (.tmp 5) (.tmp 6) 60 rfl w.heap.size 68 i0 z0 3 24 Tryz.underlying60 hi hz0 hz1 hz2 hz3 (by decide) _ 0 [] rfl N1.o _ cs rfl N2.o h1 B1.o B2.o (by simp) ?_);intro v' n' w' g1 g2 g3 g4);go_ret;refine⟨v',n',rfl,g1,by simpa using g2,?_⟩;exact((ε.refl η w).alloc _).new (ε.grown (S:=one w.heap.size) g3 (fun k hk _=>by cases hk;rfl)) (fun k hk e=>by unfold one at e;omega)
def jZ (k:Int):Prop:=k≠6/\k≠7
def jd (nd:dD)(L:List Rec):List Rec:=(aJ nd [] L).1
theorem step_plain {nd:dD}(h:jZ nd.kind)(T:Tab)(r:Rec):aF nd T r=((aF nd [] r).1,T):=by
 obtain⟨h1,h2⟩:=h;unfold aF;split
 ·rfl
 ·split
  ·rfl
  ·split
   ·rfl
   ·split
    ·rfl
    ·first|rfl|(rw[if_neg h1,if_neg h2])
theorem Ah {nd:dD}(h:jZ nd.kind): ∀(L:List Rec)(T:Tab),aJ nd T L=(jd nd L,T)
 |[],T=>rfl
 |r::L,T=>by unfold jd;simp only[aJ];rw[step_plain h T r,step_plain h [] r];simp only[];rw[Ah h L T,Ah h L []]
theorem yu {nd:dD}(h:jZ nd.kind){L:List Rec}{k:Nat}{r:Rec}(hr:L[k]?=some r):jd nd (L.take (k+1))=jd nd (L.take k)++(aF nd [] r).1:=by rw[ψ,hr];show(aJ nd [] (L.take k++[r])).1=_;rw[vK,Ah h]
theorem OB (nd:dD)(T:Tab)(r:Rec):(aF nd T r).1.length<=4:=by
 have hf: ∀x,(iR r (jC x)).length<=4:=fun x=>(by rw[pY];unfold jC;omega);unfold aF
 repeat' split
 all_goals first|exact hf _|simp
theorem Qz (nd:dD): ∀(L:List Rec)(T:Tab),(aJ nd T L).1.length<=4*L.length
 |[],T=>Nat.zero_le _
 |r::L,T=>by simp only[aJ,ν,φ];have:=OB nd T r;have:=Qz nd L (aF nd T r).2;omega
theorem oN (nd:dD)(L:List Rec)(T:Tab)(k:Nat):(aJ nd T (L.take k)).1.length<=4*L.length:=by have h1:=Qz nd (L.take k) T;have h2:=List.length_take_le k L;have h3:=List.length_take_le' k L;omega
theorem iD.init {S:Nat->Prop}{w:World}{na:Array Value}{nd:dD}{v tv:Value}{L:List Rec}(hfree: ∀k,S k->k<w.heap.size/\ ∀c E f,w.heap[k]?≠some (.cells c E f))(hn:dO w na nd)(hr:Reads w 3 v (recs L))(hok: ∀r∈L,bQ r){W:World}
 (hW:((((w.alloc (.cells na 42)).alloc (.cells #[tv] 43)).alloc (.cells #[v] 60)).alloc (.cells #[.slice none 0 0] 60)).alloc (.cells #[.func (.func 104) #[] #[.pointer (some ⟨w.heap.size+1+1+1,0,none⟩)]] 184)=W):
 iD S w W w.heap.size (w.heap.size+1+1) (w.heap.size+1+1+1) (w.heap.size+1+1+1+1) (w.heap.size+5) na nd v L []/\W.heap[w.heap.size+1]?=some (.cells #[tv] 43 (0,0))/\ε η w W/\W.heap.size=w.heap.size+5:=by
 subst hW;have e1:=heap_alloc_new w (.cells na 42);have e2:=heap_alloc_new (w.alloc (.cells na 42)) (.cells #[tv] 43);have e3:=heap_alloc_new ((w.alloc (.cells na 42)).alloc (.cells #[tv] 43)) (.cells #[v] 60);have e4:=heap_alloc_new (((w.alloc (.cells na 42)).alloc (.cells #[tv] 43)).alloc (.cells #[v] 60)) (.cells #[.slice none 0 0] 60);have e5:=heap_alloc_new ((((w.alloc (.cells na 42)).alloc (.cells #[tv] 43)).alloc (.cells #[v] 60)).alloc (.cells #[.slice none 0 0] 60)) (.cells #[.func (.func 104) #[] #[.pointer (some ⟨w.heap.size+1+1+1,0,none⟩)]] 184);simp only[World.size_alloc]at e1 e2 e3 e4 e5;have kk: ∀(w:World)(o:Obj),ε η w (w.alloc o):=fun w o=>δ.alloc _;have no: ∀k,¬η k:=fun _ h=>h;have f1:=(kk _ (.cells #[.func (.func 104) #[] #[.pointer (some ⟨w.heap.size+1+1+1,0,none⟩)]] 184)).heap ((kk _ (.cells #[.slice none 0 0] 60)).heap ((kk _ (.cells #[v] 60)).heap ((kk _ (.cells #[tv] 43)).heap e1 (no _)) (no _)) (no _)) (no _);have f2:=(kk _ (.cells #[.func (.func 104) #[] #[.pointer (some ⟨w.heap.size+1+1+1,0,none⟩)]] 184)).heap ((kk _ (.cells #[.slice none 0 0] 60)).heap ((kk _ (.cells #[v] 60)).heap e2 (no _)) (no _)) (no _);have f3:=(kk _ (.cells #[.func (.func 104) #[] #[.pointer (some ⟨w.heap.size+1+1+1,0,none⟩)]] 184)).heap ((kk _ (.cells #[.slice none 0 0] 60)).heap e3 (no _)) (no _);have f4:=(kk _ (.cells #[.func (.func 104) #[] #[.pointer (some ⟨w.heap.size+1+1+1,0,none⟩)]] 184)).heap e4 (no _);have Pz:=(((kk w (.cells na 42)).trans (kk _ (.cells #[tv] 43))).trans (kk _ (.cells #[v] 60))).trans ((kk _ (.cells #[.slice none 0 0] 60)).trans (kk _ (.cells #[.func (.func 104) #[] #[.pointer (some ⟨w.heap.size+1+1+1,0,none⟩)]] 184)));exact⟨⟨hfree,Pz.pure,hn,hr,hok,f1,f3,e5,⟨_,f4,World.ownsRow_nil _ _ _ _,fun k hk=>by cases hk⟩,⟨by omega,by omega,by omega,by omega⟩,⟨by omega,by omega,by omega,by omega,by simp⟩,⟨by omega,by omega,by omega⟩⟩,f2,Pz,by simp⟩
def x9 (w:World)(out:List Rec)(e:Ending)(w':World):Prop:= ∃v,e= .returned v/\Reads w' 3 v (recs out)/\(∀b,Value.blk v=some b->w.heap.size<=b)/\ε η w w'
theorem iD.fin {w W:World}{Bn Bi Bo Bg base:Nat}{na:Array Value}{nd:dD}{v:Value}{L out:List Rec}{S:Nat->Prop}(h:iD S w W Bn Bi Bo Bg base na nd v L out):
 ∃a cap,W.cell? ⟨Bo,0,none⟩=some (.slice a out.length cap)/\Reads W 3 (.slice a out.length cap) (recs out)/\ ∀b,Value.blk (.slice a out.length cap)=some b->w.heap.size<=b:=by
 obtain⟨u,h1,h2,h3⟩:=h.out;obtain⟨a,cap,rfl⟩:=au h2;exact⟨a,cap,ζ h1 rfl,Reads.aN h2,fun b hb=>by have:=(nZ h2 hb).1;have:=h.lo;have:=h.hi;omega⟩
theorem step_map {nd:dD}(h:nd.kind=2)(r:Rec):(aF nd [] r).1=[{r with val:=dA nd.x (aI r)}]:=by unfold aF;rw[if_pos h]
theorem afd (na:Array Value)(nd:dD)(tv v:Value)(L:List Rec)(w:World)(hn:dO w na nd)(hk:nd.kind=2)(hr:Reads w 3 v (recs L))(hok: ∀r∈L,bQ r)(hlen:L.length<=100000000)(ht: ∃p,tv= .pointer p):
 Calls Tryz.prog 69 #[.agg na,tv,v] w (x9 w (jd nd L)):=by
 obtain⟨tp,rfl⟩:=ht;obtain⟨va,dG,rfl,hv1,hv2⟩:=hr.len;obtain⟨uid,inv,p,cap,rfl,hx,hk0,hk1,mV⟩:=hn;have hp:jZ nd.kind:=(by unfold jZ;rw[hk];omega);have N:=γ (show dO w _ nd from⟨uid,inv,p,cap,rfl,hx,hk0,hk1,mV⟩);have HR:=γ hr;have fU:=γ hok;have HP:=γ hp;have HK:=γ hk;obtain⟨kk,hkk⟩: ∃kk,nd.kind=kk:=⟨_,rfl⟩;rw[hkk]at hk N⊢;subst hk;have HKK:=γ hkk;clear hx hr hok hp hkk hk0 hk1;go_enter Tryz.func69,Tryz.ntmps69;go_wp2_with fail;obtain⟨W0,hW0⟩: ∃W0,((((w.alloc (.cells #[.string uid,.int .u8 2,inv,.int .u8 nd.x.op,.int .i64 nd.x.n,.slice p nd.x.args.length cap,.int .i64 nd.n] 42)).alloc (.cells #[.pointer tp] 43)).alloc (.cells #[.slice va L.length dG] 60)).alloc (.cells #[.slice none 0 0] 60)).alloc (.cells #[.func (.func 104) #[] #[.pointer (some ⟨w.heap.size+1+1+1,0,none⟩)]] 184)=W0:=⟨_,rfl⟩;rw[hW0];obtain⟨i1,i2,i3,i4⟩:=iD.init (S:=η) (fun _ h=>h.elim) N.o HR.o fU.o hW0;have c:=uO 105 #[.pointer (some ⟨w.heap.size,0,none⟩),.pointer (some ⟨w.heap.size+1+1+1+1,0,none⟩)] L (.slice va L.length dG) (w.heap.size+1+1) (fun k w'=>iD η w w' w.heap.size (w.heap.size+1+1) (w.heap.size+1+1+1) (w.heap.size+1+1+1+1) (w.heap.size+5) _ nd (.slice va L.length dG) L (jd nd (L.take k))) W0
  (enters_of Tryz.func105 (by kernel_rfl) rfl) (fun k w' h=>⟨ζ h.ins rfl,h.reads⟩) (fun k w' o h=>h.alloc o) i1 (fun k r w' hr h=>by
    have hs:=yu HP.o hr;rw[step_map HK.o r]at hs;have hl:=oN nd L [] k;show Calls Tryz.prog 105 #[sS r,eU (aI r),.pointer (some ⟨w.heap.size,0,none⟩),.pointer (some ⟨w.heap.size+1+1+1+1,0,none⟩)] w' _;refine(abl h r (fU.o r (ς hr)) (by unfold jd;omega)).mono ?_;rintro e w2 ⟨rfl,h2⟩;rw[<-hs]at h2
    exact⟨rfl,h2⟩)
 (with_reducible refine c.mono ?_);clear c;rintro e W1 ⟨rfl,d1⟩;rw[χ (ξ _)]at d1;obtain⟨a,rC,r1,r2,r3⟩:=d1.fin;have F:=γ (show x9 w (jd nd L) (.returned (.slice a (jd nd L).length rC)) W1 from⟨_,rfl,r2,r3,d1.kept⟩);clear d1 r2 r3 i1 i2 i3 i4 hW0;go_wp2_with fail;go_ret;exact F.o
theorem aad {nd:dD}(h:nd.kind=5)(r:Rec):(aF nd [] r).1=[{r with key:=dA nd.x (aI r)}]:=by unfold aF;rw[if_neg (by omega),if_pos h]
theorem afe (na:Array Value)(nd:dD)(tv v:Value)(L:List Rec)(w:World)(hn:dO w na nd)(hk:nd.kind=5)(hr:Reads w 3 v (recs L))(hok: ∀r∈L,bQ r)(hlen:L.length<=100000000)(ht: ∃p,tv= .pointer p):
 Calls Tryz.prog 69 #[.agg na,tv,v] w (x9 w (jd nd L)):=by
 obtain⟨tp,rfl⟩:=ht;obtain⟨va,dG,rfl,hv1,hv2⟩:=hr.len;obtain⟨uid,inv,p,cap,rfl,hx,hk0,hk1,mV⟩:=hn;have hp:jZ nd.kind:=(by unfold jZ;rw[hk];omega);have N:=γ (show dO w _ nd from⟨uid,inv,p,cap,rfl,hx,hk0,hk1,mV⟩);have HR:=γ hr;have fU:=γ hok;have HP:=γ hp;have HK:=γ hk;obtain⟨kk,hkk⟩: ∃kk,nd.kind=kk:=⟨_,rfl⟩;rw[hkk]at hk N⊢;subst hk;have HKK:=γ hkk;clear hx hr hok hp hkk hk0 hk1;go_enter Tryz.func69,Tryz.ntmps69;go_wp2_with fail;obtain⟨W0,hW0⟩: ∃W0,((((w.alloc (.cells #[.string uid,.int .u8 5,inv,.int .u8 nd.x.op,.int .i64 nd.x.n,.slice p nd.x.args.length cap,.int .i64 nd.n] 42)).alloc (.cells #[.pointer tp] 43)).alloc (.cells #[.slice va L.length dG] 60)).alloc (.cells #[.slice none 0 0] 60)).alloc (.cells #[.func (.func 104) #[] #[.pointer (some ⟨w.heap.size+1+1+1,0,none⟩)]] 184)=W0:=⟨_,rfl⟩;rw[hW0];obtain⟨i1,i2,i3,i4⟩:=iD.init (S:=η) (fun _ h=>h.elim) N.o HR.o fU.o hW0;have c:=uO 107 #[.pointer (some ⟨w.heap.size,0,none⟩),.pointer (some ⟨w.heap.size+1+1+1+1,0,none⟩)] L (.slice va L.length dG) (w.heap.size+1+1) (fun k w'=>iD η w w' w.heap.size (w.heap.size+1+1) (w.heap.size+1+1+1) (w.heap.size+1+1+1+1) (w.heap.size+5) _ nd (.slice va L.length dG) L (jd nd (L.take k))) W0
  (enters_of Tryz.func107 (by kernel_rfl) rfl) (fun k w' h=>⟨ζ h.ins rfl,h.reads⟩) (fun k w' o h=>h.alloc o) i1 (fun k r w' hr h=>by
    have hs:=yu HP.o hr;rw[aad HK.o r]at hs;have hl:=oN nd L [] k;show Calls Tryz.prog 107 #[sS r,eU (aI r),.pointer (some ⟨w.heap.size,0,none⟩),.pointer (some ⟨w.heap.size+1+1+1+1,0,none⟩)] w' _;refine(abm h r (fU.o r (ς hr)) (by unfold jd;omega)).mono ?_;rintro e w2 ⟨rfl,h2⟩;rw[<-hs]at h2
    exact⟨rfl,h2⟩)
 (with_reducible refine c.mono ?_);clear c;rintro e W1 ⟨rfl,d1⟩;rw[χ (ξ _)]at d1;obtain⟨a,rC,r1,r2,r3⟩:=d1.fin;have F:=γ (show x9 w (jd nd L) (.returned (.slice a (jd nd L).length rC)) W1 from⟨_,rfl,r2,r3,d1.kept⟩);clear d1 r2 r3 i1 i2 i3 i4 hW0;go_wp2_with fail;go_ret;exact F.o
theorem step_filter {nd:dD}(h:nd.kind=3)(r:Rec):(aF nd [] r).1=VJ (nM nd.x (aI r)) r:=by unfold aF;rw[if_neg (by omega),if_neg (by omega),if_pos h];rfl
theorem Zr (na:Array Value)(nd:dD)(tv v:Value)(L:List Rec)(w:World)(hn:dO w na nd)(hk:nd.kind=3)(hr:Reads w 3 v (recs L))(hok: ∀r∈L,bQ r)(hlen:L.length<=100000000)(ht: ∃p,tv= .pointer p):
 Calls Tryz.prog 69 #[.agg na,tv,v] w (x9 w (jd nd L)):=by
 obtain⟨tp,rfl⟩:=ht;obtain⟨va,dG,rfl,hv1,hv2⟩:=hr.len;obtain⟨uid,inv,p,cap,rfl,hx,hk0,hk1,mV⟩:=hn;have hp:jZ nd.kind:=(by unfold jZ;rw[hk];omega);have N:=γ (show dO w _ nd from⟨uid,inv,p,cap,rfl,hx,hk0,hk1,mV⟩);have HR:=γ hr;have fU:=γ hok;have HP:=γ hp;have HK:=γ hk;obtain⟨kk,hkk⟩: ∃kk,nd.kind=kk:=⟨_,rfl⟩;rw[hkk]at hk N⊢;subst hk;have HKK:=γ hkk;clear hx hr hok hp hkk hk0 hk1;go_enter Tryz.func69,Tryz.ntmps69;go_wp2_with fail;obtain⟨W0,hW0⟩: ∃W0,((((w.alloc (.cells #[.string uid,.int .u8 3,inv,.int .u8 nd.x.op,.int .i64 nd.x.n,.slice p nd.x.args.length cap,.int .i64 nd.n] 42)).alloc (.cells #[.pointer tp] 43)).alloc (.cells #[.slice va L.length dG] 60)).alloc (.cells #[.slice none 0 0] 60)).alloc (.cells #[.func (.func 104) #[] #[.pointer (some ⟨w.heap.size+1+1+1,0,none⟩)]] 184)=W0:=⟨_,rfl⟩;rw[hW0];obtain⟨i1,i2,i3,i4⟩:=iD.init (S:=η) (fun _ h=>h.elim) N.o HR.o fU.o hW0;have c:=uO 108 #[.pointer (some ⟨w.heap.size,0,none⟩),.pointer (some ⟨w.heap.size+1+1+1+1,0,none⟩)] L (.slice va L.length dG) (w.heap.size+1+1) (fun k w'=>iD η w w' w.heap.size (w.heap.size+1+1) (w.heap.size+1+1+1) (w.heap.size+1+1+1+1) (w.heap.size+5) _ nd (.slice va L.length dG) L (jd nd (L.take k))) W0
  (enters_of Tryz.func108 (by kernel_rfl) rfl) (fun k w' h=>⟨ζ h.ins rfl,h.reads⟩) (fun k w' o h=>h.alloc o) i1 (fun k r w' hr h=>by
    have hs:=yu HP.o hr;rw[step_filter HK.o r]at hs;have hl:=oN nd L [] k;show Calls Tryz.prog 108 #[sS r,eU (aI r),.pointer (some ⟨w.heap.size,0,none⟩),.pointer (some ⟨w.heap.size+1+1+1+1,0,none⟩)] w' _;refine(SQ h r (fU.o r (ς hr)) (by unfold jd;omega)).mono ?_;rintro e w2 ⟨rfl,h2⟩;rw[<-hs]at h2
    exact⟨rfl,h2⟩)
 (with_reducible refine c.mono ?_);clear c;rintro e W1 ⟨rfl,d1⟩;rw[χ (ξ _)]at d1;obtain⟨a,rC,r1,r2,r3⟩:=d1.fin;have F:=γ (show x9 w (jd nd L) (.returned (.slice a (jd nd L).length rC)) W1 from⟨_,rfl,r2,r3,d1.kept⟩);clear d1 r2 r3 i1 i2 i3 i4 hW0;go_wp2_with fail;go_ret;exact F.o
theorem XM {nd:dD}(h:nd.kind=4)(r:Rec):(aF nd [] r).1=iR r (jC (dA nd.x (aI r))):=by unfold aF;rw[if_neg (by omega),if_neg (by omega),if_neg (by omega),if_pos h]
theorem adg (na:Array Value)(nd:dD)(tv v:Value)(L:List Rec)(w:World)(hn:dO w na nd)(hk:nd.kind=4)(hr:Reads w 3 v (recs L))(hok: ∀r∈L,bQ r)(hlen:L.length<=100000000)(ht: ∃p,tv= .pointer p):
 Calls Tryz.prog 69 #[.agg na,tv,v] w (x9 w (jd nd L)):=by
 obtain⟨tp,rfl⟩:=ht;obtain⟨va,dG,rfl,hv1,hv2⟩:=hr.len;obtain⟨uid,inv,p,cap,rfl,hx,hk0,hk1,mV⟩:=hn;have hp:jZ nd.kind:=(by unfold jZ;rw[hk];omega);have N:=γ (show dO w _ nd from⟨uid,inv,p,cap,rfl,hx,hk0,hk1,mV⟩);have HR:=γ hr;have fU:=γ hok;have HP:=γ hp;have HK:=γ hk;obtain⟨kk,hkk⟩: ∃kk,nd.kind=kk:=⟨_,rfl⟩;rw[hkk]at hk N⊢;subst hk;have HKK:=γ hkk;clear hx hr hok hp hkk hk0 hk1;go_enter Tryz.func69,Tryz.ntmps69;go_wp2_with fail;obtain⟨W0,hW0⟩: ∃W0,((((w.alloc (.cells #[.string uid,.int .u8 4,inv,.int .u8 nd.x.op,.int .i64 nd.x.n,.slice p nd.x.args.length cap,.int .i64 nd.n] 42)).alloc (.cells #[.pointer tp] 43)).alloc (.cells #[.slice va L.length dG] 60)).alloc (.cells #[.slice none 0 0] 60)).alloc (.cells #[.func (.func 104) #[] #[.pointer (some ⟨w.heap.size+1+1+1,0,none⟩)]] 184)=W0:=⟨_,rfl⟩;rw[hW0];obtain⟨i1,i2,i3,i4⟩:=iD.init (S:=η) (fun _ h=>h.elim) N.o HR.o fU.o hW0;have c:=uO 110 #[.pointer (some ⟨w.heap.size,0,none⟩),.pointer (some ⟨w.heap.size+1+1+1+1,0,none⟩)] L (.slice va L.length dG) (w.heap.size+1+1) (fun k w'=>iD η w w' w.heap.size (w.heap.size+1+1) (w.heap.size+1+1+1) (w.heap.size+1+1+1+1) (w.heap.size+5) _ nd (.slice va L.length dG) L (jd nd (L.take k))) W0
  (enters_of Tryz.func110 (by kernel_rfl) rfl) (fun k w' h=>⟨ζ h.ins rfl,h.reads⟩) (fun k w' o h=>h.alloc o) i1 (fun k r w' hr h=>by
    have hs:=yu HP.o hr;rw[XM HK.o r]at hs;have hl:=oN nd L [] k;show Calls Tryz.prog 110 #[sS r,eU (aI r),.pointer (some ⟨w.heap.size,0,none⟩),.pointer (some ⟨w.heap.size+1+1+1+1,0,none⟩)] w' _;refine(Zu h r (fU.o r (ς hr)) (by unfold jd;omega)).mono ?_;rintro e w2 ⟨rfl,h2⟩;rw[<-hs]at h2
    exact⟨rfl,h2⟩)
 (with_reducible refine c.mono ?_);clear c;rintro e W1 ⟨rfl,d1⟩;rw[χ (ξ _)]at d1;obtain⟨a,rC,r1,r2,r3⟩:=d1.fin;have F:=γ (show x9 w (jd nd L) (.returned (.slice a (jd nd L).length rC)) W1 from⟨_,rfl,r2,r3,d1.kept⟩);clear d1 r2 r3 i1 i2 i3 i4 hW0;go_wp2_with fail;go_ret;exact F.o
theorem step_other {nd:dD}(h:jZ nd.kind)(h':nd.kind≠2/\nd.kind≠3/\nd.kind≠4/\nd.kind≠5)(r:Rec):(aF nd [] r).1=[r]:=by obtain⟨h1,h2⟩:=h;obtain⟨a,b,c,d⟩:=h';unfold aF;rw[if_neg a,if_neg d,if_neg b,if_neg c,if_neg h1,if_neg h2]
theorem FU {nd:dD}(h:jZ nd.kind)(h':nd.kind≠2/\nd.kind≠3/\nd.kind≠4/\nd.kind≠5): ∀L:List Rec,jd nd L=L
 |[]=>rfl
 |r::L=>by have:=FU h h' L;unfold jd at this⊢;simp only[aJ];rw[step_other h h',step_plain h [] r,this];rfl
theorem abg (na:Array Value)(nd:dD)(tv v:Value)(L:List Rec)(w:World)(hn:dO w na nd)(hp:jZ nd.kind)(hk:nd.kind≠2/\nd.kind≠3/\nd.kind≠4/\nd.kind≠5)(hr:Reads w 3 v (recs L))(hok: ∀r∈L,bQ r)(hlen:L.length<=100000000)(ht: ∃p,tv= .pointer p):
 Calls Tryz.prog 69 #[.agg na,tv,v] w (x9 w (jd nd L)):=by
 rw[FU hp hk];obtain⟨tp,rfl⟩:=ht;obtain⟨va,dG,rfl,hv1,hv2⟩:=hr.len;obtain⟨uid,inv,p,cap,rfl,hx,hk0,hk1,mV⟩:=hn;have N:=γ (show dO w _ nd from⟨uid,inv,p,cap,rfl,hx,hk0,hk1,mV⟩);have HR:=γ hr;have fU:=γ hok;obtain⟨p6,p7⟩:=hp;obtain⟨p2,p3,p4,p5⟩:=hk;have q2:(nd.kind==2)=false:=(by simp[p2]);have q3:(nd.kind==3)=false:=(by simp[p3]);have q4:(nd.kind==4)=false:=(by simp[p4]);have q5:(nd.kind==5)=false:=(by simp[p5]);have q6:(nd.kind==6)=false:=(by simp[p6]);have q7:(nd.kind==7)=false:=(by simp[p7]);clear hx hr hok p2 p3 p4 p5 p6 p7;go_enter Tryz.func69,Tryz.ntmps69;go_wp2_with fail;obtain⟨W0,hW0⟩: ∃W0,((((w.alloc (.cells #[.string uid,.int .u8 nd.kind,inv,.int .u8 nd.x.op,.int .i64 nd.x.n,.slice p nd.x.args.length cap,.int .i64 nd.n] 42)).alloc (.cells #[.pointer tp] 43)).alloc (.cells #[.slice va L.length dG] 60)).alloc (.cells #[.slice none 0 0] 60)).alloc (.cells #[.func (.func 104) #[] #[.pointer (some ⟨w.heap.size+1+1+1,0,none⟩)]] 184)=W0:=⟨_,rfl⟩;rw[hW0];obtain⟨i1,i2,i3,i4⟩:=iD.init (S:=η) (fun _ h=>h.elim) N.o HR.o fU.o hW0;have c:=JL (.slice va L.length dG) (recs L) W0 (HR.o.pure i3) (qZ L) (by rw[aQ];omega);(with_reducible refine c.mono ?_);clear c;rintro e W1 ⟨v',n',rfl,g1,g2,g3⟩;obtain⟨oa,oc,rfl⟩:=au g1;rw[aQ]at g2;have hn':n'=L.length:=(by omega);subst hn';obtain⟨u,h1,h2,h3⟩:=i1.out;have hB:=g3.heap h1 id;have s0:W1.cell? ⟨w.heap.size+1+1+1,0,none⟩=some u:=ζ hB rfl;have s1:=free_at hB 0;have hrow:=Reads.aN g1;have BQ:ε (one (w.heap.size+1+1+1)) W1 (W1.setCell ⟨w.heap.size+1+1+1,0,none⟩ (.slice oa L.length oc)):=(ε.refl (one (w.heap.size+1+1+1)) W1).setCell (p:=⟨w.heap.size+1+1+1,0,none⟩) (.inl rfl) _
 have F:=γ (show x9 w L (.returned (.slice oa L.length oc)) (W1.setCell ⟨w.heap.size+1+1+1,0,none⟩ (.slice oa L.length oc))from
  ⟨_,rfl,hrow.kept BQ (fun b hb e=>by have:=(nZ g1 hb).1;unfold one at e;omega),fun b hb=>by have:=(nZ g1 hb).1;omega,(i3.trans g3).new BQ (fun i hi e=>by unfold one at e;omega)⟩)
 clear g1 g2 g3 hB h1 h2 h3 hrow BQ i1 i2 i3 hW0;go_wp2_with fail;go_ret;exact F.o
theorem Iq (na:Array Value)(nd:dD)(tv v:Value)(L:List Rec)(w:World)(hn:dO w na nd)(hp:jZ nd.kind)(hr:Reads w 3 v (recs L))(hok: ∀r∈L,bQ r)(hlen:L.length<=100000000)(ht: ∃p,tv= .pointer p):
 Calls Tryz.prog 69 #[.agg na,tv,v] w (x9 w (jd nd L)):=by
 by_cases h2:nd.kind=2
 ·exact afd na nd tv v L w hn h2 hr hok hlen ht
 ·by_cases h5:nd.kind=5
  ·exact afe na nd tv v L w hn h5 hr hok hlen ht
  ·by_cases h3:nd.kind=3
   ·exact Zr na nd tv v L w hn h3 hr hok hlen ht
   ·by_cases h4:nd.kind=4
    ·exact adg na nd tv v L w hn h4 hr hok hlen ht
    ·exact abg na nd tv v L w hn hp ⟨h2,h3,h4,h5⟩ hr hok hlen ht
abbrev yU:Nat->Prop:=fun _=>True
theorem TabAt.any {w:World}{M:Nat->Prop}{b m:Nat}{T:Tab}(h:TabAt w M b m T):TabAt w yU b m T:=h.mono (fun _ _ _=>trivial)
theorem TabAt.jT {w:World}{M:Nat->Prop}{b m:Nat}{T:Tab}(h:TabAt w M b m T): ∀c E f,w.heap[m]?≠some (.cells c E f):=by obtain⟨l,hl,_⟩:=h.map;obtain⟨L,cl,hL,_⟩:=hl;intro c E f e;rw[hL.heap]at e;cases e
def Q9 (M:Nat->Prop)(w:World)(tb tm:Nat)(out:List Rec)(T:Tab)(e:Ending)(w':World):Prop:=
 ∃v,e= .returned v/\Reads w' 3 v (recs out)/\(∀b,Value.blk v=some b->w.heap.size<=b)/\TabAt w' (fun k=>M k\/w.heap.size<=k) tb tm T/\ε (one tm) w w'
theorem Rl {nd:dD}(h:nd.kind=6)(T:Tab)(r:Rec):aF nd T r=(EH T r (dA nd.x {aI r with acc:=(cellOf T r.key).1}),dH T r.key (dA nd.x {aI r with acc:=(cellOf T r.key).1},[])):=by unfold aF EH;rw[if_neg (by omega),if_neg (by omega),if_neg (by omega),if_neg (by omega),if_pos h]
theorem Rk {nd:dD}(h:nd.kind=7)(T:Tab)(r:Rec):aF nd T r=(Eo T r nd.n ((cellOf T r.key).2++[r.val]),En T r nd.n (cellOf T r.key).1 ((cellOf T r.key).2++[r.val])):=by unfold aF Eo En Ep;rw[if_neg (by omega),if_neg (by omega),if_neg (by omega),if_neg (by omega),if_neg (by omega),if_pos h,ν];simp only[φ,Γ,Nat.zero_add];split<;>rfl
theorem Ec {nd:dD}{T:Tab}{L:List Rec}{k:Nat}{r:Rec}(hr:L[k]?=some r):aJ nd T (L.take (k+1))=((aJ nd T (L.take k)).1++(aF nd (aJ nd T (L.take k)).2 r).1,(aF nd (aJ nd T (L.take k)).2 r).2):=by rw[ψ,hr];exact vK nd r (L.take k) T
theorem Zq (na:Array Value)(nd:dD)(tb tm:Nat)(T:Tab)(M:Nat->Prop)(v:Value)(L:List Rec)(w:World)(hn:dO w na nd)(hk:nd.kind=6)(hr:Reads w 3 v (recs L))(hok: ∀r∈L,bQ r)(hlen:L.length<=100000000)(ht:TabAt w M tb tm T):
 Calls Tryz.prog 69 #[.agg na,.pointer (some ⟨tb,0,none⟩),v] w (Q9 M w tb tm (aJ nd T L).1 (aJ nd T L).2):=by
 obtain⟨va,dG,rfl,hv1,hv2⟩:=hr.len;obtain⟨uid,inv,p,cap,rfl,hx,hk0,hk1,mV⟩:=hn;have htl:=ht.lt;have N:=γ (show dO w _ nd from⟨uid,inv,p,cap,rfl,hx,hk0,hk1,mV⟩);have HR:=γ hr;have fU:=γ hok;have HK:=γ hk;have HT:=γ ht;obtain⟨kk,hkk⟩: ∃kk,nd.kind=kk:=⟨_,rfl⟩;rw[hkk]at hk N⊢;subst hk;have HKK:=γ hkk;clear hx hr hok hkk hk0 hk1 ht;go_enter Tryz.func69,Tryz.ntmps69;go_wp2_with fail;obtain⟨W0,hW0⟩: ∃W0,((((w.alloc (.cells #[.string uid,.int .u8 6,inv,.int .u8 nd.x.op,.int .i64 nd.x.n,.slice p nd.x.args.length cap,.int .i64 nd.n] 42)).alloc (.cells #[.pointer (some ⟨tb,0,none⟩)] 43)).alloc (.cells #[.slice va L.length dG] 60)).alloc (.cells #[.slice none 0 0] 60)).alloc (.cells #[.func (.func 104) #[] #[.pointer (some ⟨w.heap.size+1+1+1,0,none⟩)]] 184)=W0:=⟨_,rfl⟩;rw[hW0];obtain⟨i1,i2,i3,i4⟩:=iD.init (S:=one tm) (fun k h=>by unfold one at h;subst h;exact⟨htl.1,HT.o.jT⟩) N.o HR.o fU.o hW0;have i5:uS M w W0 w.heap.size (w.heap.size+1+1) (w.heap.size+1+1+1) (w.heap.size+1+1+1+1) (w.heap.size+1) (w.heap.size+5) tb tm #[.string uid,.int .u8 6,inv,.int .u8 nd.x.op,.int .i64 nd.x.n,.slice p nd.x.args.length cap,.int .i64 nd.n] nd (.slice va L.length dG) L [] T:=(by refine⟨i1,i2,⟨by omega,by omega,by omega,htl.1⟩,⟨fun _=>False,fun k=>M k/\k<w.heap.size,?_,(HT.o.mono (fun k h hl=>⟨h,hl⟩)).pure i3,fun _ h=>h.elim,fun h=>by omega,fun _ h=>h.elim,fun k h=> .inl h.1⟩⟩;obtain⟨u,h1,h2,h3⟩:=i1.out;refine⟨u,h1,h2,fun k hk=>?_⟩;have e1:=(aU h2 hk).1;have e2:=(aU h2 hk).2;omega);have c:=uO 111 #[.pointer (some ⟨w.heap.size+1,0,none⟩),.pointer (some ⟨w.heap.size,0,none⟩),.pointer (some ⟨w.heap.size+1+1+1+1,0,none⟩)] L (.slice va L.length dG) (w.heap.size+1+1) (fun k w'=>uS M w w' w.heap.size (w.heap.size+1+1) (w.heap.size+1+1+1) (w.heap.size+1+1+1+1) (w.heap.size+1) (w.heap.size+5) tb tm _ nd (.slice va L.length dG) L (aJ nd T (L.take k)).1 (aJ nd T (L.take k)).2) W0
  (enters_of Tryz.func111 (by kernel_rfl) rfl) (fun k w' h=>⟨ζ h.st.ins rfl,h.st.reads⟩) (fun k w' o h=>h.alloc o) i5 (fun k r w' hr h=>by
    have hs:=Ec (nd:=nd) (T:=T) hr;rw[Rl HK.o]at hs;have hl:=oN nd L T k;show Calls Tryz.prog 111 #[sS r,eU (aI r),.pointer (some ⟨w.heap.size+1,0,none⟩),.pointer (some ⟨w.heap.size,0,none⟩),.pointer (some ⟨w.heap.size+1+1+1+1,0,none⟩)] w' _;refine(SN h r (fU.o r (ς hr)) (by omega)).mono ?_;rintro e w2 ⟨rfl,h2⟩;refine⟨rfl,?_⟩;simp only[hs]
    exact h2)
 (with_reducible refine c.mono ?_);clear c;rintro e W1 ⟨rfl,d1⟩;rw[χ (ξ _)]at d1;obtain⟨a,rC,r1,r2,r3⟩:=d1.st.fin;obtain⟨A,M',_,t1,_,_,_,t1m⟩:=d1.sep;have F:=γ (show Q9 M w tb tm (aJ nd T L).1 (aJ nd T L).2 (.returned (.slice a (aJ nd T L).1.length rC)) W1 from⟨_,rfl,r2,r3,t1.mono (fun k hk _=>(t1m k hk).imp id (fun h=>by omega)),d1.st.kept⟩);clear d1 r2 r3 i1 i2 i3 i4 i5 hW0 t1;go_wp2_with fail;go_ret;exact F.o
theorem Zp (na:Array Value)(nd:dD)(tb tm:Nat)(T:Tab)(M:Nat->Prop)(v:Value)(L:List Rec)(w:World)(hn:dO w na nd)(hk:nd.kind=7)(hr:Reads w 3 v (recs L))(hok: ∀r∈L,bQ r)(hlen:L.length<=100000000)(ht:TabAt w M tb tm T):
 Calls Tryz.prog 69 #[.agg na,.pointer (some ⟨tb,0,none⟩),v] w (Q9 M w tb tm (aJ nd T L).1 (aJ nd T L).2):=by
 obtain⟨va,dG,rfl,hv1,hv2⟩:=hr.len;obtain⟨uid,inv,p,cap,rfl,hx,hk0,hk1,mV⟩:=hn;have htl:=ht.lt;have N:=γ (show dO w _ nd from⟨uid,inv,p,cap,rfl,hx,hk0,hk1,mV⟩);have HR:=γ hr;have fU:=γ hok;have HK:=γ hk;have HT:=γ ht;obtain⟨kk,hkk⟩: ∃kk,nd.kind=kk:=⟨_,rfl⟩;rw[hkk]at hk N⊢;subst hk;have HKK:=γ hkk;clear hx hr hok hkk hk0 hk1 ht;go_enter Tryz.func69,Tryz.ntmps69;go_wp2_with fail;obtain⟨W0,hW0⟩: ∃W0,((((w.alloc (.cells #[.string uid,.int .u8 7,inv,.int .u8 nd.x.op,.int .i64 nd.x.n,.slice p nd.x.args.length cap,.int .i64 nd.n] 42)).alloc (.cells #[.pointer (some ⟨tb,0,none⟩)] 43)).alloc (.cells #[.slice va L.length dG] 60)).alloc (.cells #[.slice none 0 0] 60)).alloc (.cells #[.func (.func 104) #[] #[.pointer (some ⟨w.heap.size+1+1+1,0,none⟩)]] 184)=W0:=⟨_,rfl⟩;rw[hW0];obtain⟨i1,i2,i3,i4⟩:=iD.init (S:=one tm) (fun k h=>by unfold one at h;subst h;exact⟨htl.1,HT.o.jT⟩) N.o HR.o fU.o hW0;have i5:uS M w W0 w.heap.size (w.heap.size+1+1) (w.heap.size+1+1+1) (w.heap.size+1+1+1+1) (w.heap.size+1) (w.heap.size+5) tb tm #[.string uid,.int .u8 7,inv,.int .u8 nd.x.op,.int .i64 nd.x.n,.slice p nd.x.args.length cap,.int .i64 nd.n] nd (.slice va L.length dG) L [] T:=(by refine⟨i1,i2,⟨by omega,by omega,by omega,htl.1⟩,⟨fun _=>False,fun k=>M k/\k<w.heap.size,?_,(HT.o.mono (fun k h hl=>⟨h,hl⟩)).pure i3,fun _ h=>h.elim,fun h=>by omega,fun _ h=>h.elim,fun k h=> .inl h.1⟩⟩;obtain⟨u,h1,h2,h3⟩:=i1.out;refine⟨u,h1,h2,fun k hk=>?_⟩;have e1:=(aU h2 hk).1;have e2:=(aU h2 hk).2;omega);have c:=uO 113 #[.pointer (some ⟨w.heap.size+1,0,none⟩),.pointer (some ⟨w.heap.size,0,none⟩),.pointer (some ⟨w.heap.size+1+1+1+1,0,none⟩)] L (.slice va L.length dG) (w.heap.size+1+1) (fun k w'=>uS M w w' w.heap.size (w.heap.size+1+1) (w.heap.size+1+1+1) (w.heap.size+1+1+1+1) (w.heap.size+1) (w.heap.size+5) tb tm _ nd (.slice va L.length dG) L (aJ nd T (L.take k)).1 (aJ nd T (L.take k)).2) W0
  (enters_of Tryz.func113 (by kernel_rfl) rfl) (fun k w' h=>⟨ζ h.st.ins rfl,h.st.reads⟩) (fun k w' o h=>h.alloc o) i5 (fun k r w' hr h=>by
    have hs:=Ec (nd:=nd) (T:=T) hr;rw[Rk HK.o]at hs;have hl:=oN nd L T k;show Calls Tryz.prog 113 #[sS r,eU (aI r),.pointer (some ⟨w.heap.size+1,0,none⟩),.pointer (some ⟨w.heap.size,0,none⟩),.pointer (some ⟨w.heap.size+1+1+1+1,0,none⟩)] w' _;refine(SL h r (fU.o r (ς hr)) (by omega)).mono ?_;rintro e w2 ⟨rfl,h2⟩;refine⟨rfl,?_⟩;simp only[hs]
    exact h2)
 (with_reducible refine c.mono ?_);clear c;rintro e W1 ⟨rfl,d1⟩;rw[χ (ξ _)]at d1;obtain⟨a,rC,r1,r2,r3⟩:=d1.st.fin;obtain⟨A,M',_,t1,_,_,_,t1m⟩:=d1.sep;have F:=γ (show Q9 M w tb tm (aJ nd T L).1 (aJ nd T L).2 (.returned (.slice a (aJ nd T L).1.length rC)) W1 from⟨_,rfl,r2,r3,t1.mono (fun k hk _=>(t1m k hk).imp id (fun h=>by omega)),d1.st.kept⟩);clear d1 r2 r3 i1 i2 i3 i4 i5 hW0 t1;go_wp2_with fail;go_ret;exact F.o
theorem Ue (na:Array Value)(nd:dD)(tb tm:Nat)(T:Tab)(M:Nat->Prop)(v:Value)(L:List Rec)(w:World)(hn:dO w na nd)(hr:Reads w 3 v (recs L))(hok: ∀r∈L,bQ r)(hlen:L.length<=100000000)(ht:TabAt w M tb tm T):
 Calls Tryz.prog 69 #[.agg na,.pointer (some ⟨tb,0,none⟩),v] w (Q9 M w tb tm (aJ nd T L).1 (aJ nd T L).2):=by
 by_cases h6:nd.kind=6
 ·exact Zq na nd tb tm T M v L w hn h6 hr hok hlen ht
 ·by_cases h7:nd.kind=7
  ·exact Zp na nd tb tm T M v L w hn h7 hr hok hlen ht
  ·rw[Ah ⟨h6,h7⟩]
   refine(Iq na nd _ v L w hn ⟨h6,h7⟩ hr hok hlen ⟨_,rfl⟩).mono ?_;rintro e w' ⟨u,rfl,h1,h2,h3⟩;exact⟨u,rfl,h1,h2,(ht.pure h3).mono (fun k hk _=> .inl hk),h3.pure⟩
end
section
open Go Go.RowKit
attribute [local irreducible] cZ
end
