/- slices.Equal, slices.Index, slices.Contains over records. -/
import Derived.Test.YtglbkodmmogomaaGreatDoorS06
import Derived.Laws.EntriesVeiled
set_option linter.unusedVariables false
set_option linter.unusedSimpArgs false
set_option maxHeartbeats 2000000
set_option maxRecDepth 100000
namespace Go.Proofs.YtglbkodmmogomaaGreatDoor
open List Go.Proofs.Tryz
section
open Go Go.RowKit
attribute [local irreducible] dI eX
end
section
open Go Go.RowKit Go.Shelf
attribute [local irreducible] dI
theorem KE (v:Value)(cs:List Value)(w:World)(hr:Reads w 3 v cs)(h1: ∀x∈cs,x.oneCell'=true)(hlen:cs.length<=1099511627776):
 Calls prog 102 #[v] w (UR w 68 3 cs):=by
 obtain⟨i0,z0,hi,hz0,hz1,hz2,hz3⟩:=Tryz.info68;obtain⟨a,n,cap,rfl,hn,hc,hl,hp,hcell⟩:=hr.slice;have hnil:=fun(w:World) a n c=>Lib.run_eql_slice_nil (P:=prog) w 60 68 a n c 0 0 underlying60
 cases a with
 |none=>
  have hcs:cs=[]:=by
   rcases hp with rfl|h|⟨b,off,h⟩
   ·exact τ (by simpa using hl)
   ·cases h
   ·cases h
  subst hcs;clear hcell hp h1 hr;go_enter func102,ntmps102;go_wp2;go_ret;exact⟨_,0,rfl,World.ownsRow_nil _ _ _ _,rfl,ε.refl _ _⟩
 |some ad=>have H:=γ hr;have HH:=γ hl;have HC:=γ hlen;clear hcell hp hr hl hlen;go_enter func102,ntmps102;have hnew:(w.alloc (.cells #[] 68)).ownsRow w.heap.size 68 3 (.slice (some ⟨w.heap.size,0,none⟩) 0 0) 0 []:=World.ownsRow_made w #[] 0 (ξ _) (Nat.zero_le _) rfl;have hrd:=H.o.pure ((ε.refl η w).alloc (.cells #[] 68));have N1:=γ hnew;have N2:=γ hrd;clear hnew hrd;have B1:=γ (show(0*3+cs.length)*24<=140737488355328 by have:=HC.o;omega);have B2:=γ (show 0*3+cs.length<=maxLen by have:=HC.o;unfold maxLen;omega);go_wp2_with (at_builtin;(refine pJ rfl (.tmp 5) (.tmp 6) 60 rfl w.heap.size 68 i0 z0 3 24 underlying60 hi hz0 hz1 hz2 hz3 (by decide) _ 0 [] rfl N1.o _ cs rfl N2.o h1 B1.o B2.o (by simp) ?_);intro v' n' w' g1 g2 g3 g4);go_ret;refine⟨v',n',rfl,g1,by simpa using g2,?_⟩;exact((ε.refl η w).alloc _).new (ε.grown (S:=one w.heap.size) g3 (fun k hk _=>by cases hk;rfl)) (fun k hk e=>by unfold one at e;omega)
def kU (k:Int):Prop:=k≠6/\k≠7
def jy (nd:dG)(L:List Rec):List Rec:=(aI nd [] L).1
theorem step_plain {nd:dG}(h:kU nd.kind)(T:Tab)(r:Rec):aG nd T r=((aG nd [] r).1,T):=by
 obtain⟨h1,h2⟩:=h;unfold aG;split
 ·rfl
 ·split
  ·rfl
  ·split
   ·rfl
   ·split
    ·rfl
    ·first|rfl|(rw[if_neg h1,if_neg h2])
theorem AL {nd:dG}(h:kU nd.kind): ∀(L:List Rec)(T:Tab),aI nd T L=(jy nd L,T)
 |[],T=>rfl
 |r::L,T=>by unfold jy;simp only[aI];rw[step_plain h T r,step_plain h [] r];simp only[];rw[AL h L T,AL h L []]
theorem yN {nd:dG}(h:kU nd.kind){L:List Rec}{k:Nat}{r:Rec}(hr:L[k]?=some r):jy nd (L.take (k+1))=jy nd (L.take k)++(aG nd [] r).1:=by rw[ψ,hr];show(aI nd [] (L.take k++[r])).1=_;rw[vW,AL h]
theorem O9 (nd:dG)(T:Tab)(r:Rec):(aG nd T r).1.length<=4:=by
 have hf: ∀x,(jk r (jP x)).length<=4:=fun x=>(by rw[qF];unfold jP;omega);unfold aG
 repeat' split
 all_goals first|exact hf _|simp
theorem Rl (nd:dG): ∀(L:List Rec)(T:Tab),(aI nd T L).1.length<=4*L.length
 |[],T=>Nat.zero_le _
 |r::L,T=>by simp only[aI,ν,φ];have:=O9 nd T r;have:=Rl nd L (aG nd T r).2;omega
theorem pI (nd:dG)(L:List Rec)(T:Tab)(k:Nat):(aI nd T (L.take k)).1.length<=4*L.length:=by have h1:=Rl nd (L.take k) T;have h2:=length_take_le k L;have h3:=length_take_le' k L;omega
theorem iP.init {S:Nat->Prop}{w:World}{na:Array Value}{nd:dG}{v tv:Value}{L:List Rec}(hfree: ∀k,S k->k<w.heap.size/\ ∀c E f,w.heap[k]?≠some (.cells c E f))(hn:dR w na nd)(hr:Reads w 3 v (recs L))(hok: ∀r∈L,bF r){W:World}
 (hW:((((w.alloc (.cells na 42)).alloc (.cells #[tv] 43)).alloc (.cells #[v] 60)).alloc (.cells #[.slice none 0 0] 60)).alloc (.cells #[.func (.func 104) #[] #[.pointer (some ⟨w.heap.size+1+1+1,0,none⟩)]] 184)=W):
 iP S w W w.heap.size (w.heap.size+1+1) (w.heap.size+1+1+1) (w.heap.size+1+1+1+1) (w.heap.size+5) na nd v L []/\W.heap[w.heap.size+1]?=some (.cells #[tv] 43 (0,0))/\ε η w W/\W.heap.size=w.heap.size+5:=by
 subst hW;have e1:=heap_alloc_new w (.cells na 42);have e2:=heap_alloc_new (w.alloc (.cells na 42)) (.cells #[tv] 43);have e3:=heap_alloc_new ((w.alloc (.cells na 42)).alloc (.cells #[tv] 43)) (.cells #[v] 60);have e4:=heap_alloc_new (((w.alloc (.cells na 42)).alloc (.cells #[tv] 43)).alloc (.cells #[v] 60)) (.cells #[.slice none 0 0] 60);have e5:=heap_alloc_new ((((w.alloc (.cells na 42)).alloc (.cells #[tv] 43)).alloc (.cells #[v] 60)).alloc (.cells #[.slice none 0 0] 60)) (.cells #[.func (.func 104) #[] #[.pointer (some ⟨w.heap.size+1+1+1,0,none⟩)]] 184);simp only[World.size_alloc]at e1 e2 e3 e4 e5;have kk: ∀(w:World)(o:Obj),ε η w (w.alloc o):=fun w o=>δ.alloc _;have no: ∀k,¬η k:=fun _ h=>h;have f1:=(kk _ (.cells #[.func (.func 104) #[] #[.pointer (some ⟨w.heap.size+1+1+1,0,none⟩)]] 184)).heap ((kk _ (.cells #[.slice none 0 0] 60)).heap ((kk _ (.cells #[v] 60)).heap ((kk _ (.cells #[tv] 43)).heap e1 (no _)) (no _)) (no _)) (no _);have f2:=(kk _ (.cells #[.func (.func 104) #[] #[.pointer (some ⟨w.heap.size+1+1+1,0,none⟩)]] 184)).heap ((kk _ (.cells #[.slice none 0 0] 60)).heap ((kk _ (.cells #[v] 60)).heap e2 (no _)) (no _)) (no _);have f3:=(kk _ (.cells #[.func (.func 104) #[] #[.pointer (some ⟨w.heap.size+1+1+1,0,none⟩)]] 184)).heap ((kk _ (.cells #[.slice none 0 0] 60)).heap e3 (no _)) (no _);have f4:=(kk _ (.cells #[.func (.func 104) #[] #[.pointer (some ⟨w.heap.size+1+1+1,0,none⟩)]] 184)).heap e4 (no _);have Qe:=(((kk w (.cells na 42)).trans (kk _ (.cells #[tv] 43))).trans (kk _ (.cells #[v] 60))).trans ((kk _ (.cells #[.slice none 0 0] 60)).trans (kk _ (.cells #[.func (.func 104) #[] #[.pointer (some ⟨w.heap.size+1+1+1,0,none⟩)]] 184)));exact⟨⟨hfree,Qe.pure,hn,hr,hok,f1,f3,e5,⟨_,f4,World.ownsRow_nil _ _ _ _,fun k hk=>by cases hk⟩,⟨by omega,by omega,by omega,by omega⟩,⟨by omega,by omega,by omega,by omega,by simp⟩,⟨by omega,by omega,by omega⟩⟩,f2,Qe,by simp⟩
def yJ (w:World)(out:List Rec)(e:Ending)(w':World):Prop:= ∃v,e= .returned v/\Reads w' 3 v (recs out)/\(∀b,Value.blk v=some b->w.heap.size<=b)/\ε η w w'
theorem iP.fin {w W:World}{Bn Bi Bo Bg base:Nat}{na:Array Value}{nd:dG}{v:Value}{L out:List Rec}{S:Nat->Prop}(h:iP S w W Bn Bi Bo Bg base na nd v L out):
 ∃a cap,W.cell? ⟨Bo,0,none⟩=some (.slice a out.length cap)/\Reads W 3 (.slice a out.length cap) (recs out)/\ ∀b,Value.blk (.slice a out.length cap)=some b->w.heap.size<=b:=by
 obtain⟨u,h1,h2,h3⟩:=h.out;obtain⟨a,cap,rfl⟩:=au h2;exact⟨a,cap,ζ h1 rfl,Reads.aN h2,fun b hb=>by have:=(oN h2 hb).1;have:=h.lo;have:=h.hi;omega⟩
theorem step_map {nd:dG}(h:nd.kind=2)(r:Rec):(aG nd [] r).1=[{r with val:=dF nd.x (aH r)}]:=by unfold aG;rw[if_pos h]
theorem afI (na:Array Value)(nd:dG)(tv v:Value)(L:List Rec)(w:World)(hn:dR w na nd)(hk:nd.kind=2)(hr:Reads w 3 v (recs L))(hok: ∀r∈L,bF r)(hlen:L.length<=100000000)(ht: ∃p,tv= .pointer p):
 Calls prog 69 #[.agg na,tv,v] w (yJ w (jy nd L)):=by
 obtain⟨tp,rfl⟩:=ht;obtain⟨va,dK,rfl,hv1,hv2⟩:=hr.len;obtain⟨uid,inv,p,cap,rfl,hx,hk0,hk1,nN⟩:=hn;have hp:kU nd.kind:=(by unfold kU;rw[hk];omega);have N:=γ (show dR w _ nd from⟨uid,inv,p,cap,rfl,hx,hk0,hk1,nN⟩);have HR:=γ hr;have iM:=γ hok;have HP:=γ hp;have HK:=γ hk;obtain⟨kk,hkk⟩:=acu nd.kind;rw[hkk]at hk N⊢;subst hk;have HKK:=γ hkk;clear hx hr hok hp hkk hk0 hk1;go_enter func69,ntmps69;go_wp2_with fail;obtain⟨W0,hW0⟩:=acu (((((w.alloc (.cells #[.string uid,.int .u8 2,inv,.int .u8 nd.x.op,.int .i64 nd.x.n,.slice p nd.x.args.length cap,.int .i64 nd.n] 42)).alloc (.cells #[.pointer tp] 43)).alloc (.cells #[.slice va L.length dK] 60)).alloc (.cells #[.slice none 0 0] 60)).alloc (.cells #[.func (.func 104) #[] #[.pointer (some ⟨w.heap.size+1+1+1,0,none⟩)]] 184));rw[hW0];obtain⟨i1,i2,i3,i4⟩:=iP.init (S:=η) (fun _ h=>h.elim) N.o HR.o iM.o hW0;have c:=uZ 105 #[.pointer (some ⟨w.heap.size,0,none⟩),.pointer (some ⟨w.heap.size+1+1+1+1,0,none⟩)] L (.slice va L.length dK) (w.heap.size+1+1) (fun k w'=>iP η w w' w.heap.size (w.heap.size+1+1) (w.heap.size+1+1+1) (w.heap.size+1+1+1+1) (w.heap.size+5) _ nd (.slice va L.length dK) L (jy nd (L.take k))) W0
  (enters_of func105 (by kernel_rfl) rfl) (fun k w' h=>⟨ζ h.ins rfl,h.reads⟩) (fun k w' o h=>h.alloc o) i1 (fun k r w' hr h=>by
    have hs:=yN HP.o hr;rw[step_map HK.o r]at hs;have hl:=pI nd L [] k;show Calls prog 105 #[tJ r,fD (aH r),.pointer (some ⟨w.heap.size,0,none⟩),.pointer (some ⟨w.heap.size+1+1+1+1,0,none⟩)] w' _;refine(abT h r (iM.o r (ς hr)) (by unfold jy;omega)).mono ?_;rintro e w2 ⟨rfl,h2⟩;rw[<-hs]at h2
    exact⟨rfl,h2⟩)
 refine c.mono ?_;clear c;rintro e W1 ⟨rfl,d1⟩;rw[χ (ξ _)]at d1;obtain⟨a,tV,r1,r2,r3⟩:=d1.fin;have F:=γ (show yJ w (jy nd L) (.returned (.slice a (jy nd L).length tV)) W1 from⟨_,rfl,r2,r3,d1.kept⟩);clear d1 r2 r3 i1 i2 i3 i4 hW0;go_wp2;go_ret;exact F.o
theorem aaL {nd:dG}(h:nd.kind=5)(r:Rec):(aG nd [] r).1=[{r with key:=dF nd.x (aH r)}]:=by unfold aG;rw[if_neg (by omega),if_pos h]
theorem afJ (na:Array Value)(nd:dG)(tv v:Value)(L:List Rec)(w:World)(hn:dR w na nd)(hk:nd.kind=5)(hr:Reads w 3 v (recs L))(hok: ∀r∈L,bF r)(hlen:L.length<=100000000)(ht: ∃p,tv= .pointer p):
 Calls prog 69 #[.agg na,tv,v] w (yJ w (jy nd L)):=by
 obtain⟨tp,rfl⟩:=ht;obtain⟨va,dK,rfl,hv1,hv2⟩:=hr.len;obtain⟨uid,inv,p,cap,rfl,hx,hk0,hk1,nN⟩:=hn;have hp:kU nd.kind:=(by unfold kU;rw[hk];omega);have N:=γ (show dR w _ nd from⟨uid,inv,p,cap,rfl,hx,hk0,hk1,nN⟩);have HR:=γ hr;have iM:=γ hok;have HP:=γ hp;have HK:=γ hk;obtain⟨kk,hkk⟩:=acu nd.kind;rw[hkk]at hk N⊢;subst hk;have HKK:=γ hkk;clear hx hr hok hp hkk hk0 hk1;go_enter func69,ntmps69;go_wp2_with fail;obtain⟨W0,hW0⟩:=acu (((((w.alloc (.cells #[.string uid,.int .u8 5,inv,.int .u8 nd.x.op,.int .i64 nd.x.n,.slice p nd.x.args.length cap,.int .i64 nd.n] 42)).alloc (.cells #[.pointer tp] 43)).alloc (.cells #[.slice va L.length dK] 60)).alloc (.cells #[.slice none 0 0] 60)).alloc (.cells #[.func (.func 104) #[] #[.pointer (some ⟨w.heap.size+1+1+1,0,none⟩)]] 184));rw[hW0];obtain⟨i1,i2,i3,i4⟩:=iP.init (S:=η) (fun _ h=>h.elim) N.o HR.o iM.o hW0;have c:=uZ 107 #[.pointer (some ⟨w.heap.size,0,none⟩),.pointer (some ⟨w.heap.size+1+1+1+1,0,none⟩)] L (.slice va L.length dK) (w.heap.size+1+1) (fun k w'=>iP η w w' w.heap.size (w.heap.size+1+1) (w.heap.size+1+1+1) (w.heap.size+1+1+1+1) (w.heap.size+5) _ nd (.slice va L.length dK) L (jy nd (L.take k))) W0
  (enters_of func107 (by kernel_rfl) rfl) (fun k w' h=>⟨ζ h.ins rfl,h.reads⟩) (fun k w' o h=>h.alloc o) i1 (fun k r w' hr h=>by
    have hs:=yN HP.o hr;rw[aaL HK.o r]at hs;have hl:=pI nd L [] k;show Calls prog 107 #[tJ r,fD (aH r),.pointer (some ⟨w.heap.size,0,none⟩),.pointer (some ⟨w.heap.size+1+1+1+1,0,none⟩)] w' _;refine(abU h r (iM.o r (ς hr)) (by unfold jy;omega)).mono ?_;rintro e w2 ⟨rfl,h2⟩;rw[<-hs]at h2
    exact⟨rfl,h2⟩)
 refine c.mono ?_;clear c;rintro e W1 ⟨rfl,d1⟩;rw[χ (ξ _)]at d1;obtain⟨a,tV,r1,r2,r3⟩:=d1.fin;have F:=γ (show yJ w (jy nd L) (.returned (.slice a (jy nd L).length tV)) W1 from⟨_,rfl,r2,r3,d1.kept⟩);clear d1 r2 r3 i1 i2 i3 i4 hW0;go_wp2;go_ret;exact F.o
theorem step_filter {nd:dG}(h:nd.kind=3)(r:Rec):(aG nd [] r).1=WG (nZ nd.x (aH r)) r:=by unfold aG;rw[if_neg (by omega),if_neg (by omega),if_pos h];rfl
theorem aaf (na:Array Value)(nd:dG)(tv v:Value)(L:List Rec)(w:World)(hn:dR w na nd)(hk:nd.kind=3)(hr:Reads w 3 v (recs L))(hok: ∀r∈L,bF r)(hlen:L.length<=100000000)(ht: ∃p,tv= .pointer p):
 Calls prog 69 #[.agg na,tv,v] w (yJ w (jy nd L)):=by
 obtain⟨tp,rfl⟩:=ht;obtain⟨va,dK,rfl,hv1,hv2⟩:=hr.len;obtain⟨uid,inv,p,cap,rfl,hx,hk0,hk1,nN⟩:=hn;have hp:kU nd.kind:=(by unfold kU;rw[hk];omega);have N:=γ (show dR w _ nd from⟨uid,inv,p,cap,rfl,hx,hk0,hk1,nN⟩);have HR:=γ hr;have iM:=γ hok;have HP:=γ hp;have HK:=γ hk;obtain⟨kk,hkk⟩:=acu nd.kind;rw[hkk]at hk N⊢;subst hk;have HKK:=γ hkk;clear hx hr hok hp hkk hk0 hk1;go_enter func69,ntmps69;go_wp2_with fail;obtain⟨W0,hW0⟩:=acu (((((w.alloc (.cells #[.string uid,.int .u8 3,inv,.int .u8 nd.x.op,.int .i64 nd.x.n,.slice p nd.x.args.length cap,.int .i64 nd.n] 42)).alloc (.cells #[.pointer tp] 43)).alloc (.cells #[.slice va L.length dK] 60)).alloc (.cells #[.slice none 0 0] 60)).alloc (.cells #[.func (.func 104) #[] #[.pointer (some ⟨w.heap.size+1+1+1,0,none⟩)]] 184));rw[hW0];obtain⟨i1,i2,i3,i4⟩:=iP.init (S:=η) (fun _ h=>h.elim) N.o HR.o iM.o hW0;have c:=uZ 108 #[.pointer (some ⟨w.heap.size,0,none⟩),.pointer (some ⟨w.heap.size+1+1+1+1,0,none⟩)] L (.slice va L.length dK) (w.heap.size+1+1) (fun k w'=>iP η w w' w.heap.size (w.heap.size+1+1) (w.heap.size+1+1+1) (w.heap.size+1+1+1+1) (w.heap.size+5) _ nd (.slice va L.length dK) L (jy nd (L.take k))) W0
  (enters_of func108 (by kernel_rfl) rfl) (fun k w' h=>⟨ζ h.ins rfl,h.reads⟩) (fun k w' o h=>h.alloc o) i1 (fun k r w' hr h=>by
    have hs:=yN HP.o hr;rw[step_filter HK.o r]at hs;have hl:=pI nd L [] k;show Calls prog 108 #[tJ r,fD (aH r),.pointer (some ⟨w.heap.size,0,none⟩),.pointer (some ⟨w.heap.size+1+1+1+1,0,none⟩)] w' _;refine(TW h r (iM.o r (ς hr)) (by unfold jy;omega)).mono ?_;rintro e w2 ⟨rfl,h2⟩;rw[<-hs]at h2
    exact⟨rfl,h2⟩)
 refine c.mono ?_;clear c;rintro e W1 ⟨rfl,d1⟩;rw[χ (ξ _)]at d1;obtain⟨a,tV,r1,r2,r3⟩:=d1.fin;have F:=γ (show yJ w (jy nd L) (.returned (.slice a (jy nd L).length tV)) W1 from⟨_,rfl,r2,r3,d1.kept⟩);clear d1 r2 r3 i1 i2 i3 i4 hW0;go_wp2;go_ret;exact F.o
theorem Yj {nd:dG}(h:nd.kind=4)(r:Rec):(aG nd [] r).1=jk r (jP (dF nd.x (aH r))):=by unfold aG;rw[if_neg (by omega),if_neg (by omega),if_neg (by omega),if_pos h]
theorem adU (na:Array Value)(nd:dG)(tv v:Value)(L:List Rec)(w:World)(hn:dR w na nd)(hk:nd.kind=4)(hr:Reads w 3 v (recs L))(hok: ∀r∈L,bF r)(hlen:L.length<=100000000)(ht: ∃p,tv= .pointer p):
 Calls prog 69 #[.agg na,tv,v] w (yJ w (jy nd L)):=by
 obtain⟨tp,rfl⟩:=ht;obtain⟨va,dK,rfl,hv1,hv2⟩:=hr.len;obtain⟨uid,inv,p,cap,rfl,hx,hk0,hk1,nN⟩:=hn;have hp:kU nd.kind:=(by unfold kU;rw[hk];omega);have N:=γ (show dR w _ nd from⟨uid,inv,p,cap,rfl,hx,hk0,hk1,nN⟩);have HR:=γ hr;have iM:=γ hok;have HP:=γ hp;have HK:=γ hk;obtain⟨kk,hkk⟩:=acu nd.kind;rw[hkk]at hk N⊢;subst hk;have HKK:=γ hkk;clear hx hr hok hp hkk hk0 hk1;go_enter func69,ntmps69;go_wp2_with fail;obtain⟨W0,hW0⟩:=acu (((((w.alloc (.cells #[.string uid,.int .u8 4,inv,.int .u8 nd.x.op,.int .i64 nd.x.n,.slice p nd.x.args.length cap,.int .i64 nd.n] 42)).alloc (.cells #[.pointer tp] 43)).alloc (.cells #[.slice va L.length dK] 60)).alloc (.cells #[.slice none 0 0] 60)).alloc (.cells #[.func (.func 104) #[] #[.pointer (some ⟨w.heap.size+1+1+1,0,none⟩)]] 184));rw[hW0];obtain⟨i1,i2,i3,i4⟩:=iP.init (S:=η) (fun _ h=>h.elim) N.o HR.o iM.o hW0;have c:=uZ 110 #[.pointer (some ⟨w.heap.size,0,none⟩),.pointer (some ⟨w.heap.size+1+1+1+1,0,none⟩)] L (.slice va L.length dK) (w.heap.size+1+1) (fun k w'=>iP η w w' w.heap.size (w.heap.size+1+1) (w.heap.size+1+1+1) (w.heap.size+1+1+1+1) (w.heap.size+5) _ nd (.slice va L.length dK) L (jy nd (L.take k))) W0
  (enters_of func110 (by kernel_rfl) rfl) (fun k w' h=>⟨ζ h.ins rfl,h.reads⟩) (fun k w' o h=>h.alloc o) i1 (fun k r w' hr h=>by
    have hs:=yN HP.o hr;rw[Yj HK.o r]at hs;have hl:=pI nd L [] k;show Calls prog 110 #[tJ r,fD (aH r),.pointer (some ⟨w.heap.size,0,none⟩),.pointer (some ⟨w.heap.size+1+1+1+1,0,none⟩)] w' _;refine(aah h r (iM.o r (ς hr)) (by unfold jy;omega)).mono ?_;rintro e w2 ⟨rfl,h2⟩;rw[<-hs]at h2
    exact⟨rfl,h2⟩)
 refine c.mono ?_;clear c;rintro e W1 ⟨rfl,d1⟩;rw[χ (ξ _)]at d1;obtain⟨a,tV,r1,r2,r3⟩:=d1.fin;have F:=γ (show yJ w (jy nd L) (.returned (.slice a (jy nd L).length tV)) W1 from⟨_,rfl,r2,r3,d1.kept⟩);clear d1 r2 r3 i1 i2 i3 i4 hW0;go_wp2;go_ret;exact F.o
theorem step_other {nd:dG}(h:kU nd.kind)(h':nd.kind≠2/\nd.kind≠3/\nd.kind≠4/\nd.kind≠5)(r:Rec):(aG nd [] r).1=[r]:=by obtain⟨h1,h2⟩:=h;obtain⟨a,b,c,d⟩:=h';unfold aG;rw[if_neg a,if_neg d,if_neg b,if_neg c,if_neg h1,if_neg h2]
theorem Gt {nd:dG}(h:kU nd.kind)(h':nd.kind≠2/\nd.kind≠3/\nd.kind≠4/\nd.kind≠5): ∀L:List Rec,jy nd L=L
 |[]=>rfl
 |r::L=>by have:=Gt h h' L;unfold jy at this⊢;simp only[aI];rw[step_other h h',step_plain h [] r,this];rfl
theorem abO (na:Array Value)(nd:dG)(tv v:Value)(L:List Rec)(w:World)(hn:dR w na nd)(hp:kU nd.kind)(hk:nd.kind≠2/\nd.kind≠3/\nd.kind≠4/\nd.kind≠5)(hr:Reads w 3 v (recs L))(hok: ∀r∈L,bF r)(hlen:L.length<=100000000)(ht: ∃p,tv= .pointer p):
 Calls prog 69 #[.agg na,tv,v] w (yJ w (jy nd L)):=by
 rw[Gt hp hk];obtain⟨tp,rfl⟩:=ht;obtain⟨va,dK,rfl,hv1,hv2⟩:=hr.len;obtain⟨uid,inv,p,cap,rfl,hx,hk0,hk1,nN⟩:=hn;have N:=γ (show dR w _ nd from⟨uid,inv,p,cap,rfl,hx,hk0,hk1,nN⟩);have HR:=γ hr;have iM:=γ hok;obtain⟨p6,p7⟩:=hp;obtain⟨p2,p3,p4,p5⟩:=hk;have q2:(nd.kind==2)=false:=(by simp[p2]);have q3:(nd.kind==3)=false:=(by simp[p3]);have q4:(nd.kind==4)=false:=(by simp[p4]);have q5:(nd.kind==5)=false:=(by simp[p5]);have q6:(nd.kind==6)=false:=(by simp[p6]);have q7:(nd.kind==7)=false:=(by simp[p7]);clear hx hr hok p2 p3 p4 p5 p6 p7;go_enter func69,ntmps69;go_wp2_with fail;obtain⟨W0,hW0⟩:=acu (((((w.alloc (.cells #[.string uid,.int .u8 nd.kind,inv,.int .u8 nd.x.op,.int .i64 nd.x.n,.slice p nd.x.args.length cap,.int .i64 nd.n] 42)).alloc (.cells #[.pointer tp] 43)).alloc (.cells #[.slice va L.length dK] 60)).alloc (.cells #[.slice none 0 0] 60)).alloc (.cells #[.func (.func 104) #[] #[.pointer (some ⟨w.heap.size+1+1+1,0,none⟩)]] 184));rw[hW0];obtain⟨i1,i2,i3,i4⟩:=iP.init (S:=η) (fun _ h=>h.elim) N.o HR.o iM.o hW0;have c:=KE (.slice va L.length dK) (recs L) W0 (HR.o.pure i3) (rQ L) (by rw[aQ];omega);refine c.mono ?_;clear c;rintro e W1 ⟨v',n',rfl,g1,g2,g3⟩;obtain⟨oa,oc,rfl⟩:=au g1;rw[aQ]at g2;have hn':n'=L.length:=(by omega);subst hn';obtain⟨u,h1,h2,h3⟩:=i1.out;have hB:=g3.heap h1 id;have s0:W1.cell? ⟨w.heap.size+1+1+1,0,none⟩=some u:=ζ hB rfl;have s1:=free_at hB 0;have hrow:=Reads.aN g1;have CJ:ε (one (w.heap.size+1+1+1)) W1 (W1.setCell ⟨w.heap.size+1+1+1,0,none⟩ (.slice oa L.length oc)):=(ε.refl (one (w.heap.size+1+1+1)) W1).setCell (p:=⟨w.heap.size+1+1+1,0,none⟩) (.inl rfl) _
 have F:=γ (show yJ w L (.returned (.slice oa L.length oc)) (W1.setCell ⟨w.heap.size+1+1+1,0,none⟩ (.slice oa L.length oc))from
  ⟨_,rfl,hrow.kept CJ (fun b hb e=>by have:=(oN g1 hb).1;unfold one at e;omega),fun b hb=>by have:=(oN g1 hb).1;omega,(i3.trans g3).new CJ (fun i hi e=>by unfold one at e;omega)⟩)
 clear g1 g2 g3 hB h1 h2 h3 hrow CJ i1 i2 i3 hW0;go_wp2;go_ret;exact F.o
theorem Je (na:Array Value)(nd:dG)(tv v:Value)(L:List Rec)(w:World)(hn:dR w na nd)(hp:kU nd.kind)(hr:Reads w 3 v (recs L))(hok: ∀r∈L,bF r)(hlen:L.length<=100000000)(ht: ∃p,tv= .pointer p):
 Calls prog 69 #[.agg na,tv,v] w (yJ w (jy nd L)):=by
 by_cases h2:nd.kind=2
 ·exact afI na nd tv v L w hn h2 hr hok hlen ht
 ·by_cases h5:nd.kind=5
  ·exact afJ na nd tv v L w hn h5 hr hok hlen ht
  ·by_cases h3:nd.kind=3
   ·exact aaf na nd tv v L w hn h3 hr hok hlen ht
   ·by_cases h4:nd.kind=4
    ·exact adU na nd tv v L w hn h4 hr hok hlen ht
    ·exact abO na nd tv v L w hn hp ⟨h2,h3,h4,h5⟩ hr hok hlen ht
abbrev zu:Nat->Prop:=fun _=>True
theorem TabAt.any {w:World}{M:Nat->Prop}{b m:Nat}{T:Tab}(h:TabAt w M b m T):TabAt w zu b m T:=h.mono (fun _ _ _=>trivial)
theorem TabAt.kK {w:World}{M:Nat->Prop}{b m:Nat}{T:Tab}(h:TabAt w M b m T): ∀c E f,w.heap[m]?≠some (.cells c E f):=by obtain⟨l,hl,_⟩:=h.map;obtain⟨L,cl,hL,_⟩:=hl;intro c E f e;rw[hL.heap]at e;cases e
def Sm (M:Nat->Prop)(w:World)(tb tm:Nat)(out:List Rec)(T:Tab)(e:Ending)(w':World):Prop:=
 ∃v,e= .returned v/\Reads w' 3 v (recs out)/\(∀b,Value.blk v=some b->w.heap.size<=b)/\TabAt w' (fun k=>M k\/w.heap.size<=k) tb tm T/\ε (one tm) w w'
theorem SG {nd:dG}(h:nd.kind=6)(T:Tab)(r:Rec):aG nd T r=(Fg T r (dF nd.x {aH r with acc:=(cellOf T r.key).1}),dL T r.key (dF nd.x {aH r with acc:=(cellOf T r.key).1},[])):=by unfold aG Fg;rw[if_neg (by omega),if_neg (by omega),if_neg (by omega),if_neg (by omega),if_pos h]
theorem SC {nd:dG}(h:nd.kind=7)(T:Tab)(r:Rec):aG nd T r=(ER T r nd.n ((cellOf T r.key).2++[r.val]),EP T r nd.n (cellOf T r.key).1 ((cellOf T r.key).2++[r.val])):=by unfold aG ER EP ES;rw[if_neg (by omega),if_neg (by omega),if_neg (by omega),if_neg (by omega),if_neg (by omega),if_pos h,ν];simp only[φ,Γ,Nat.zero_add];split<;>rfl
theorem EH {nd:dG}{T:Tab}{L:List Rec}{k:Nat}{r:Rec}(hr:L[k]?=some r):aI nd T (L.take (k+1))=((aI nd T (L.take k)).1++(aG nd (aI nd T (L.take k)).2 r).1,(aG nd (aI nd T (L.take k)).2 r).2):=by rw[ψ,hr];exact vW nd r (L.take k) T
theorem aae (na:Array Value)(nd:dG)(tb tm:Nat)(T:Tab)(M:Nat->Prop)(v:Value)(L:List Rec)(w:World)(hn:dR w na nd)(hk:nd.kind=6)(hr:Reads w 3 v (recs L))(hok: ∀r∈L,bF r)(hlen:L.length<=100000000)(ht:TabAt w M tb tm T):
 Calls prog 69 #[.agg na,.pointer (some ⟨tb,0,none⟩),v] w (Sm M w tb tm (aI nd T L).1 (aI nd T L).2):=by
 obtain⟨va,dK,rfl,hv1,hv2⟩:=hr.len;obtain⟨uid,inv,p,cap,rfl,hx,hk0,hk1,nN⟩:=hn;have htl:=ht.lt;have N:=γ (show dR w _ nd from⟨uid,inv,p,cap,rfl,hx,hk0,hk1,nN⟩);have HR:=γ hr;have iM:=γ hok;have HK:=γ hk;have HT:=γ ht;obtain⟨kk,hkk⟩:=acu nd.kind;rw[hkk]at hk N⊢;subst hk;have HKK:=γ hkk;clear hx hr hok hkk hk0 hk1 ht;go_enter func69,ntmps69;go_wp2_with fail;obtain⟨W0,hW0⟩:=acu (((((w.alloc (.cells #[.string uid,.int .u8 6,inv,.int .u8 nd.x.op,.int .i64 nd.x.n,.slice p nd.x.args.length cap,.int .i64 nd.n] 42)).alloc (.cells #[.pointer (some ⟨tb,0,none⟩)] 43)).alloc (.cells #[.slice va L.length dK] 60)).alloc (.cells #[.slice none 0 0] 60)).alloc (.cells #[.func (.func 104) #[] #[.pointer (some ⟨w.heap.size+1+1+1,0,none⟩)]] 184));rw[hW0];obtain⟨i1,i2,i3,i4⟩:=iP.init (S:=one tm) (fun k h=>by unfold one at h;subst h;exact⟨htl.1,HT.o.kK⟩) N.o HR.o iM.o hW0;have i5:vC M w W0 w.heap.size (w.heap.size+1+1) (w.heap.size+1+1+1) (w.heap.size+1+1+1+1) (w.heap.size+1) (w.heap.size+5) tb tm #[.string uid,.int .u8 6,inv,.int .u8 nd.x.op,.int .i64 nd.x.n,.slice p nd.x.args.length cap,.int .i64 nd.n] nd (.slice va L.length dK) L [] T:=(by refine⟨i1,i2,⟨by omega,by omega,by omega,htl.1⟩,⟨fun _=>False,fun k=>M k/\k<w.heap.size,?_,(HT.o.mono (fun k h hl=>⟨h,hl⟩)).pure i3,fun _ h=>h.elim,fun h=>by omega,fun _ h=>h.elim,fun k h=> .inl h.1⟩⟩;obtain⟨u,h1,h2,h3⟩:=i1.out;refine⟨u,h1,h2,fun k hk=>?_⟩;have e1:=(aY h2 hk).1;have e2:=(aY h2 hk).2;omega);have c:=uZ 111 #[.pointer (some ⟨w.heap.size+1,0,none⟩),.pointer (some ⟨w.heap.size,0,none⟩),.pointer (some ⟨w.heap.size+1+1+1+1,0,none⟩)] L (.slice va L.length dK) (w.heap.size+1+1) (fun k w'=>vC M w w' w.heap.size (w.heap.size+1+1) (w.heap.size+1+1+1) (w.heap.size+1+1+1+1) (w.heap.size+1) (w.heap.size+5) tb tm _ nd (.slice va L.length dK) L (aI nd T (L.take k)).1 (aI nd T (L.take k)).2) W0
  (enters_of func111 (by kernel_rfl) rfl) (fun k w' h=>⟨ζ h.st.ins rfl,h.st.reads⟩) (fun k w' o h=>h.alloc o) i5 (fun k r w' hr h=>by
    have hs:=EH (nd:=nd) (T:=T) hr;rw[SG HK.o]at hs;have hl:=pI nd L T k;show Calls prog 111 #[tJ r,fD (aH r),.pointer (some ⟨w.heap.size+1,0,none⟩),.pointer (some ⟨w.heap.size,0,none⟩),.pointer (some ⟨w.heap.size+1+1+1+1,0,none⟩)] w' _;refine(TV h r (iM.o r (ς hr)) (by omega)).mono ?_;rintro e w2 ⟨rfl,h2⟩;refine⟨rfl,?_⟩;simp only[hs]
    exact h2)
 refine c.mono ?_;clear c;rintro e W1 ⟨rfl,d1⟩;rw[χ (ξ _)]at d1;obtain⟨a,tV,r1,r2,r3⟩:=d1.st.fin;obtain⟨A,M',_,t1,_,_,_,t1m⟩:=d1.sep;have F:=γ (show Sm M w tb tm (aI nd T L).1 (aI nd T L).2 (.returned (.slice a (aI nd T L).1.length tV)) W1 from⟨_,rfl,r2,r3,t1.mono (fun k hk _=>(t1m k hk).imp id (fun h=>by omega)),d1.st.kept⟩);clear d1 r2 r3 i1 i2 i3 i4 i5 hW0 t1;go_wp2;go_ret;exact F.o
theorem aad (na:Array Value)(nd:dG)(tb tm:Nat)(T:Tab)(M:Nat->Prop)(v:Value)(L:List Rec)(w:World)(hn:dR w na nd)(hk:nd.kind=7)(hr:Reads w 3 v (recs L))(hok: ∀r∈L,bF r)(hlen:L.length<=100000000)(ht:TabAt w M tb tm T):
 Calls prog 69 #[.agg na,.pointer (some ⟨tb,0,none⟩),v] w (Sm M w tb tm (aI nd T L).1 (aI nd T L).2):=by
 obtain⟨va,dK,rfl,hv1,hv2⟩:=hr.len;obtain⟨uid,inv,p,cap,rfl,hx,hk0,hk1,nN⟩:=hn;have htl:=ht.lt;have N:=γ (show dR w _ nd from⟨uid,inv,p,cap,rfl,hx,hk0,hk1,nN⟩);have HR:=γ hr;have iM:=γ hok;have HK:=γ hk;have HT:=γ ht;obtain⟨kk,hkk⟩:=acu nd.kind;rw[hkk]at hk N⊢;subst hk;have HKK:=γ hkk;clear hx hr hok hkk hk0 hk1 ht;go_enter func69,ntmps69;go_wp2_with fail;obtain⟨W0,hW0⟩:=acu (((((w.alloc (.cells #[.string uid,.int .u8 7,inv,.int .u8 nd.x.op,.int .i64 nd.x.n,.slice p nd.x.args.length cap,.int .i64 nd.n] 42)).alloc (.cells #[.pointer (some ⟨tb,0,none⟩)] 43)).alloc (.cells #[.slice va L.length dK] 60)).alloc (.cells #[.slice none 0 0] 60)).alloc (.cells #[.func (.func 104) #[] #[.pointer (some ⟨w.heap.size+1+1+1,0,none⟩)]] 184));rw[hW0];obtain⟨i1,i2,i3,i4⟩:=iP.init (S:=one tm) (fun k h=>by unfold one at h;subst h;exact⟨htl.1,HT.o.kK⟩) N.o HR.o iM.o hW0;have i5:vC M w W0 w.heap.size (w.heap.size+1+1) (w.heap.size+1+1+1) (w.heap.size+1+1+1+1) (w.heap.size+1) (w.heap.size+5) tb tm #[.string uid,.int .u8 7,inv,.int .u8 nd.x.op,.int .i64 nd.x.n,.slice p nd.x.args.length cap,.int .i64 nd.n] nd (.slice va L.length dK) L [] T:=(by refine⟨i1,i2,⟨by omega,by omega,by omega,htl.1⟩,⟨fun _=>False,fun k=>M k/\k<w.heap.size,?_,(HT.o.mono (fun k h hl=>⟨h,hl⟩)).pure i3,fun _ h=>h.elim,fun h=>by omega,fun _ h=>h.elim,fun k h=> .inl h.1⟩⟩;obtain⟨u,h1,h2,h3⟩:=i1.out;refine⟨u,h1,h2,fun k hk=>?_⟩;have e1:=(aY h2 hk).1;have e2:=(aY h2 hk).2;omega);have c:=uZ 113 #[.pointer (some ⟨w.heap.size+1,0,none⟩),.pointer (some ⟨w.heap.size,0,none⟩),.pointer (some ⟨w.heap.size+1+1+1+1,0,none⟩)] L (.slice va L.length dK) (w.heap.size+1+1) (fun k w'=>vC M w w' w.heap.size (w.heap.size+1+1) (w.heap.size+1+1+1) (w.heap.size+1+1+1+1) (w.heap.size+1) (w.heap.size+5) tb tm _ nd (.slice va L.length dK) L (aI nd T (L.take k)).1 (aI nd T (L.take k)).2) W0
  (enters_of func113 (by kernel_rfl) rfl) (fun k w' h=>⟨ζ h.st.ins rfl,h.st.reads⟩) (fun k w' o h=>h.alloc o) i5 (fun k r w' hr h=>by
    have hs:=EH (nd:=nd) (T:=T) hr;rw[SC HK.o]at hs;have hl:=pI nd L T k;show Calls prog 113 #[tJ r,fD (aH r),.pointer (some ⟨w.heap.size+1,0,none⟩),.pointer (some ⟨w.heap.size,0,none⟩),.pointer (some ⟨w.heap.size+1+1+1+1,0,none⟩)] w' _;refine(TU h r (iM.o r (ς hr)) (by omega)).mono ?_;rintro e w2 ⟨rfl,h2⟩;refine⟨rfl,?_⟩;simp only[hs]
    exact h2)
 refine c.mono ?_;clear c;rintro e W1 ⟨rfl,d1⟩;rw[χ (ξ _)]at d1;obtain⟨a,tV,r1,r2,r3⟩:=d1.st.fin;obtain⟨A,M',_,t1,_,_,_,t1m⟩:=d1.sep;have F:=γ (show Sm M w tb tm (aI nd T L).1 (aI nd T L).2 (.returned (.slice a (aI nd T L).1.length tV)) W1 from⟨_,rfl,r2,r3,t1.mono (fun k hk _=>(t1m k hk).imp id (fun h=>by omega)),d1.st.kept⟩);clear d1 r2 r3 i1 i2 i3 i4 i5 hW0 t1;go_wp2;go_ret;exact F.o
theorem UK (na:Array Value)(nd:dG)(tb tm:Nat)(T:Tab)(M:Nat->Prop)(v:Value)(L:List Rec)(w:World)(hn:dR w na nd)(hr:Reads w 3 v (recs L))(hok: ∀r∈L,bF r)(hlen:L.length<=100000000)(ht:TabAt w M tb tm T):
 Calls prog 69 #[.agg na,.pointer (some ⟨tb,0,none⟩),v] w (Sm M w tb tm (aI nd T L).1 (aI nd T L).2):=by
 by_cases h6:nd.kind=6
 ·exact aae na nd tb tm T M v L w hn h6 hr hok hlen ht
 ·by_cases h7:nd.kind=7
  ·exact aad na nd tb tm T M v L w hn h7 hr hok hlen ht
  ·rw[AL ⟨h6,h7⟩]
   refine(Je na nd _ v L w hn ⟨h6,h7⟩ hr hok hlen ⟨_,rfl⟩).mono ?_;rintro e w' ⟨u,rfl,h1,h2,h3⟩;exact⟨u,rfl,h1,h2,(ht.pure h3).mono (fun k hk _=> .inl hk),h3.pure⟩
end
section
open Go Go.RowKit
attribute [local irreducible] dI
theorem oP.one {w:World}{va:Value}{A:List Rec}(ha:Reads w 3 va (recs A)):oP (w.alloc (.cells #[va] 60)) (.slice (some ⟨w.heap.size,0,none⟩) 1 1) [A]:=by
 refine⟨[va],rfl,Reads.lit w [va] 60 1 1 rfl (by unfold maxLen;omega),fun i u L h1 h2=>?_⟩
 match i,h1,h2 with
 |0,h1,h2=>cases h1;cases h2;exact ha.pure ((ε.refl η w).alloc _)
theorem adE {w:World}{base e size n g cap:Nat}{xs:List Value}(h:w.ownsRow base e size (.slice (some ⟨g,0,none⟩) n cap) n xs)(i:Nat)(x:Value)(hi:i<n*size):
 (w.setCell ⟨g,i,none⟩ x).ownsRow base e size (.slice (some ⟨g,0,none⟩) n cap) n (xs.set i x)/\(∃v0,w.cell? ⟨g,i,none⟩=some v0)/\w.frozen? ⟨g,i,none⟩=false:=by
 obtain⟨hl,h2⟩:=h
 rcases h2 with⟨e',_⟩|⟨g',cap',cur,e',hb,hg,hn,hc,hs,ht⟩
 ·cases e'
 ·injection e' with e1 e2 e3
  injection e1 with e1
  injection e1 with e1
  subst e1 e3;have hisz:i<cur.size:=(by rw[hs];exact Pe hi (Nat.mul_le_mul_right _ hn));refine⟨⟨by rw[length_set];exact hl,.inr ⟨g,cap,_,rfl,hb,aU hg i x,hn,hc,by simp[hs],?_⟩⟩,⟨cur[i],?_⟩,free_at hg i⟩
  ·rw[<-ht,Array.toList_setIfInBounds,take_set]
  ·exact ζ hg (by simp[hisz])
theorem aaT (L:List Rec): ∀(j:Nat)(r:Rec)(p:Int),L[j]?=some r->(recs L).set (j*3) (.int .i64 p)=recs (L.set j {r with pos:=p}):=by
 induction L with
 |nil=>intro j r p h;cases h
 |cons x L ih=>
  intro j r p h
  match j,h with
  |0,h=>cases h;rfl
  |j+1,h=>have:=ih j r p (by simpa using h);rw[show(j+1)*3=j*3+1+1+1 by omega];show(Value.int .i64 x.pos)::(Value.int .i64 x.key)::(Value.int .i64 x.val)::(recs L).set (j*3) (.int .i64 p)=_;rw[this];rfl
def wQ (b k:Nat)(L:List Rec):List Rec:=(L.take k).map (jc b)++L.drop k
theorem Sr (b k:Nat)(L:List Rec):(wQ b k L).length=L.length:=by unfold wQ;rw[ν,length_map,υ,length_drop];omega
theorem adn {b k:Nat}{L:List Rec}{r:Rec}(h:L[k]?=some r):(wQ b k L)[k]?=some r/\(wQ b k L).set k (jc b r)=wQ b (k+1) L:=by have hlt:=(μ.1 h).1;have hl:((L.take k).map (jc b)).length=k:=(by rw[length_map,υ];omega);have hd:L.drop k=r::L.drop (k+1):=(by obtain⟨_,rfl⟩:=μ.1 h;exact acn hlt);unfold wQ;rw[hd];refine⟨by rw[lG hl],?_⟩;rw[set_mid hl,ψ,h,aay];simp
theorem aaD (b:Nat)(L:List Rec):wQ b L.length L=L.map (jc b):=by unfold wQ;simp
theorem Xf (b:Nat)(L:List Rec):wQ b 0 L=L:=by unfold wQ;simp
theorem Tryz.info60: ∃i z,Tryz.prog.info? 60=some i/\i.zero=some z/\i.size=1/\i.bytes=24/\z.cells.size=1:=by have h:(prog.info? 60).map (fun i=>(i.zero,i.size,i.bytes))=some (some (.slice none 0 0),1,24):=(by kernel_rfl);obtain⟨i,h1,h2,h3,h4⟩:=info_parts h;exact⟨i,_,h1,h2,h3,h4,rfl⟩
def mG (w:World)(L:List Rec)(e:Ending)(w':World):Prop:= ∃v,e= .returned v/\Reads w' 3 v (recs L)/\(∀b,Value.blk v=some b->w.heap.size<=b)/\ε η w w'
theorem Wx (na:Array Value)(nd:dG)(v:Value)(LL:List (List Rec))(w:World)(hn:dR w na nd)(h8:nd.kind≠8)(hr:oP w v LL)(hb:LL.flatten.length<=1073741824):
 Calls prog 68 #[.agg na,v] w (mG w (jC nd.kind LL)):=by
 have hg:jC nd.kind LL=aO LL.flatten:=(by unfold jC;rw[if_neg h8]);rw[hg];obtain⟨uid,inv,p,cap,rfl,hx,hk0,hk1,nN⟩:=hn;have h8b:(nd.kind !=8)=true:=(by simp[h8]);have HR:=γ hr;clear hr hx h8 hg;go_enter func68,ntmps68;go_wp2_with fail;have k1:ε η w (w.alloc (.cells #[.string uid,.int .u8 nd.kind,inv,.int .u8 nd.x.op,.int .i64 nd.x.n,.slice p nd.x.args.length cap,.int .i64 nd.n] 42)):=δ.alloc _;have c:=merge_any v LL _ (HR.o.pure k1) hb;refine c.mono ?_;clear c;rintro e w2 ⟨u,rfl,r1,r2,k2⟩;have F:=γ (show mG w (aO LL.flatten) (.returned u) w2 from⟨u,rfl,r1,fun b hb=>ω k1.size (r2 b hb),k1.trans k2⟩);obtain⟨ua,uc,rfl,_,_⟩:=r1.len;clear r1 r2 k1 k2;go_wp2;go_ret;exact F.o
structure Ba (w:World)(base:Nat)(va:Value)(vs:List Value)(LL:List (List Rec))(k:Nat):Prop where
 own:w.ownsRow base 60 1 va k vs
 len:vs.length=k
 each: ∀(i:Nat)(u:Value)(L:List Rec),vs[i]?=some u->LL[i]?=some L->w.ownsRow base 68 3 u L.length (recs (L.map (jc i)))
theorem qp {w:World}{base base' e e' size size' n n':Nat}{v v':Value}{xs xs':List Value}(h:w.ownsRow base e size v n xs)(h':w.ownsRow base' e' size' v' n' xs')(hne:e≠e'): ∀k,v.ownBlock=some k->v'.ownBlock=some k->False:=by
 intro k hk hk'
 rcases h.2 with⟨e1,_⟩|⟨g,cap,cur,e1,_,hg,_⟩
 ·rw[e1]at hk;cases hk
 ·rcases h'.2 with⟨e2,_⟩|⟨g',cap',cur',e2,_,hg',_⟩
  ·rw[e2]at hk';cases hk'
  ·rw[e1]at hk;rw[e2]at hk'
   simp[Value.ownBlock]at hk hk';subst hk hk';rw[hg]at hg'
   injection hg' with hg'
   injection hg' with _ hg' _
   exact hne hg'
theorem Ba.kept {w w':World}{base:Nat}{va:Value}{vs:List Value}{LL:List (List Rec)}{k:Nat}{S:Nat->Prop}(h:Ba w base va vs LL k)(hk:ε S w w')(hS: ∀j,S j->w.heap.size<=j):Ba w' base va vs LL k:=by have no: ∀{e size n:Nat}{v:Value}{xs:List Value},w.ownsRow base e size v n xs-> ∀j,v.ownBlock=some j-> ¬S j:=fun ho j hj hs=>(by have:=(aY ho hj).2;have:=hS j hs;omega);exact⟨hk.owns h.own (no h.own),h.len,fun i u L h1 h2=>hk.owns (h.each i u L h1 h2) (no (h.each i u L h1 h2))⟩
theorem Ba.push {w:World}{base:Nat}{va u:Value}{vs:List Value}{LL:List (List Rec)}{L:List Rec}{k:Nat}(h:Ba w base va vs LL k)(hu:w.ownsRow base 68 3 u L.length (recs (L.map (jc k))))(hL:LL[k]?=some L)(hb:base<=w.heap.size)(hk:k<=1000):
 ∃iC w',(Builtin.append_ #[142,142] 142 #[va,.slice (some ⟨w.heap.size,0,none⟩) 1 1]).run prog (w.alloc (.cells #[u] 60))= .ok iC w'/\Ba w' base iC (vs++[u]) LL (k+1)/\ε (fun j=>base<=j) w w':=by
 obtain⟨i,z,hi,hz,hs,hby,hzs⟩:=Tryz.info60;have kx:ε η w (w.alloc (.cells #[u] 60)):=δ.alloc _;obtain⟨ua,uc,rfl⟩:=au hu;have own':=kx.owns h.own (fun _ _ h=>h);have hu':=kx.owns hu (fun _ _ h=>h);have hr:=Reads.lit w [.slice ua L.length uc] 60 1 1 rfl (by unfold maxLen;omega);obtain⟨v',n',w',g1,g2,g3,g4,g5⟩:=aZ (P:=prog) base 142 142 60 i z 1 24 underlying142 hi hz hs hby hzs (by omega) own' hr (by intro x hx;simp at hx;subst hx;rfl) (by simp;omega) (by unfold maxLen;simp;omega) (ω hb kx.size);have hn':n'=k+1:=(by simp at g3;omega);subst hn';refine⟨v',w',g1,⟨g2,by rw[ν,h.len];rfl,fun j y M h1 h2=>?_⟩,?_⟩
 ·have kg:ε (fun j=>va.ownBlock=some j) (w.alloc (.cells #[.slice ua L.length uc] 60)) w':=ε.grown g4 (fun j hj _=>hj)
  have hcase:(∃y',vs[j]?=some y'/\y'=y)\/(j=k/\y= .slice ua L.length uc):=by
   rw[getElem?_append]at h1;split at h1
   ·exact .inl ⟨y,h1,rfl⟩
   ·rename_i hlt
    rw[h.len]at h1 hlt;have:j=k:=(by have:=(μ.1 h1).1;simp at this;omega);subst this;simp at h1;exact .inr ⟨rfl,h1.symm⟩
  rcases hcase with⟨y',hy,rfl⟩|⟨rfl,rfl⟩
  ·have ho:=kx.owns (h.each j y' M hy h2) (fun _ _ h=>h)
   exact kg.owns ho (fun q hq hs=>qp ho own' (by omega) q hq hs)
  ·rw[hL]at h2
   cases h2;exact kg.owns hu' (fun q hq hs=>qp hu' own' (by omega) q hq hs)
 ·exact kx.pure.trans (ε.grown g4 (fun j hj _=>(aY h.own hj).1))
theorem Wv (na:Array Value)(nd:dG)(v:Value)(LL:List (List Rec))(w:World)(hn:dR w na nd)(h8:nd.kind=8)(hr:oP w v LL)(hb:LL.flatten.length<=1073741)(hll:LL.length<=1000):
 Calls prog 68 #[.agg na,v] w (mG w (jC nd.kind LL)):=by
 have hg:jC nd.kind LL=aO (jd 0 LL).flatten:=(by unfold jC;rw[if_pos h8]);rw[hg];obtain⟨uid,inv,p,cap,rfl,hx,hk0,hk1,nN⟩:=hn;obtain⟨vs0,hv0,hrd,hev⟩:=hr;obtain⟨pa,n0,jI,rfl,hc1,hc2,hc3,hcl⟩:=hrd;have hn0:n0=LL.length:=(by omega);subst hn0;unfold maxLen at hc2;have HE:=γ (θ hv0 (θ hcl hev));rw[h8];clear hx hg hv0 hc3 hcl hev hk0 hk1;go_enter func68,ntmps68;go_wp2_with fail;obtain⟨W0,hW0⟩:=acu (w.alloc (.cells #[.string uid,.int .u8 8,inv,.int .u8 nd.x.op,.int .i64 nd.x.n,.slice p nd.x.args.length cap,.int .i64 nd.n] 42));have k0:ε η w W0:=(by rw[<-hW0];exact δ.alloc _);rw[hW0];have K0:=γ k0;clear hW0 k0;go_loopg [5,17] LL.length (fun g va vi wr=> ∃(k:Nat)(vs:List Value),k<=LL.length/\vi= .int .i64 (k:Int)/\LL.length-k<=g/\Ba wr W0.heap.size va vs LL k/\ε η W0 wr)
 case atStart=>exact⟨0,[],by omega,rfl,by omega,⟨World.ownsRow_nil _ _ _ _,rfl,fun i u L h=>by cases h⟩,ε.refl _ _⟩
 case round=>
  obtain⟨k,vs,hkl,rfl,hgk,hall,hkp⟩:=hrel;obtain⟨wo,rfl⟩: ∃wo:World,wo=wr:=⟨_,rfl⟩;obtain⟨va,vac,rfl⟩:=au hall.own;by_cases hlt:k<LL.length
  ·obtain⟨L,hL⟩: ∃L,LL[k]?=some L:=⟨_,ι hlt⟩
   obtain⟨u,hu⟩: ∃u,vs0[k]?=some u:=⟨_,ι (by rw[HE.o.1];exact hlt)⟩;have qW:=HE.o.2.2 k u L hu hL;obtain⟨ua,uc,rfl,hu1,hu2⟩:=qW.len;obtain⟨pb,po,rfl,hpc⟩:=HE.o.2.1.resolve_left (fun h=>by rw[h]at hu;cases hu);have q0:=(K0.o.trans hkp).cell (p:=⟨pb,po+k,none⟩) id (hpc k _ hu);have hLb:L.length<=1073741:=(by have:L.length<=LL.flatten.length:=(by have hm:L∈LL:=ς hL;exact(sublist_flatten_of_mem hm).length_le);omega);have A:=γ (θ hgk (θ hall (θ hkp (θ hL qW))));clear hgk hall hkp hL hu qW hpc;go_wp2_with fail;have c:=KE (.slice ua L.length uc) (recs L) wo (A.o.2.2.2.2.pure (K0.o.trans A.o.2.2.1)) (rQ L) (by rw[aQ];omega);refine c.mono ?_;clear c;rintro e W1 ⟨v',n',rfl,g1,g2,k1⟩;rw[aQ]at g2;have hn':n'=L.length:=(by omega);subst hn';obtain⟨oa,oc,rfl⟩:=au g1;have hsz1:W0.heap.size<=wo.heap.size:=A.o.2.2.1.size;have Z:=γ (θ g1 k1);clear g1 g2 k1;go_wp2;go_loopg [26] L.length (fun g vi wr2=> ∃j:Nat,j<=L.length/\vi= .int .i64 (j:Int)/\L.length-j<=g/\wr2.ownsRow wo.heap.size 68 3 (.slice oa L.length oc) L.length (recs (wQ k j L))/\ε η wo wr2)
   case atStart=>exact⟨0,by omega,rfl,by omega,by rw[Xf];exact Z.o.1,Z.o.2⟩
   case round=>
    obtain⟨j,hjl,rfl,hgj,hown,hkj⟩:=hrel;by_cases hjt:j<L.length
    ·obtain⟨r,hr⟩: ∃r,L[j]?=some r:=⟨_,ι hjt⟩
     obtain⟨w1,w2⟩:=adn (b:=k) hr
     obtain⟨g0,hg0⟩: ∃g0,oa=some ⟨g0,0,none⟩:=by
      rcases hown.2 with⟨e1,e2⟩|⟨g,cap,cur,e1,_⟩
      ·omega
      ·injection e1 with e1;exact⟨g,e1⟩
     subst hg0;obtain⟨s1,⟨v0,s2⟩,s3⟩:=adE hown (j*3) (.int .i64 (wrap64 (wrap64 (8*r.pos)+(k:Int)))) (by omega);rw[aaT (wQ k j L) j r _ w1]at s1;rw[show({r with pos:=wrap64 (wrap64 (8*r.pos)+(k:Int))}:Rec)=jc k r from rfl,w2]at s1;have hrr:=Reads.aN hown;obtain⟨ra,tV,re,_,_,tN⟩:=hrr.recAt
     injection re with re1 re2 re3
     subst re1;obtain⟨b',off',e',tN⟩:=tN.resolve_left (fun h=>by have:=Sr k j L;rw[h]at this;simp at this;omega);cases e';obtain⟨t0,_,_⟩:=tN j r w1;rw[Nat.zero_add]at t0;have hgs:wo.heap.size<=g0:=(aY hown (b:=g0) rfl).1;have B:=γ (θ hgj (θ s1 (hkj.setCell (p:=⟨g0,j*3,none⟩) (.inr hgs) (.int .i64 (wrap64 (wrap64 (8*r.pos)+(k:Int)))))));clear s1 s2 hown hkj hgj w1 w2 hr tN hrr;go_wp2;go_roundg (L.length-(j+1))
     case rel=>exact⟨j+1,by omega,by go_num,ξ _,B.o.2.1,B.o.2.2⟩
     case measure=>have:=B.o.1;omega
    ·have hje:j=L.length:=by omega
     subst hje;rw[aaD]at hown;have acO:=A.o.2.1.kept hkj (fun _ h=>h.elim);obtain⟨iC,w',h1,h2,h3⟩:=acO.push (jV hown hsz1) A.o.2.2.2.1 (ω hsz1 hkj.size) (by omega);obtain⟨dS,vc2,rfl⟩:=au h2.own;have B:=γ (θ h1 (θ h2 ((A.o.2.2.1.trans hkj).new h3 (fun i hi hs=>by omega))));clear h1 h2 h3 acO hown hkj hgj;go_wp2_with (at_builtin;refine wpList_append_run rfl (.tmp 42) (.tmp 44) 142 rfl _ _ _ rfl rfl B.o.1 ?_);go_roundg (LL.length-(k+1))
     case rel=>exact⟨k+1,_,by omega,by go_num,ξ _,B.o.2.1,B.o.2.2⟩
     case measure=>have:=A.o.1;omega
  ·have hke:k=LL.length:=by omega
   subst hke;have hrows:oP wo (.slice va LL.length vac) (jd 0 LL):=(by refine⟨vs,by rw[xH];exact hall.len,Reads.aN hall.own,fun i y M h1 h2=>?_⟩;rw[BF,Nat.zero_add]at h2;obtain⟨M',hM,rfl⟩:=acg.1 h2;exact Reads.aN (hall.each i y M' h1 hM));have HR:=γ (θ hrows hkp);clear hrows hall hkp;go_wp2_with fail;have c:=merge_any _ (jd 0 LL) wo HR.o.1 (by rw[wY];omega);refine c.mono ?_;clear c;rintro e w2 ⟨u,rfl,r1,r2,k2⟩;have F:=γ (show mG w (aO (jd 0 LL).flatten) (.returned u) w2 from⟨u,rfl,r1,fun b hb=>ω (K0.o.trans HR.o.2).size (r2 b hb),(K0.o.trans HR.o.2).trans k2⟩);obtain⟨ra,rc,rfl,_,_⟩:=r1.len;clear r1 r2 k2;go_wp2;go_ret;exact F.o
theorem abJ (na:Array Value)(nd:dG)(v:Value)(LL:List (List Rec))(w:World)(hn:dR w na nd)(hr:oP w v LL)(hb:LL.flatten.length<=1073741)(hll:LL.length<=1000):
 Calls prog 68 #[.agg na,v] w (mG w (jC nd.kind LL)):=by
 by_cases h:nd.kind=8
 ·exact Wv na nd v LL w hn h hr hb hll
 ·exact Wx na nd v LL w hn h hr (by omega)
theorem Yl (w:World):(sizeOf 68).run prog w= .ok 3 w:=by kernel_rfl
theorem Dy {w:World}{a:Option Addr}{n cap k:Nat}{L:List Rec}(h:Reads w 3 (.slice a n cap) (recs L))(hk:k<=n):
 (Instr.slice 60 (.slice a n cap) none (some (.int .i64 (k:Int))) none).run prog w= .ok (.slice a k cap) w/\Reads w 3 (.slice a k cap) (recs (L.take k)):=by
 obtain⟨a',n',cap',e,h1,h2,h3,h4⟩:=h;cases e;have hnL:n=L.length:=(by rw[aQ]at h3;omega);refine⟨?_,?_⟩
 ·have hb:(Instr.sliceBounds true n cap none (some (.int .i64 (k:Int))) none).run prog w= .ok (0,k,cap) w:=by
   simp[Instr.sliceBounds,Instr.sliceBound,asIntOf];intro h;omega
  simp only[Instr.slice,Sem.run_bind,run_underlying underlying60,Result.andThen_ok,hb,Yl,Sem.run_pure]
  cases a with
  |none=>simp
  |some a=>simp[Addr.add]
 ·refine⟨a,k,cap,rfl,by omega,h2,by rw[aQ,υ];omega,?_⟩
  rcases h4 with h4|⟨b,off,rfl,h4⟩
  ·left
   have:L=[]:=(by have h5:=aQ L;rw[h4]at h5;exact τ (by simp at h5;omega));rw[this];simp[recs]
  ·right
   refine⟨b,off,rfl,fun i x hx=>h4 i x ?_⟩;have e:recs L=recs (L.take k)++recs (L.drop k):=(by rw[<-qZ,take_append_drop]);rw[e];exact Ω (μ.1 hx).1▸hx
theorem Ud {w:World}{a:Option Addr}{n cap k:Nat}{L:List Rec}(h:Reads w 3 (.slice a n cap) (recs L))(hk:k<=n):
 ∃v,(Instr.slice 60 (.slice a n cap) (some (.int .i64 (k:Int))) none none).run prog w= .ok v w/\Reads w 3 v (recs (L.drop k)):=by
 obtain⟨a',n',cap',e,h1,h2,h3,h4⟩:=h;cases e;have hnL:n=L.length:=(by rw[aQ]at h3;omega);refine⟨.slice (if cap=k then a else a.map (·.add (k*3))) (n-k) (cap-k),?_,?_⟩
 ·have hb:(Instr.sliceBounds true n cap (some (.int .i64 (k:Int))) none none).run prog w= .ok (k,n,cap) w:=by
   simp[Instr.sliceBounds,Instr.sliceBound,asIntOf];intro h;omega
  simp only[Instr.slice,Sem.run_bind,run_underlying underlying60,Result.andThen_ok,hb,Yl,Sem.run_pure]
 ·refine⟨_,n-k,cap-k,rfl,by omega,by omega,by rw[aQ,length_drop];omega,?_⟩
  rcases h4 with h4|⟨b,off,rfl,h4⟩
  ·left
   have:L=[]:=(by have h5:=aQ L;rw[h4]at h5;exact τ (by simp at h5;omega));rw[this];simp[recs]
  ·by_cases hc:cap=k
   ·left
    have:L.drop k=[]:=drop_eq_nil_of_le (by omega);rw[this];rfl
   ·right
    refine⟨b,off+k*3,by rw[if_neg hc];simp only[Option.map_some];rw[Addr.add_lit],fun i x hx=>?_⟩;rw[Nat.add_assoc];refine h4 (k*3+i) x ?_;have e:recs L=recs (L.take k)++recs (L.drop k):=(by rw[<-qZ,take_append_drop]);rw[e,Ψ (by rw[aQ,υ];omega)];rw[show k*3+i-(recs (L.take k)).length=i by rw[aQ,υ];omega];exact hx
theorem pF {w:World}{base n:Nat}{v u:Value}{L M:List Rec}(hown:w.ownsRow base 68 3 v n (recs L))(hr:Reads w 3 u (recs M))(hb:base<=w.heap.size)(hlen:L.length+M.length<=1073741824):
 ∃v' n' w',(Builtin.append_ #[60,60] 60 #[v,u]).run prog w= .ok v' w'/\w'.ownsRow base 68 3 v' n' (recs (L++M))/\n'=L.length+M.length/\w.grownBy w' v.ownBlock/\True:=by
 obtain⟨i,z,hi,hz,hs,hby,hzs⟩:=Tryz.info68;have hn:n=L.length:=(by have:=hown.1;rw[aQ]at this;omega);subst hn;obtain⟨v',n',w',g1,g2,g3,g4,g5⟩:=aZ (P:=prog) base 60 60 68 i z 3 24 underlying60 hi hz hs hby hzs (by omega) hown hr (rQ M) (by rw[aQ];omega) (by rw[aQ];unfold maxLen;omega) hb;rw[aQ]at g3;exact⟨v',n',w',g1,by rw[qZ];exact g2,by omega,g4,trivial⟩
theorem ε.Uk {w w':World}(h:w.grownBy w' (Value.slice none 0 0).ownBlock)(_:True):ε η w w':=ε.grown h (fun k hk _=>by cases hk)
theorem G7 {L:List Rec}{i k:Nat}{r:Rec}(hr:L[i]?=some r)(hd: ∀x∈(aO (L.take i)).drop k,r.pos<x.pos)(ht: ∀x∈(aO (L.take i)).take k,x.pos<=r.pos):
 ([]++(aO (L.take i)).take k++[r]++(aO (L.take i)).drop k)=aO (L.take (i+1)):=by
 have hs:=rH (L.take i);have hsame:=vJ (L.take i);generalize hM:aO (L.take i)=M at*;have hMM:M=M.take k++M.drop k:=(take_append_drop k M).symm;rw[hMM]at hs;refine Bc ?_ ?_
 ·rw[nil_append,append_assoc]
  refine Sorted.append hs.left ?_ ?_
  ·refine pairwise_cons.2 ⟨fun x hx=>by have:=hd x hx;omega,hs.right⟩
  ·intro a ha b hb
   rcases aax.1 hb with hb|hb
   ·simp at hb;subst hb;exact ht a ha
   ·exact hs.le a ha b hb
 ·rw[ψ,hr]
  have h1:Same (L.take i++[r]) (M++[r]):=hsame.append (Same.refl _);refine h1.trans ?_;rw[nil_append,append_assoc];have h2:Same (M.drop k++[r]) ([r]++M.drop k):=Same.comm (fun a ha b hb=>by simp at hb;subst hb;have:=hd a ha;omega);have h3:=(Same.refl (M.take k)).append h2;rw[<-append_assoc,take_append_drop]at h3;exact h3
end
section
open Go Go.RowKit Go.ChangeShapes Go.WideShapes Go.ChangeAt Go.Deep
theorem zV {n:Int}(h:(Lit.int .u8 n).wf=true):0<=n/\n<=255:=by simp[Lit.wf,IntKind.min,IntKind.max,IntKind.signed,IntKind.bits]at h;omega
section
variable {H:Type} {enc:TypeId×Value->H} {P:Program} {w:World}
theorem Tm {t e:TypeId}{k fuel n cap:Nat}{a:Option Addr}{x:DataW H×List MemPlace}(ht:P.underlying t=some (.slice e))(hk:P.cellsOf e=k)(hk0:0<k)
 (h:DataW.trod enc P w 0 (fun _=>true) true fuel t [.slice a n cap]=some x):
 ∃(f:Nat)(cs:List Value)(ds:List (DataW H)),fuel=f+1/\cs.length=n*k/\Reads w k (.slice a n cap) cs/\ds.length=n/\((∃rest,x.1= .slice ds rest)\/n=0)/\
  ∀i,i<n-> ∃d p,ds[i]?=some d/\DataW.trod enc P w 0 (fun _=>true) true f e ((cs.drop (i*k)).take k)=some (d,p):=by
 obtain⟨cs,hl,hr,_⟩:=tX ht hk hk0 h
 rcases DataW.trod_slice ht h with⟨h0,hx⟩|⟨a',len,cap',elems,rest,f,rfl,h0,rfl,hb,hle,hm,hel,hbind,_,_⟩
 ·injection h0 with h0 _
  injection h0 with h1 h2 h3
  subst h1 h2 h3
  cases fuel with
  |zero=>simp[DataW.trod]at h
  |succ f=>exact⟨f,cs,[],rfl,hl,hr,rfl,.inr rfl,fun i hi=>by omega⟩
 ·injection h0 with h0 _
  injection h0 with h1 h2 h3
  subst h1 h2 h3;refine⟨f,cs,elems.map (·.1),rfl,hl,hr,by simpa using hel,.inl ⟨_,rfl⟩,fun i hi=>?_⟩;have h1:=hbind i hi;rw[hk]at h1;obtain⟨y,hy⟩: ∃y,elems[i]?=some y:=⟨_,ι (by omega)⟩;rw[hy]at h1;obtain⟨ci,hci,hti⟩:=Option.bind_eq_some_iff.1 h1;obtain⟨_,hlen,hcell⟩:=World.cells?_some hci;refine⟨y.1,y.2,by rw[aav,hy];rfl,?_⟩;have e1:(cs.drop (i*k)).take k=ci:=by
   obtain⟨a2,n2,cap2,e,_,_,_,hcl⟩:=hr;cases e;have hin:i*k+k<=n*k:=by rw[<-Nat.succ_mul];exact Nat.mul_le_mul_right k hi
   rcases hcl with hcl|⟨b,off,e,hcl⟩
   ·rw[hcl]at hl
    simp at hl;omega
   ·cases e
    apply ext_getElem?;intro j;by_cases hj:j<k
    ·rw[aaA,if_pos hj,getElem?_drop]
     have h3:=hcell j hj;rw[add_add,Addr.add_lit]at h3;have h4:=hcl (i*k+j) (cs[i*k+j]'(by omega)) (by rw[ι]);rw[h4]at h3;rw[ι (by omega)];exact h3
    ·rw[aaA,if_neg hj,aak (by omega)]
  rw[e1];exact hti
end
section
variable {H:Type} {enc:TypeId×Value->H} {w:World}
theorem YO (fuel:Nat): ∀(cs:List Value)(x:DataW H×List MemPlace),DataW.trod enc prog w 0 (fun _=>true) true fuel 40 cs=some x-> ∃ex:Ex,aF w cs.toArray ex:=by
 induction fuel using Nat.strongRecOn with
 |ind fuel ih=>
  intro cs x h;obtain⟨xs,n,rfl,_,hl,hxl,hf⟩:=DataW.trod_struct underlying40 h;rw[show prog.cellsOf 40=3 by kernel_rfl]at hl
  match cs,hl with
  |[c0,c1,c2],_=>
   have g0:DataW.trod enc prog w 0 (fun _=>true) true n 5 ([c0,c1,c2].drop 0|>.take (prog.cellsOf 5))=xs[0]?:=hf 0 _ rfl;have g1:DataW.trod enc prog w 0 (fun _=>true) true n 2 ([c0,c1,c2].drop 1|>.take (prog.cellsOf 2))=xs[1]?:=hf 1 _ rfl;have g2:DataW.trod enc prog w 0 (fun _=>true) true n 38 ([c0,c1,c2].drop 2|>.take (prog.cellsOf 38))=xs[2]?:=hf 2 _ rfl;rw[show prog.cellsOf 5=1 by kernel_rfl]at g0;rw[show prog.cellsOf 2=1 by kernel_rfl]at g1;rw[show prog.cellsOf 38=1 by kernel_rfl]at g2;simp only[drop_succ_cons,drop_zero,take_succ_cons,take_zero]at g0 g1 g2
   match xs,hxl with
   |[x0,x1,x2],_=>
    obtain⟨z0,hz0,_,hw0⟩:=DataW.trod_int underlying5 g0;obtain⟨z1,hz1,_,hw1⟩:=DataW.trod_int underlying2 g1
    injection hz0 with hz0 _
    injection hz1 with hz1 _
    subst hz0 hz1
    obtain⟨sa,sn,sc,hs⟩: ∃sa sn sc,c2= .slice sa sn sc:=by
     rcases DataW.trod_slice underlying38 g2 with⟨e,_⟩|⟨_,_,_,_,_,_,_,e,_⟩
     ·injection e with e _;exact⟨_,_,_,e⟩
     ·injection e with e _;exact⟨_,_,_,e⟩
    subst hs;obtain⟨f,es,ds,rfl,hel,hre,_,_,agw⟩:=Tm (k:=3) underlying38 (by kernel_rfl) (by omega) g2;have each: ∀i,i<sn-> ∃ex:Ex,aF w ((es.drop (i*3)).take 3).toArray ex:=(by intro i hi;obtain⟨d,p,_,hd⟩:=agw i hi;exact ih f (by omega) _ _ hd);obtain⟨X,hX⟩:=choose_lt each;refine⟨.mk z0 z1 ((range sn).map X),.mk (zV hw0).1 (zV hw0).2 (.Ad hw1) hre (by simpa using hel) (fun i y hy=>?_)⟩;rw[aav]at hy;obtain⟨i',hi',rfl⟩:=acg.1 hy;obtain⟨hlt,rfl⟩:=μ.1 hi';simp only[length_range]at hlt;simpa using hX i hlt
end
end
section
open Go Go.RowKit
section
variable {P:Program} {w:World} {a:Option Addr} {n cap k i:Nat} {cs:List Value} {T E:TypeId}
theorem BO (hT:P.underlying T=some (.slice E))(hs:(sizeOf E).run P w= .ok k w)(hi:i<=n)(hc:n<=cap):(Instr.slice T (.slice a n cap) none (some (.int .i64 (i:Int))) none).run P w= .ok (.slice a i cap) w:=by
 have hb:(Instr.sliceBounds true n cap none (some (.int .i64 (i:Int))) none).run P w= .ok (0,i,cap) w:=(by simp[Instr.sliceBounds,Instr.sliceBound,asIntOf];intro h;omega);simp only[Instr.slice,Sem.run_bind,run_underlying hT,Result.andThen_ok,hb,hs,Sem.run_pure]
 cases a with
 |none=>simp
 |some a=>simp[Addr.add]
theorem Reads.take (h:Reads w k (.slice a n cap) cs)(hi:i<=n):Reads w k (.slice a i cap) (cs.take (i*k)):=by
 obtain⟨a',n',cap',e,h1,h2,h3,h4⟩:=h;cases e;refine⟨a,i,cap,rfl,by omega,h2,?_,?_⟩
 ·rw[υ,h3]
  exact Nat.min_eq_left (Nat.mul_le_mul_right k hi)
 ·rcases h4 with h4|⟨b,off,rfl,h4⟩
  ·left;rw[h4];simp
  ·right
   refine⟨b,off,rfl,fun j x hx=>h4 j x ?_⟩;rw[aaA]at hx;split at hx
   ·exact hx
   ·cases hx
theorem II (hT:P.underlying T=some (.slice E))(hs:(sizeOf E).run P w= .ok k w)(hi:i<=n)(hc:n<=cap):
 (Instr.slice T (.slice a n cap) (some (.int .i64 (i:Int))) none none).run P w= .ok (.slice (if cap=i then a else a.map (·.add (i*k))) (n-i) (cap-i)) w:=by
 have hb:(Instr.sliceBounds true n cap (some (.int .i64 (i:Int))) none none).run P w= .ok (i,n,cap) w:=(by simp[Instr.sliceBounds,Instr.sliceBound,asIntOf];intro h;omega);simp only[Instr.slice,Sem.run_bind,run_underlying hT,Result.andThen_ok,hb,hs,Sem.run_pure]
theorem Reads.drop (h:Reads w k (.slice a n cap) cs)(hi:i<=n):Reads w k (.slice (if cap=i then a else a.map (·.add (i*k))) (n-i) (cap-i)) (cs.drop (i*k)):=by
 obtain⟨a',n',cap',e,h1,h2,h3,h4⟩:=h;cases e;refine⟨_,n-i,cap-i,rfl,by omega,by omega,by rw[length_drop,h3,Nat.sub_mul],?_⟩
 rcases h4 with h4|⟨b,off,rfl,h4⟩
 ·left;rw[h4];simp
 ·by_cases hc:cap=i
  ·left
   exact drop_eq_nil_of_le (by rw[h3];exact Nat.mul_le_mul_right k (by omega))
  ·right
   refine⟨b,off+i*k,by rw[if_neg hc];simp only[Option.map_some];rw[Addr.add_lit],fun j x hx=>?_⟩;rw[Nat.add_assoc];rw[getElem?_drop]at hx;exact h4 (i*k+j) x hx
end
def strs (l:List ByteArray):List Value:=l.map Value.string
@[simp] theorem SA (l:List ByteArray):(strs l).length=l.length:=by simp[strs]
theorem Reads.Rx {w:World}{v:Value}{l:List ByteArray}(h:Reads w 1 v (strs l)): ∃a cap,v= .slice a l.length cap/\l.length<=cap/\cap<=maxLen/\(l=[]\/ ∃b off,a=some ⟨b,off,none⟩/\ ∀i x,l[i]?=some x->w.cell? ⟨b,off+i,none⟩=some (.string x)):=by
 obtain⟨a,n,cap,rfl,h1,h2,h3,h4⟩:=h;have hn:n=l.length:=(by simpa using h3.symm);subst hn;refine⟨a,cap,rfl,h1,h2,?_⟩
 rcases h4 with h4|⟨b,off,rfl,h4⟩
 ·left
  have:(strs l).length=0:=(by rw[h4];rfl);rw[SA]at this;exact τ this
 ·exact .inr ⟨b,off,rfl,fun i x hx=>h4 i _ (by simp[strs,hx])⟩
end
section
mutual
def yE:Ex->Nat
 | .mk _ _ l=>1+nY l
def nY:List Ex->Nat
 |[]=>0
 |x::l=>yE x+nY l
end
mutual
def jT:Ex->Nat->Nat
 | .mk _ _ l,most=>qo l 1 most
def qo:List Ex->Nat->Nat->Nat
 |[],n,_=>n
 |x::l,n,most=>if n<most then qo l (n+jT x (most-n)) most else n
end
mutual
def Di:Ex->Nat->Nat
 | .mk _ _ l,left=>if 0<left then jl l (left-1)else left
def jl:List Ex->Nat->Nat
 |[],left=>left
 |x::l,left=>jl l (Di x left)
end
mutual
theorem Cc: ∀(x:Ex)(most:Nat),1<=most->jT x most=min (yE x) most
 | .mk o n l,most,h=>by unfold jT yE;rw[JI l 1 most h]
theorem JI: ∀(l:List Ex)(n most:Nat),n<=most->qo l n most=min (n+nY l) most
 |[],n,most,h=>by unfold qo nY;omega
 |x::l,n,most,h=>by
  unfold qo nY;by_cases hn:n<most
  ·rw[if_pos hn,Cc x (most-n) (by omega),JI l _ most (by omega)]
   omega
  ·rw[if_neg hn];omega
end
mutual
theorem adW: ∀(x:Ex)(left:Nat),Di x left=left-yE x
 | .mk o n l,left=>by
   unfold Di yE;by_cases h:0<left
   ·rw[if_pos h,DU l];omega
   ·rw[if_neg h];omega
theorem DU: ∀(l:List Ex)(left:Nat),jl l left=left-nY l
 |[],left=>by unfold jl nY;omega
 |x::l,left=>by unfold jl nY;rw[DU l,adW x];omega
end
theorem Td (xs:List Ex):1000<1001-jl xs 1001↔1000<(xs.map fun x=>jT x 1001).sum:=by
 rw[DU];have h: ∀xs:List Ex,min (nY xs) 1001=min (xs.map fun x=>jT x 1001).sum 1001:=by
  intro xs
  induction xs with
  |nil=>simp[nY]
  |cons x l ih=>unfold nY;rw[Θ,sum_cons,Cc x 1001 (by omega)];omega
 have:=h xs;omega
def jW (k:Int):Nat:=if k=1 then 0 else if k=8 then 2 else 1
def jB (k:Int):Nat:=if k=1 then 0 else if k=8 then 3 else 1
def wH (k:Int):Int:=if k=3 then 2 else if k=2\/k=4\/k=5\/k=6 then 1 else 0
def uh (k:Int):Bool:=k==6
def jN (k:Int):Int:=if k=7 then 16 else 0
def Ag (name:Bool)(k:Int)(ins:Nat)(good:Bool)(none:Bool)(ty:Bool->Int->Bool)(n:Int):Bool:=
 if name=false\/k<1\/9<k then false
 else if ins<jW k\/jB k<ins\/good=false then false
 else if n<min (jN k) 1\/jN k<n then false
 else if wH k=0 then none else ty (uh k) (wH k)
def fZ (name:Bool)(k:Int)(ins:Nat)(good:Bool)(none:Bool)(ty:Bool->Int->Bool)(n:Int):Bool:=
 if name=false then false
 else if good=false then false
 else if k=1 then decide (ins=0)&&none&&decide (n=0)
 else if k=2\/k=4\/k=5 then decide (ins=1)&&ty false 1&&decide (n=0)
 else if k=3 then decide (ins=1)&&ty false 2&&decide (n=0)
 else if k=6 then decide (ins=1)&&ty true 1&&decide (n=0)
 else if k=7 then decide (ins=1)&&none&&decide (1<=n/\n<=16)
 else if k=8 then decide (ins=2\/ins=3)&&none&&decide (n=0)
 else if k=9 then decide (ins=1)&&none&&decide (n=0)
 else false
theorem YV (name:Bool)(k:Int)(ins:Nat)(good:Bool)(none:Bool)(ty:Bool->Int->Bool)(n:Int):Ag name k ins good none ty n=fZ name k ins good none ty n:=by
 unfold Ag fZ;cases name
 ·simp
 cases good
 ·simp
 by_cases h:k<1\/9<k
 ·rw[if_pos (.inr h),if_neg (by decide),if_neg (by decide),if_neg (by omega),if_neg (by omega),if_neg (by omega),if_neg (by omega),if_neg (by omega),if_neg (by omega),if_neg (by omega)]
 ·rw[if_neg (by simp;omega)]
  have hk:k=1\/k=2\/k=3\/k=4\/k=5\/k=6\/k=7\/k=8\/k=9:=(by omega);have key: ∀(L M:Nat)(N:Int)(t:Bool)(p q:Prop)[Decidable p][Decidable q],((L<=ins/\ins<=M)↔p)->((min N 1<=n/\n<=N)↔q)->
   (if ins<L\/M<ins\/true=false then false else if n<min N 1\/N<n then false else t)=(decide p&&t&&decide q):=by
   intro L M N t p q _ _ hp hq;by_cases h1:L<=ins/\ins<=M
   ·rw[if_neg (by simp;omega),decide_eq_true (hp.1 h1)]
    by_cases h2:min N 1<=n/\n<=N
    ·rw[if_neg (by omega),decide_eq_true (hq.1 h2)];simp
    ·rw[if_pos (by omega),decide_eq_false (fun h=>h2 (hq.2 h))];simp
   ·rw[if_pos (by omega),decide_eq_false (fun h=>h1 (hp.2 h))];simp
  rcases hk with rfl|rfl|rfl|rfl|rfl|rfl|rfl|rfl|rfl
  ·exact key 0 0 0 none (ins=0) (n=0) (by omega) (by omega)
  ·exact key 1 1 0 (ty false 1) (ins=1) (n=0) (by omega) (by omega)
  ·exact key 1 1 0 (ty false 2) (ins=1) (n=0) (by omega) (by omega)
  ·exact key 1 1 0 (ty false 1) (ins=1) (n=0) (by omega) (by omega)
  ·exact key 1 1 0 (ty false 1) (ins=1) (n=0) (by omega) (by omega)
  ·exact key 1 1 0 (ty true 1) (ins=1) (n=0) (by omega) (by omega)
  ·exact key 1 1 16 none (ins=1) (1<=n/\n<=16) (by omega) (by omega)
  ·exact key 2 3 0 none (ins=2\/ins=3) (n=0) (by omega) (by omega)
  ·exact key 1 1 0 none (ins=1) (n=0) (by omega) (by omega)
end
section
open Go Go.RowKit
def runesFrom (s:ByteArray):Nat->Nat->List (Nat×Nat)
 |0,_=>[]
 |f+1,i=>if i<s.size then(i,(Utf8.decode s i).1)::runesFrom s f (i+(Utf8.decode s i).2)else[]
def runes (s:ByteArray):List (Nat×Nat):=runesFrom s s.size 0
theorem TQ (s:ByteArray)(pos:Nat)(h:pos<s.size):1<=(Utf8.decode s pos).2:=by
 by_cases ha:(s[pos]'h).toNat<128
 ·rw[decode_ascii s pos h ha];exact ξ _
 ·exact(decode_high s pos h (by omega)).2
theorem runesFrom_length (s:ByteArray): ∀f i,(runesFrom s f i).length<=f
 |0,_=>Nat.zero_le _
 |f+1,i=>by
  unfold runesFrom;split
  ·rw[φ];have:=runesFrom_length s f (i+(Utf8.decode s i).2);omega
  ·exact Nat.zero_le _
theorem jg (s:ByteArray):(runes s).length<=s.size:=runesFrom_length s _ _
theorem BN (s:ByteArray): ∀f i p,p∈runesFrom s f i->i<=p.1/\p.1<s.size/\p.2<=2147483647
 |0,_,_,h=>by cases h
 |f+1,i,p,h=>by
  unfold runesFrom at h;split at h
  ·rename_i hi
   rcases aci.1 h with rfl|h
   ·exact⟨ξ _,hi,decode_le s i⟩
   ·have:=BN s f _ p h
    exact⟨by omega,this.2⟩
  ·cases h
theorem Fb {s:ByteArray}{p:Nat×Nat}(h:p∈runes s):p.1<s.size/\p.2<=2147483647:=(BN s _ _ p h).2
def nC (w:World)(r:Nat)(s:ByteArray)(left:List (Nat×Nat)):Prop:=
 ∃pos f,w.heap[r]?=some (.stringIter s pos)/\s.size<=pos+f/\runesFrom s f pos=left
theorem nC.kept {w w':World}{r:Nat}{s:ByteArray}{left:List (Nat×Nat)}{S:Nat->Prop}(h:nC w r s left)(hk:ε S w w')(hr: ¬S r):nC w' r s left:=by obtain⟨pos,f,h1,h2,h3⟩:=h;exact⟨pos,f,hk.heap h1 hr,h2,h3⟩
theorem nC.kK {w:World}{r:Nat}{s:ByteArray}{left:List (Nat×Nat)}(h:nC w r s left): ∀c E f,w.heap[r]?≠some (.cells c E f):=by obtain⟨pos,f,h,_⟩:=h;intro c E g e;rw[h]at e;cases e
section
variable {P:Program}
theorem kG (w:World)(t:TypeId)(s:ByteArray)(h:P.underlying t=some .string):
 ∃w',(Instr.range t (.string s)).run P w= .ok (.pointer (some ⟨w.heap.size,0,none⟩)) w'/\nC w' w.heap.size s (runes s)/\ε η w w'/\w'.heap.size=w.heap.size+1:=
 ⟨w.iter s 0,run_range_string w t s h,⟨0,s.size,World.iter_heap w s 0,by omega,rfl⟩,δ.alloc _,by simp[World.iter]⟩
theorem nC.next {w:World}{r:Nat}{s:ByteArray}{left:List (Nat×Nat)}(h:nC w r s left)(ty:TypeId):
 (left=[]/\(Instr.next (.pointer (some ⟨r,0,none⟩)) true ty).run P w= .ok (.tuple #[.bool false]) w)\/
 ∃p left' w',left=p::left'/\(Instr.next (.pointer (some ⟨r,0,none⟩)) true ty).run P w= .ok (.tuple #[.bool true,.int .i64 p.1,.int .i32 p.2]) w'/\nC w' r s left'/\ε (one r) w w'/\w'.heap.size=w.heap.size:=by
 obtain⟨pos,f,h1,h2,rfl⟩:=h;have hr:r<w.heap.size:=(κ.1 h1).1;by_cases hp:pos<s.size
 ·right
  cases f with
  |zero=>omega
  |succ f=>
   have hw:=TQ s pos hp;refine⟨(pos,(Utf8.decode s pos).1),runesFrom s f (pos+(Utf8.decode s pos).2),{w with heap:=w.heap.setIfInBounds r (.stringIter s (pos+(Utf8.decode s pos).2))},?_,?_,⟨_,f,?_,by omega,rfl⟩,⟨rfl,rfl,rfl,by simp,fun k _ hk=>?_⟩,by simp⟩
   ·rw[runesFrom,if_pos hp]
   ·simp[Instr.next,getObj,setObj,Sem.run,h1,hp,goInt]
   ·simp[hr]
   ·rw[vK _ (fun e=>hk e.symm)]
 ·left
  refine⟨?_,?_⟩
  ·cases f with
   |zero=>rfl
   |succ f=>rw[runesFrom,if_neg hp]
  ·simp[Instr.next,getObj,Sem.run,h1,hp]
end
end
