/- script.Parse of a text whose lines tell a job. -/
import Derived.Test.YtglbkodmmogomaaGreatDoorS14
set_option linter.unusedVariables false
set_option linter.unusedSimpArgs false
set_option maxHeartbeats 4000000
set_option maxRecDepth 100000
namespace Go.Proofs.YtglbkodmmogomaaGreatDoor
open List Go.Proofs.Tryz
section
open Go Go.RowKit
attribute [local irreducible] dI iO H2.eX
def uf (s:ByteArray):List ByteArray:=Lib.splitB ⟨#[10]⟩ 0 (Lib.countB s ⟨#[10]⟩) s
inductive wO:List ByteArray->List JN->List JN->Prop
 |nil (L:List JN):wO [] L L
 |cons {s:ByteArray} {ls:List ByteArray} {L L':List JN} {uid kw:ByteArray} {ins:List ByteArray} {k:Nat} {x:Option Ex}:su s=false->vZ L s uid kw ins k x->uid.size<=1000->ins.length<=1000->
   wO ls (L++[nV L uid ins k x]) L'->wO (s::ls) L L'
structure Io (s:ByteArray)(par:Int)(nodes:List JN):Prop where
 size:s.size<=65536
 first: ∃s1 ls ah bh d,uf s=s1::ls/\su s1=false/\s1.size<=1000/\jU s1=(ah,bh,false)/\zB ah=some [IL,d]/\PW d 1=some par/\wO ls [] nodes
 p64:aJ par
 few:nodes.length<=1000
 ok:iD ⟨par,nodes⟩=true
theorem wO.len {ls:List ByteArray}{L L':List JN}(h:wO ls L L'):L'.length=L.length+ls.length:=by
 induction h with
 |nil L=>simp
 |cons _ _ _ _ _ ih=>rw[ih];simp;omega
theorem abh (s uid kw:ByteArray)(ins:List ByteArray)(k:Nat)(x:Option Ex)(J lo:Nat)(par:Int)(L:List JN)(v:Value)(D:Nat->Prop)(w:World)(hl:vZ L s uid kw ins k x)(h:mQ w J lo par L v D)(hu:uid.size<=maxLen)(hil:ins.length<=1000)(hnl:L.length<=1000):
 Calls prog 124 #[.pointer (some ⟨J,0,none⟩),.string s,.bool false] w (A8 w J lo par (L++[nV L uid ins k x]) v D):=by
 cases x with
 |none=>exact Y3 s uid kw ins k J lo par L w hl v D h hu hil hnl
 |some y=>exact Y2 s uid kw ins k y J lo par L w hl v D h hu hil hnl
theorem adD {w:World}{base n:Nat}{va:Value}{cs:List Value}(h:w.ownsRow base 3 1 va n cs)(x:Int)(hb:base<=w.heap.size)(hn:n<=100000):
 ∃iC w',(Builtin.append_ #[37,37] 37 #[va,.slice (some ⟨w.heap.size,0,none⟩) 1 1]).run prog (w.alloc (.cells #[.int .i64 x] 3))= .ok iC w'/\w'.ownsRow base 3 1 iC (n+1) (cs++[.int .i64 x])/\
  ε (fun q=>va.ownBlock=some q) w w'/\ ∀q,iC.ownBlock=some q->va.ownBlock=some q\/w.heap.size<=q:=by
 have h3:(prog.info? 3).map (fun i=>(i.zero,i.size,i.bytes))=some (some (.int .i64 0),1,8):=(by kernel_rfl);obtain⟨i,hi,hzz⟩:=acg.1 h3;simp only[Prod.mk.injEq]at hzz;obtain⟨hz,hs,hby⟩:=hzz;have kA:ε η w (w.alloc (.cells #[.int .i64 x] 3)):=δ.alloc _;have hr:=Reads.lit w [.int .i64 x] 3 1 1 rfl (by unfold maxLen;omega);have hA:=kA.owns h (fun _ _ h=>h);have hcl:cs.length=n*1:=h.1;have h1: ∀y∈[Value.int .i64 x],y.oneCell'=true:=(by intro y hy;rw[ach.1 hy];rfl);obtain⟨v',n',w',b1,b2,b3,b4,_⟩:=aZ (P:=prog) base 37 37 3 i _ 1 8 underlying37 hi hz hs hby rfl (by omega) hA hr h1 (by simp;omega) (by simp;unfold maxLen;omega) (by have:=kA.size;omega);have hn':n'=n+1:=(by simpa using b3);subst hn';refine⟨v',w',b1,b2,kA.pure.trans (ε.grown b4 (fun k hk _=>hk)),fun q hq=>?_⟩;have hsz:(w.alloc (.cells #[.int .i64 x] 3)).heap.size=w.heap.size+1:=(by simp);have hnews: ∀j v,[Value.int .i64 x][j]?=some v->(w.alloc (.cells #[.int .i64 x] 3)).cell? ((⟨w.heap.size,0,none⟩:Addr).add j)=some v:=fun j v hj=>by rw[Addr.add_lit,World.cell?_alloc_new];simpa using hj
 rcases h.2 with⟨rfl,rfl⟩|⟨g,cap,cur,rfl,hbg,hg,hnc,hcm,hcs,htake⟩
 ·have hr:=run_append_nil (P:=prog) (w.alloc (.cells #[.int .i64 x] 3)) 37 37 3 i _ underlying37 hi hz ⟨w.heap.size,0,none⟩ 1 1 [Value.int .i64 x] (by rw[hs];rfl) hnews (by omega) (by omega) (by omega)
  rw[b1]at hr
  injection hr with e1 e2
  rw[e1]at hq;right;have:(w.alloc (.cells #[.int .i64 x] 3)).heap.size=q:=(by simpa[Value.ownBlock]using hq);omega
 ·by_cases hroom:n+1<=cap
  ·obtain⟨w2,hr,_⟩:=run_append_fits (P:=prog) (w.alloc (.cells #[.int .i64 x] 3)) base 37 37 3 i 1 underlying37 hi hs g n cap cs hA ⟨w.heap.size,0,none⟩ 1 1 [Value.int .i64 x] rfl hnews h1 hroom
   rw[b1]at hr
   injection hr with e1 e2
   rw[e1]at hq;left;exact hq
  ·have holds: ∀j u,cs[j]?=some u->(w.alloc (.cells #[.int .i64 x] 3)).cell? ((⟨g,0,none⟩:Addr).add j)=some u:=hA.cells (g:=g) rfl
   have hr:=run_append_grow (P:=prog) (w.alloc (.cells #[.int .i64 x] 3)) 37 37 3 i _ underlying37 hi hz ⟨g,0,none⟩ n cap cs (by rw[hs];exact hcl) holds ⟨w.heap.size,0,none⟩ 1 1 [Value.int .i64 x] (by rw[hs];rfl) hnews (by omega) (by omega) (growslice_fits (by omega) (by rw[hby];omega));rw[b1]at hr
   injection hr with e1 e2
   rw[e1]at hq;right;have:(w.alloc (.cells #[.int .i64 x] 3)).heap.size=q:=(by simpa[Value.ownBlock]using hq);omega
def aar (w:World)(par:Int)(nodes:List JN)(e:Ending)(w':World):Prop:= ∃v J lo D,e= .returned (.tuple #[.agg #[.int .i64 par,v],.int .i64 0,.int .i64 0])/\mQ w' J lo par nodes v D/\w.heap.size<J/\ε η w w'
structure ab2 (w1 wr:World)(J lo:Nat)(par:Int)(lines:List ByteArray)(nodes:List JN)(i:Nat)(v6 v7:Value):Prop where
 st: ∃(v:Value)(D:Nat->Prop)(L:List JN)(na:Nat)(xs:List Value)(p:Int),mQ wr J lo p L v D/\wr.ownsRow lo 3 1 v6 na xs/\na<=i/\(∀b,v6.ownBlock=some b-> ¬D b)/\
  ((i=0/\v7= .bool true/\p=0/\L=[])\/(1<=i/\v7= .bool false/\p=par/\wO (lines.drop i) L nodes))
 kept:ε (fun q=>q=J\/lo<=q) w1 wr
theorem parse_any (s:ByteArray)(par:Int)(nodes:List JN)(w:World)(hP:Io s par nodes)(m:Int)(hm:w.cell? ⟨0,0,none⟩=some (.int .i64 m)):Calls prog 84 #[.string s] w (aar w par nodes):=by
 obtain⟨hsz,⟨s1,ls,ah,bh,d,Zy,hs1,hsz1,hp1,hw1,hn1,hls⟩,h64,hfew,hok⟩:=hP;have hm0:0<w.heap.size:=(by have:=block_lt_of_cell hm;simpa using this);obtain⟨W0,hW0⟩:=acu ((w.alloc (.cells #[.int .i64 0,.slice none 0 0] 24)).alloc (.cells #[.int .i64 0,.slice none 0 0] 24));have k0:ε η w W0:=(by rw[<-hW0];exact(δ.alloc _).alloc _);have t0:W0.heap[w.heap.size]?=some (.cells #[.int .i64 0,.slice none 0 0] 24 (0,0)):=(by rw[<-hW0];exact((ε.refl η _).alloc _).heap (heap_alloc_new w _) id);have j0:W0.heap[w.heap.size+1]?=some (.cells #[.int .i64 0,.slice none 0 0] 24 (0,0)):=(by rw[<-hW0];have:=heap_alloc_new (w.alloc (.cells #[.int .i64 0,.slice none 0 0] 24)) (.cells #[.int .i64 0,.slice none 0 0] 24);rwa[World.size_alloc]at this);have hsz0:W0.heap.size=w.heap.size+2:=(by rw[<-hW0];simp);have hcl:=Lib.countB_le ⟨#[10]⟩ (by decide) s.size s (ξ _);have hall:=Lib.splitB_all ⟨#[10]⟩ (by decide) 0 _ s rfl;have cs:Calls prog 122 #[.string s,.string ⟨#[10]⟩] W0 fun e w'=>e= .returned (.slice (some ⟨W0.heap.size,0,none⟩) (Lib.countB s ⟨#[10]⟩+1) (Lib.countB s ⟨#[10]⟩+1))/\w'=W0.alloc (.cells ((uf s).map Value.string).toArray 9):=
  Any.strings_Split splitL (by kernel_rfl) s ⟨#[10]⟩ m W0 (by omega) (k0.cell (p:=⟨0,0,none⟩) id hm) (by decide)
 have hll:(uf s).length=Lib.countB s ⟨#[10]⟩+1:=hall;obtain⟨n,hn⟩:=acu (Lib.countB s ⟨#[10]⟩+1);rw[hn,hsz0]at cs;rw[hn]at hll;have hn2:n<=65537:=(by omega);have HH:=γ (θ k0 (θ t0 (θ j0 (θ hsz0 (θ hll (θ Zy (θ hs1 (θ hsz1 (θ hp1 (θ hw1 (θ hn1 (θ hls (θ h64 (θ hfew hok))))))))))))));have HW:=γ hW0;have hbig: ¬((65536:Int)<(s.size:Int)):=(by omega);clear hcl hall hn hsz Zy hs1 hsz1 hp1 hw1 hn1 hls h64 hfew hok k0 t0 j0 hll hW0 hm hsz0;go_enter func84,ntmps84;go_wp2_with fail;rw[HW.o];refine cs.mono ?_;clear cs;rintro e W1 ⟨rfl,hW1⟩;have k1:ε η W0 W1:=(by rw[hW1];exact δ.alloc _);have l1:W1.heap[w.heap.size+2]?=some (.cells ((uf s).map Value.string).toArray 9 (0,0)):=(by rw[hW1,<-HH.o.2.2.2.1];exact heap_alloc_new _ _);have hsz1:W1.heap.size=w.heap.size+3:=(by rw[hW1,World.size_alloc,HH.o.2.2.2.1]);have st1:mQ W1 (w.heap.size+1) (w.heap.size+3) 0 [] (.slice none 0 0) η:=⟨k1.heap HH.o.2.2.1 id,⟨[],World.ownsRow_nil _ _ _ _,fun i d hd=>by simp at hd⟩,fun k hk=>hk.elim,by omega,by omega,fF⟩;have H1:=γ (θ (HH.o.1.trans k1) (θ l1 (θ (k1.heap HH.o.2.1 id) st1)));clear hW1 k1 l1 st1;go_wp2;go_loopg [6,7,20] n (fun g v6 v7 vi wr=> ∃i:Nat,i<=n/\vi= .int .i64 (i:Int)/\n-i<=g/\ab2 W1 wr (w.heap.size+1) (w.heap.size+3) par (uf s) nodes i v6 v7)
 case atStart=>exact⟨0,by omega,rfl,by omega,⟨_,_,_,0,[],0,H1.o.2.2.2,World.ownsRow_nil _ _ _ _,ξ _,(fun b hb=>by cases hb),.inl ⟨rfl,rfl,rfl,rfl⟩⟩,ε.refl _ _⟩
 case round=>
  obtain⟨i,hin,rfl,hg,hst⟩:=hrel;obtain⟨wo,rfl⟩: ∃wo:World,wo=wr:=⟨_,rfl⟩;obtain⟨⟨v,D,L,na,xs,p,hj,hown,hna,hD,hcase⟩,hkp⟩:=hst;obtain⟨aa,ac,rfl⟩:=au hown;have Hf:=hkp.heap H1.o.2.1 (by omega);by_cases hlt:i<n
  ·obtain⟨t,ht⟩: ∃t,(uf s)[i]?=some t:=⟨_,ι (by rw[HH.o.2.2.2.2.1];exact hlt)⟩
   have lc:=ζ Hf (j:=i) (v:= .string t) (by rw[aau,aav,ht];rfl);have hbl:w.heap.size+2<wo.heap.size:=(κ.1 Hf).1;have hiw:IntKind.i64.wrap ((i:Int)+1)=((i+1:Nat):Int):=wrapN (n:=i+1) (by omega)
   rcases hcase with⟨rfl,rfl,rfl,rfl⟩|⟨hi1,rfl,rfl,hln⟩
   ·obtain⟨s1,ls,ah,bh,d,hA⟩: ∃s1 ls ah bh d,uf s=s1::ls/\su s1=false/\s1.size<=1000/\jU s1=(ah,bh,false)/\zB ah=some [IL,d]/\PW d 1=some par/\wO ls [] nodes:=⟨s1,ls,ah,bh,d,HH.o.2.2.2.2.2.1,HH.o.2.2.2.2.2.2.1,HH.o.2.2.2.2.2.2.2.1,HH.o.2.2.2.2.2.2.2.2.1,HH.o.2.2.2.2.2.2.2.2.2.1,HH.o.2.2.2.2.2.2.2.2.2.2.1,HH.o.2.2.2.2.2.2.2.2.2.2.2.1⟩
    obtain⟨hl0,hl1,hl2,hl3,hl4,hl5,hl6⟩:=hA;have hts:t=s1:=(by rw[hl0]at ht;cases ht;rfl);rw[hts]at lc;have cs1:=Gi s1 (by unfold maxLen;omega) wo;rw[hl1]at cs1;have G:=γ (θ hg (θ hj (θ hown (θ hD (θ hkp (θ hl0 hl6))))));have LL:=γ (θ hl3 (θ hl4 hl5));clear hg hj hown hD hkp hl0 hl6 ht Hf hl3 hl4 hl5 hl1;go_wp2_with fail;refine cs1.mono ?_;clear cs1;rintro e w3 ⟨rfl,k3⟩;have cl:=Y4 s1 ah bh d par (w.heap.size+1) (w.heap.size+3) w3 LL.o.1 LL.o.2.1 LL.o.2.2 HH.o.2.2.2.2.2.2.2.2.2.2.2.2.1 (by unfold maxLen;omega) v D (G.o.2.1.pure k3);have K3:=γ k3;clear k3 lc;go_wp2_with fail;refine cl.mono ?_;clear cl;rintro e w4 ⟨rfl,v',D',CV,hv4,hD4,k4⟩
    have Z:=γ (show ab2 W1 w4 (w.heap.size+1) (w.heap.size+3) par (uf s) nodes 1 (.slice aa na ac) (.bool false) by
     obtain⟨cs0,h2,_⟩:=G.o.2.1.row;have hown3:=K3.o.owns G.o.2.2.1 (fun _ _ h=>h);refine⟨⟨v',D',[],na,xs,par,CV,k4.owns hown3 (fun q hq hs=>?_),by omega,fun q hq hd=>?_,.inr ⟨ξ _,rfl,rfl,?_⟩⟩,(G.o.2.2.2.2.1.new K3.o (fun _ _ h=>h.elim)).new k4 (fun i hi hs=>?_)⟩
     ·rcases hs with hs|hs
      ·have:=(G.o.2.2.1.lt q hq).1;omega
      ·exact qp h2 G.o.2.2.1 (by decide) q hs hq
     ·rcases hD4 q hd with h|h
      ·exact G.o.2.2.2.1 q hq h
      ·have:=(hown3.lt q hq).2;omega
     ·rw[G.o.2.2.2.2.2.1];exact G.o.2.2.2.2.2.2
     ·rcases hs with hs|hs
      ·exact .inl hs
      ·exact .inr (h2.lt i hs).1)
    clear CV hv4 hD4 k4;go_wp2;go_roundg (n-1)
    case rel=>exact⟨1,by omega,by go_num,ξ _,Z.o⟩
    case measure=>have:=G.o.1;omega
   ·rw[FU ht]at hln
    cases hln with
    | @cons _ _ _ _ uid kw ins k x aeM hlN hus aiF hrest=>
    have cs1:=Gi t (by have:=hlN.size;unfold maxLen;omega) wo;rw[aeM]at cs1;have hLl:L.length<=1000:=(by have h1:=hrest.len;have h2:=HH.o.2.2.2.2.2.2.2.2.2.2.2.2.2.1;rw[ν]at h1;omega);have G:=γ (θ hg (θ hj (θ hown (θ hD (θ hkp (θ hlN hrest))))));clear hg hj hown hD hkp hlN hrest ht Hf aeM;go_wp2_with fail;refine cs1.mono ?_;clear cs1;rintro e w3 ⟨rfl,k3⟩;have cl:=abh t uid kw ins k x (w.heap.size+1) (w.heap.size+3) p L v D w3 G.o.2.2.2.2.2.1 (G.o.2.1.pure k3) (by unfold maxLen;omega) aiF hLl;have K3:=γ k3;clear k3 lc;go_wp2_with fail;refine cl.mono ?_;clear cl;rintro e w4 ⟨rfl,v',D',CV,hv4,hD4,k4⟩;obtain⟨cs0,h2,_⟩:=G.o.2.1.row;have hown3:=K3.o.owns G.o.2.2.1 (fun _ _ h=>h)
    have hown4:=k4.owns hown3 (fun q hq hs=>by
     rcases hs with hs|hs
     ·have:=(G.o.2.2.1.lt q hq).1;omega
     ·exact qp h2 G.o.2.2.1 (by decide) q hs hq)
    have abD: ∀q,(Value.slice aa na ac).ownBlock=some q-> ¬D' q:=fun q hq hd=>by
     rcases hD4 q hd with h|h
     ·exact G.o.2.2.2.1 q hq h
     ·have:=(hown3.lt q hq).2;omega
    obtain⟨v6,w5,g1,g2,g3,g4⟩:=adD hown4 ((i:Int)+1) CV.le (by omega);obtain⟨cs4,h24,_⟩:=CV.row;have hj5:mQ w5 (w.heap.size+1) (w.heap.size+3) p (L++[nV L uid ins k x]) v' D':=CV.iT g3 (fun q hq=>⟨by have:=(hown4.lt q hq).1;omega,fun h=>qp h24 hown4 (by decide) q h hq,abD q hq⟩);obtain⟨a5,c5,rfl⟩:=au g2
    have Z:=γ (θ g1 (show ab2 W1 w5 (w.heap.size+1) (w.heap.size+3) p (uf s) nodes (i+1) (.slice a5 (na+1) c5) (.bool false) by
     refine⟨⟨v',D',_,na+1,_,p,hj5,g2,by omega,fun q hq hd=>?_,.inr ⟨by omega,rfl,rfl,G.o.2.2.2.2.2.2⟩⟩,((G.o.2.2.2.2.1.new K3.o (fun _ _ h=>h.elim)).new k4 (fun i hi hs=>?_)).new g3 (fun i hi hs=> .inr (hown4.lt i hs).1)⟩
     ·rcases g4 q hq with h|h
      ·exact abD q h hd
      ·have:=(CV.dd q hd).2.1;omega
     ·rcases hs with hs|hs
      ·exact .inl hs
      ·exact .inr (h2.lt i hs).1))
    clear CV hv4 hD4 k4 h2 hown3 hown4 abD g1 g2 g3 g4 h24 hj5;go_wp2_with (at_builtin;refine jL rfl (.tmp 38) (.tmp 41) 37 rfl _ _ _ rfl rfl Z.o.1 ?_);go_roundg (n-(i+1))
    case rel=>exact⟨i+1,by omega,by go_num,ξ _,Z.o.2⟩
    case measure=>have:=G.o.1;omega
  ·have hie:i=n:=by omega
   subst hie;have hi1:1<=i:=by have h1:=HH.o.2.2.2.2.1;have h2:=HH.o.2.2.2.2.2.1;rw[h2]at h1;simp at h1;omega
   rcases hcase with⟨h0,_⟩|⟨_,rfl,rfl,hln⟩
   ·omega
   ·rw[drop_of_length_le (by rw[HH.o.2.2.2.2.1];exact ξ _)]at hln
    cases hln;have j0:=ζ hj.obj (j:=0) rfl;have j1:=ζ hj.obj (j:=1) rfl;have hJw:w.heap.size+1<wo.heap.size:=(κ.1 hj.obj).1;have cm:=Qi ⟨p,nodes⟩ _ wo hj.job;have hr2:(iw ⟨p,nodes⟩).2=0:=(by have:=Ak ⟨p,nodes⟩;rw[HH.o.2.2.2.2.2.2.2.2.2.2.2.2.2.2]at this;simpa using this.symm);obtain⟨r1,hr1⟩:=acu ((iw ⟨p,nodes⟩).1);unfold oQ at cm;rw[hr1,hr2]at cm;have tT:=hkp.heap H1.o.2.2.1 (by omega);have G:=γ (θ hj (θ hkp tT));clear hg hj hown hD hkp tT hr1 hr2 Hf;go_wp2_with fail;refine cm.mono ?_;clear cm;rintro e w3 ⟨rfl,k3⟩;have hj3:=G.o.1.pure k3;have j0:=ζ hj3.obj (j:=0) rfl;have j1:=ζ hj3.obj (j:=1) rfl;have hJ3:w.heap.size+1<w3.heap.size:=(κ.1 hj3.obj).1;have t3:=k3.heap G.o.2.2 id;have z0:=ζ t3 (j:=0) rfl;have z1:=ζ t3 (j:=1) rfl;have f0:=free_at t3 0;have f1:=free_at t3 1;have hT3:w.heap.size<w3.heap.size:=(by omega);obtain⟨va,vc,rfl⟩: ∃a c,v= .slice a nodes.length c:=(by obtain⟨cs,h2,_⟩:=hj3.row;exact au h2);have hset:((w3.setCell ⟨w.heap.size,0,none⟩ (.int .i64 p)).setCell ⟨w.heap.size,1,none⟩ (.slice va nodes.length vc)).heap[w.heap.size]?=some (.cells #[.int .i64 p,.slice va nodes.length vc] 24 (0,0)):=(by have:=aU (aU t3 0 (.int .i64 p)) 1 (.slice va nodes.length vc);simpa using this);have ks:ε (one w.heap.size) w3 ((w3.setCell ⟨w.heap.size,0,none⟩ (.int .i64 p)).setCell ⟨w.heap.size,1,none⟩ (.slice va nodes.length vc)):=ε.setCell (p:=⟨w.heap.size,1,none⟩) (ε.setCell (p:=⟨w.heap.size,0,none⟩) (ε.refl (one w.heap.size) w3) (.inl rfl) _) (.inl rfl) _;have F:aar w p nodes (.returned (.tuple #[.agg #[.int .i64 p,.slice va nodes.length vc],.int .i64 0,.int .i64 0])) ((w3.setCell ⟨w.heap.size,0,none⟩ (.int .i64 p)).setCell ⟨w.heap.size,1,none⟩ (.slice va nodes.length vc)):=by
     have CV:=hj3.iT ks (fun k hk=>by
      unfold one at hk;obtain⟨cs,h2,_⟩:=hj3.row;refine⟨by omega,fun h=>?_,fun h=>?_⟩
      ·have:=(h2.lt k h).1;omega
      ·have:=(hj3.dd k h).1;omega)
     refine⟨_,_,_,_,rfl,CV,by omega,(((H1.o.1.new G.o.2.1 (fun i hi hs=>by omega)).trans k3).new ks (fun i hi hs=>by unfold one at hs;omega))⟩
    have FF:=γ (θ F hset);clear F hset ks hj3 t3 k3;go_wp2_with fail;obtain⟨WF,mO⟩:=acu ((w3.setCell ⟨w.heap.size,0,none⟩ (.int .i64 p)).setCell ⟨w.heap.size,1,none⟩ (.slice va nodes.length vc));obtain⟨F,s5⟩:=FF.o;rw[mO]at s5 F⊢;have q0:=ζ s5 (j:=0) rfl;have q1:=ζ s5 (j:=1) rfl;refine bodyPost_ret (v:= .tuple #[.agg #[.int .i64 p,.slice va nodes.length vc],.int .i64 0,.int .i64 0]) (by simp[results,results84,go_sem,q0,q1]) rfl F
def ac9 (w:World)(par:Int)(nodes:List JN)(e:Ending)(w':World):Prop:= ∃v J lo D,e= .returned (.agg #[.int .i64 par,v])/\mQ w' J lo par nodes v D/\w.heap.size<J/\ε η w w'
theorem PZ (s:ByteArray)(par:Int)(nodes:List JN)(w:World)(hP:Io s par nodes)(m:Int)(hm:w.cell? ⟨0,0,none⟩=some (.int .i64 m)):Calls prog 39 #[.string s] w (ac9 w par nodes):=by
 have k0:ε η w (w.alloc (.cells #[.int .i64 0,.slice none 0 0] 24)):=δ.alloc _;have t0:(w.alloc (.cells #[.int .i64 0,.slice none 0 0] 24)).heap[w.heap.size]?=some (.cells #[.int .i64 0,.slice none 0 0] 24 (0,0)):=heap_alloc_new _ _;have hm0:0<w.heap.size:=(by have:=block_lt_of_cell hm;simpa using this);have cp:=parse_any s par nodes _ hP m (k0.cell (p:=⟨0,0,none⟩) id hm);have H:=γ (θ k0 t0);clear k0 t0 hP hm;go_enter func39,ntmps39;go_wp2_with fail;refine cp.mono ?_;clear cp;rintro e w1 ⟨v,J,lo,D,rfl,hj,hJ,k1⟩;obtain⟨va,vc,rfl⟩: ∃a c,v= .slice a nodes.length c:=(by obtain⟨cs,h2,_⟩:=hj.row;exact au h2);have hsz1:(w.alloc (.cells #[.int .i64 0,.slice none 0 0] 24)).heap.size=w.heap.size+1:=Array.size_push _;rw[hsz1]at hJ;have ka:ε η w1 (w1.alloc (.cells #[.int .i64 par,.slice va nodes.length vc] 24)):=δ.alloc _;have t1:=ka.heap (k1.heap H.o.2 id) id;have z0:=ζ t1 (j:=0) rfl;have z1:=ζ t1 (j:=1) rfl;have f0:=free_at t1 0;have f1:=free_at t1 1;have hT:w.heap.size<w1.heap.size+1:=(by have:=(κ.1 t1).1;simpa using this);have hT1:w.heap.size<(w1.alloc (.cells #[.int .i64 par,.slice va nodes.length vc] 24)).heap.size:=(κ.1 t1).1;have hset:=aU (aU t1 0 (.int .i64 par)) 1 (.slice va nodes.length vc);have ks:ε (one w.heap.size) (w1.alloc (.cells #[.int .i64 par,.slice va nodes.length vc] 24)) (((w1.alloc (.cells #[.int .i64 par,.slice va nodes.length vc] 24)).setCell ⟨w.heap.size,0,none⟩ (.int .i64 par)).setCell ⟨w.heap.size,1,none⟩ (.slice va nodes.length vc)):=
  ε.setCell (p:=⟨w.heap.size,1,none⟩) (ε.setCell (p:=⟨w.heap.size,0,none⟩) (ε.refl (one w.heap.size) _) (.inl rfl) _) (.inl rfl) _
 have hjk:=hj.pure ka;obtain⟨rcs,hrow,_⟩:=hjk.row
 have hjF:=hjk.iT ks (fun k hk=>by
  unfold one at hk;refine⟨by omega,fun h=>?_,fun h=>?_⟩
  ·have:=(hrow.lt k h).1;have:=hjk.lt;omega
  ·have:=(hjk.dd k h).1;have:=hjk.lt;omega)
 have F:ac9 w par nodes (.returned (.agg #[.int .i64 par,.slice va nodes.length vc])) (((w1.alloc (.cells #[.int .i64 par,.slice va nodes.length vc] 24)).setCell ⟨w.heap.size,0,none⟩ (.int .i64 par)).setCell ⟨w.heap.size,1,none⟩ (.slice va nodes.length vc)):=
  ⟨_,J,lo,D,rfl,hjF,by omega,(((H.o.1.trans k1).trans ka).new ks (fun i hi hs=>by unfold one at hs;omega))⟩
 have FF:=γ (θ F hset);clear F hset ks hj hjk hjF hrow k1 ka;go_wp2_with fail;obtain⟨WF,mO⟩:=acu (((w1.alloc (.cells #[.int .i64 par,.slice va nodes.length vc] 24)).setCell ⟨w.heap.size,0,none⟩ (.int .i64 par)).setCell ⟨w.heap.size,1,none⟩ (.slice va nodes.length vc));obtain⟨F,s5⟩:=FF.o;have s5':WF.heap[w.heap.size]?=some (.cells #[.int .i64 par,.slice va nodes.length vc] 24 (0,0)):=(by rw[<-mO];simpa using s5);rw[mO]at F⊢;have q0:=ζ s5' (j:=0) rfl;have q1:=ζ s5' (j:=1) rfl;refine bodyPost_ret (v:= .agg #[.int .i64 par,.slice va nodes.length vc]) (by simp[results,results39,go_sem,q0,q1]) rfl F
def Wu (r:Nat):Bool:=r==97||r==99||r==118||r==108||r==43||r==45||r==32
theorem abI {r:Nat}(h:Wu r=true):kY r:=by unfold Wu at h;unfold kY;simp at h;omega
theorem QX {l:List (Nat×Nat)}(h:l.all (fun p=>Wu p.2)=true): ∀p∈l,kY p.2:=fun p hp=>abI (all_eq_true.1 h p hp)
abbrev acf:ByteArray:=⟨#[112,97,114,32,50,10,115,32,115,111,117,114,99,101,10,114,32,114,101,100,117,99,101,32,115,32,58,32,97,99,99,32,43,32,118,97,108,10,116,32,115,105,110,107,32,114]⟩
def Vj:List JN:=[⟨⟨#[115]⟩,1,[],.mk 0 0 [],0⟩,⟨⟨#[114]⟩,6,[0],.mk 7 0 [.mk 4 0 [],.mk 3 0 []],0⟩,⟨⟨#[116]⟩,9,[1],.mk 0 0 [],0⟩]
theorem Vh:Io acf 2 Vj:=by refine⟨by decide,⟨⟨#[112,97,114,32,50]⟩,[⟨#[115,32,115,111,117,114,99,101]⟩,⟨#[114,32,114,101,100,117,99,101,32,115,32,58,32,97,99,99,32,43,32,118,97,108]⟩,⟨#[116,32,115,105,110,107,32,114]⟩],⟨#[112,97,114,32,50]⟩,Ae,⟨#[50]⟩,by kernel_rfl,by kernel_rfl,by decide,by kernel_rfl,by kernel_rfl,by kernel_rfl,?_⟩,⟨by decide,by decide⟩,by decide,by kernel_rfl⟩;have l0:vZ ([]:List JN) ⟨#[115,32,115,111,117,114,99,101]⟩ ⟨#[115]⟩ ⟨#[115,111,117,114,99,101]⟩ [] 1 none:=⟨by kernel_rfl,by kernel_rfl,by decide,by decide,(fun i hi=>by cases hi),by kernel_rfl,by kernel_rfl,by decide,(fun y h=>by cases h)⟩;have l1:vZ ([⟨⟨#[115]⟩,1,[],.mk 0 0 [],0⟩]:List JN) ⟨#[114,32,114,101,100,117,99,101,32,115,32,58,32,97,99,99,32,43,32,118,97,108]⟩ ⟨#[114]⟩ ⟨#[114,101,100,117,99,101]⟩ [⟨#[115]⟩] 6 (some (.mk 7 0 [.mk 4 0 [],.mk 3 0 []])):=⟨by kernel_rfl,by kernel_rfl,by decide,by decide,(fun i hi=>by rw[ach.1 hi,show bJ ([⟨⟨#[115]⟩,1,[],.mk 0 0 [],0⟩]:List JN) ⟨#[115]⟩=(0:Int)from by kernel_rfl];decide),by kernel_rfl,by kernel_rfl,by decide,(fun y h=>by cases h;exact⟨[97,99,99,32,43,32,118,97,108],by kernel_rfl,by decide,QX (by kernel_rfl),by kernel_rfl,by unfold vX;intro z hz;simp[Ex.args]at hz;rcases hz with rfl|rfl<;>(unfold vX;intro z hz;simp[Ex.args]at hz)⟩)⟩;have l2:vZ ([⟨⟨#[115]⟩,1,[],.mk 0 0 [],0⟩,⟨⟨#[114]⟩,6,[0],.mk 7 0 [.mk 4 0 [],.mk 3 0 []],0⟩]:List JN) ⟨#[116,32,115,105,110,107,32,114]⟩ ⟨#[116]⟩ ⟨#[115,105,110,107]⟩ [⟨#[114]⟩] 9 none:=⟨by kernel_rfl,by kernel_rfl,by decide,by decide,(fun i hi=>by rw[ach.1 hi,show bJ ([⟨⟨#[115]⟩,1,[],.mk 0 0 [],0⟩,⟨⟨#[114]⟩,6,[0],.mk 7 0 [.mk 4 0 [],.mk 3 0 []],0⟩]:List JN) ⟨#[114]⟩=(1:Int)from by kernel_rfl];decide),by kernel_rfl,by kernel_rfl,by decide,(fun y h=>by cases h)⟩;refine .cons (by kernel_rfl) l0 (by decide) (by decide) ?_;have e0:([]++[nV [] ⟨#[115]⟩ [] 1 none]:List JN)=[⟨⟨#[115]⟩,1,[],.mk 0 0 [],0⟩]:=(by kernel_rfl);rw[e0];refine .cons (by kernel_rfl) l1 (by decide) (by decide) ?_;have e1:([⟨⟨#[115]⟩,1,[],.mk 0 0 [],0⟩]++[nV [⟨⟨#[115]⟩,1,[],.mk 0 0 [],0⟩] ⟨#[114]⟩ [⟨#[115]⟩] 6 (some (.mk 7 0 [.mk 4 0 [],.mk 3 0 []]))]:List JN)=[⟨⟨#[115]⟩,1,[],.mk 0 0 [],0⟩,⟨⟨#[114]⟩,6,[0],.mk 7 0 [.mk 4 0 [],.mk 3 0 []],0⟩]:=(by kernel_rfl);rw[e1];refine .cons (by kernel_rfl) l2 (by decide) (by decide) ?_;have e2:([⟨⟨#[115]⟩,1,[],.mk 0 0 [],0⟩,⟨⟨#[114]⟩,6,[0],.mk 7 0 [.mk 4 0 [],.mk 3 0 []],0⟩]++[nV [⟨⟨#[115]⟩,1,[],.mk 0 0 [],0⟩,⟨⟨#[114]⟩,6,[0],.mk 7 0 [.mk 4 0 [],.mk 3 0 []],0⟩] ⟨#[116]⟩ [⟨#[114]⟩] 9 none]:List JN)=[⟨⟨#[115]⟩,1,[],.mk 0 0 [],0⟩,⟨⟨#[114]⟩,6,[0],.mk 7 0 [.mk 4 0 [],.mk 3 0 []],0⟩,⟨⟨#[116]⟩,9,[1],.mk 0 0 [],0⟩]:=(by kernel_rfl);rw[e2];exact .nil _
abbrev acs:ByteArray:=⟨#[112,97,114,32,49,10,115,32,115,111,117,114,99,101,10,114,32,114,101,100,117,99,101,32,115,32,58,32,97,99,99,32,45,32,118,97,108,10,116,32,115,105,110,107,32,114]⟩
def VN:List JN:=[⟨⟨#[115]⟩,1,[],.mk 0 0 [],0⟩,⟨⟨#[114]⟩,6,[0],.mk 8 0 [.mk 4 0 [],.mk 3 0 []],0⟩,⟨⟨#[116]⟩,9,[1],.mk 0 0 [],0⟩]
theorem VL:Io acs 1 VN:=by refine⟨by decide,⟨⟨#[112,97,114,32,49]⟩,[⟨#[115,32,115,111,117,114,99,101]⟩,⟨#[114,32,114,101,100,117,99,101,32,115,32,58,32,97,99,99,32,45,32,118,97,108]⟩,⟨#[116,32,115,105,110,107,32,114]⟩],⟨#[112,97,114,32,49]⟩,Ae,⟨#[49]⟩,by kernel_rfl,by kernel_rfl,by decide,by kernel_rfl,by kernel_rfl,by kernel_rfl,?_⟩,⟨by decide,by decide⟩,by decide,by kernel_rfl⟩;have l0:vZ ([]:List JN) ⟨#[115,32,115,111,117,114,99,101]⟩ ⟨#[115]⟩ ⟨#[115,111,117,114,99,101]⟩ [] 1 none:=⟨by kernel_rfl,by kernel_rfl,by decide,by decide,(fun i hi=>by cases hi),by kernel_rfl,by kernel_rfl,by decide,(fun y h=>by cases h)⟩;have l1:vZ ([⟨⟨#[115]⟩,1,[],.mk 0 0 [],0⟩]:List JN) ⟨#[114,32,114,101,100,117,99,101,32,115,32,58,32,97,99,99,32,45,32,118,97,108]⟩ ⟨#[114]⟩ ⟨#[114,101,100,117,99,101]⟩ [⟨#[115]⟩] 6 (some (.mk 8 0 [.mk 4 0 [],.mk 3 0 []])):=⟨by kernel_rfl,by kernel_rfl,by decide,by decide,(fun i hi=>by rw[ach.1 hi,show bJ ([⟨⟨#[115]⟩,1,[],.mk 0 0 [],0⟩]:List JN) ⟨#[115]⟩=(0:Int)from by kernel_rfl];decide),by kernel_rfl,by kernel_rfl,by decide,(fun y h=>by cases h;exact⟨[97,99,99,32,45,32,118,97,108],by kernel_rfl,by decide,QX (by kernel_rfl),by kernel_rfl,by unfold vX;intro z hz;simp[Ex.args]at hz;rcases hz with rfl|rfl<;>(unfold vX;intro z hz;simp[Ex.args]at hz)⟩)⟩;have l2:vZ ([⟨⟨#[115]⟩,1,[],.mk 0 0 [],0⟩,⟨⟨#[114]⟩,6,[0],.mk 8 0 [.mk 4 0 [],.mk 3 0 []],0⟩]:List JN) ⟨#[116,32,115,105,110,107,32,114]⟩ ⟨#[116]⟩ ⟨#[115,105,110,107]⟩ [⟨#[114]⟩] 9 none:=⟨by kernel_rfl,by kernel_rfl,by decide,by decide,(fun i hi=>by rw[ach.1 hi,show bJ ([⟨⟨#[115]⟩,1,[],.mk 0 0 [],0⟩,⟨⟨#[114]⟩,6,[0],.mk 8 0 [.mk 4 0 [],.mk 3 0 []],0⟩]:List JN) ⟨#[114]⟩=(1:Int)from by kernel_rfl];decide),by kernel_rfl,by kernel_rfl,by decide,(fun y h=>by cases h)⟩;refine .cons (by kernel_rfl) l0 (by decide) (by decide) ?_;have e0:([]++[nV [] ⟨#[115]⟩ [] 1 none]:List JN)=[⟨⟨#[115]⟩,1,[],.mk 0 0 [],0⟩]:=(by kernel_rfl);rw[e0];refine .cons (by kernel_rfl) l1 (by decide) (by decide) ?_;have e1:([⟨⟨#[115]⟩,1,[],.mk 0 0 [],0⟩]++[nV [⟨⟨#[115]⟩,1,[],.mk 0 0 [],0⟩] ⟨#[114]⟩ [⟨#[115]⟩] 6 (some (.mk 8 0 [.mk 4 0 [],.mk 3 0 []]))]:List JN)=[⟨⟨#[115]⟩,1,[],.mk 0 0 [],0⟩,⟨⟨#[114]⟩,6,[0],.mk 8 0 [.mk 4 0 [],.mk 3 0 []],0⟩]:=(by kernel_rfl);rw[e1];refine .cons (by kernel_rfl) l2 (by decide) (by decide) ?_;have e2:([⟨⟨#[115]⟩,1,[],.mk 0 0 [],0⟩,⟨⟨#[114]⟩,6,[0],.mk 8 0 [.mk 4 0 [],.mk 3 0 []],0⟩]++[nV [⟨⟨#[115]⟩,1,[],.mk 0 0 [],0⟩,⟨⟨#[114]⟩,6,[0],.mk 8 0 [.mk 4 0 [],.mk 3 0 []],0⟩] ⟨#[116]⟩ [⟨#[114]⟩] 9 none]:List JN)=[⟨⟨#[115]⟩,1,[],.mk 0 0 [],0⟩,⟨⟨#[114]⟩,6,[0],.mk 8 0 [.mk 4 0 [],.mk 3 0 []],0⟩,⟨⟨#[116]⟩,9,[1],.mk 0 0 [],0⟩]:=(by kernel_rfl);rw[e2];exact .nil _
end
section
open Go Go.RowKit
attribute [local irreducible] dI
theorem xA.grow {w0 w w':World}{j:Jb}{l:List St}{e:Ending}(h:xA w j l e w')(hk:ε η w0 w):xA w0 j l e w':=by
 unfold xA at h⊢;split at h
 ·obtain⟨b,m,pm,h1,h2,h3,h5,h4⟩:=h
  exact⟨b,m,pm,h1,h2,ω hk.size h3,fun q T hT=>ω hk.size (h5 q T hT),hk.trans h4⟩
 ·exact⟨h.1,h.2.1,hk.trans h.2.2⟩
theorem xA.tuple {w w':World}{j:Jb}{l:List St}{e:Ending}(h:xA w j l e w'): ∃p er,e= .returned (.tuple #[.pointer p,.int .i64 er]):=by
 unfold xA at h;split at h
 ·obtain⟨b,m,pm,h1,_⟩:=h
  exact⟨_,_,h1⟩
 ·exact⟨_,_,h.1⟩
end
section
open Go Go.RowKit
def wF (Ts:Tabs)(pm:Nat->Nat×Nat):Nat->Prop:=fun k=> ∃(i:Nat)(T:Tab),Ts[i]?=some (some T)/\(pm i).2=k
theorem dM.Uz {w:World}{m:Nat}{Ts:Tabs}{pm:Nat->Nat×Nat}(h:dM w m Ts pm){k:Nat}(hk:wF Ts pm k):k<w.heap.size:=by obtain⟨i,T,hT,rfl⟩:=hk;exact(h.tab i T hT).1.lt.1
theorem dM.sG {w:World}{m:Nat}{Ts:Tabs}{pm:Nat->Nat×Nat}(h:dM w m Ts pm){k:Nat}(hk:wF Ts pm k): ∀c E f,w.heap[k]?≠some (.cells c E f):=by obtain⟨i,T,hT,rfl⟩:=hk;exact(h.tab i T hT).1.kK
def jY (w:World)(mb n:Nat)(M:List (List Rec)):Prop:=
 ∃cs,w.ownsRow mb 60 1 (.slice (some ⟨mb,0,none⟩) n n) n cs/\ ∀(i:Nat)(L:List Rec),M[i]?=some L-> ∃v,cs[i]?=some v/\Reads w 3 v (recs L)/\ ∀b,Value.blk v=some b->mb<b
theorem jY.iT {S:Nat->Prop}{w w':World}{mb n:Nat}{M:List (List Rec)}(h:jY w mb n M)(hk:ε S w w')(hS: ∀k,S k->k<mb):jY w' mb n M:=by
 obtain⟨cs,h1,h2⟩:=h;refine⟨cs,hk.owns h1 (fun k hk hs=>?_),fun i L hL=>?_⟩
 ·have:mb=k:=by simpa[Value.ownBlock]using hk
  have:=hS k hs;omega
 ·obtain⟨v,g1,g2,g3⟩:=h2 i L hL
  exact⟨v,g1,g2.kept hk (fun b hb hs=>by have:=g3 b hb;have:=hS b hs;omega),g3⟩
theorem jY.pure {w w':World}{mb n:Nat}{M:List (List Rec)}(h:jY w mb n M)(hk:ε η w w'):jY w' mb n M:=h.iT hk (fun _ h=>h.elim)
theorem jY.cell {w:World}{mb n:Nat}{M:List (List Rec)}(h:jY w mb n M)(hM:M.length<=n){i:Nat}{L:List Rec}(hL:M[i]?=some L):
 ∃v,w.cell? ⟨mb,i,none⟩=some v/\Reads w 3 v (recs L)/\ ∀b,Value.blk v=some b->mb<b:=by
 obtain⟨cs,h1,h2⟩:=h;obtain⟨v,g1,g2,g3⟩:=h2 i L hL;have hi:i<M.length:=(μ.1 hL).1;exact⟨v,by rw[h1.cellAt i (by omega)];exact g1,g2,g3⟩
theorem jY.free {w:World}{mb n:Nat}{M:List (List Rec)}(h:jY w mb n M){i:Nat}(hi:i<n):(∃v,w.cell? ⟨mb,i,none⟩=some v)/\w.frozen? ⟨mb,i,none⟩=false:=by obtain⟨cs,h1,_⟩:=h;refine⟨?_,h1.frozenAt i⟩;have hl:cs.length=n*1:=h1.1;have hc:=h1.cellAt i (by omega);exact⟨_,hc.trans (ι (by omega))⟩
theorem jY.lt {w:World}{mb n:Nat}{M:List (List Rec)}(h:jY w mb n M):mb<w.heap.size:=by obtain⟨cs,h1,_⟩:=h;exact(h1.lt mb rfl).2
theorem jY.store {w:World}{mb n:Nat}{M:List (List Rec)}(h:jY w mb n M)(hM:M.length<n){v:Value}{L:List Rec}(hv:Reads w 3 v (recs L))(hb: ∀b,Value.blk v=some b->mb<b):
 jY (w.setCell ⟨mb,M.length,none⟩ v) mb n (M++[L])/\ε (one mb) w (w.setCell ⟨mb,M.length,none⟩ v):=by
 obtain⟨cs,h1,h2⟩:=h;have hl:cs.length=n*1:=h1.1;have hk:ε (one mb) w (w.setCell ⟨mb,M.length,none⟩ v):=ε.setCell (p:=⟨mb,M.length,none⟩) (ε.refl (one mb) _) (.inl rfl) _;refine⟨⟨cs.set M.length v,(h1.stored M.length v).1,fun i U hU=>?_⟩,hk⟩;by_cases hi:i<M.length
 ·rw[Ω hi]at hU
  obtain⟨u,g1,g2,g3⟩:=h2 i U hU;exact⟨u,by rw[getElem?_set_ne (by omega)];exact g1,g2.kept hk (fun b hb hs=>by have:=g3 b hb;unfold one at hs;omega),g3⟩
 ·have hi2:i=M.length:=by
   have:=(μ.1 hU).1;simp at this;omega
  subst hi2;rw[Ψ (ξ _),Nat.sub_self]at hU;cases hU;exact⟨v,getElem?_set_self (by omega),hv.kept hk (fun b hb' hs=>by have:=hb b hb';unfold one at hs;omega),hb⟩
theorem aaN (w:World)(n:Nat)(hn:n<=1000): ∃w',(Instr.makeSlice 142 (.int .i64 (n:Int)) (.int .i64 (n:Int))).run prog w= .ok (.slice (some ⟨w.heap.size,0,none⟩) n n) w'/\jY w' w.heap.size n []/\ε η w w':=by obtain⟨i,z,hi,hz,hs,hb,hzc⟩:=Tryz.info60;obtain⟨w',h1,h2,h3⟩:=run_make_full (P:=prog) w w.heap.size 142 60 i z 1 underlying142 hi hz hs .i64 .i64 n (by rw[hb];omega) (by unfold maxLen;omega) (ξ _);exact⟨w',h1,⟨_,h2,fun i L hL=>by simp at hL⟩,ε.grown h3 (fun k hk=>by cases hk)⟩
theorem PI {w:World}{base n:Nat}{va:Value}{l:List Value}(h:w.ownsRow base 60 1 va n l){u:Value}(hu:u.oneCell'=true)(hb:base<=w.heap.size)(hn:n<=100000):
 ∃iC w',(Builtin.append_ #[142,142] 142 #[va,.slice (some ⟨w.heap.size,0,none⟩) 1 1]).run prog (w.alloc (.cells #[u] 60))= .ok iC w'/\w'.ownsRow base 60 1 iC (n+1) (l++[u])/\ε (fun j=>base<=j) w w':=by
 obtain⟨i,z,hi,hz,hs,hby,hzs⟩:=Tryz.info60;exact VB underlying142 hi hz hs hby hzs hu h hn (by omega) hb 142
theorem oq.iL {w:World}{a:Array Value}{d:JN}(h:oq w a d):dR w a d.iL:=by obtain⟨pi,ci,p,cap,h1,h2,h3,h4,h5,h6,h7,h8⟩:=h;exact⟨d.uid,_,p,cap,h1,h2,h5,h6,h7⟩
theorem Reads.slice_form {w:World}{v:Value}{L:List Rec}(h:Reads w 3 v (recs L)): ∃a cap,v= .slice a L.length cap:=by obtain⟨a,cap,h1,_⟩:=h.len;exact⟨a,cap,h1⟩
theorem dM.look1 {S:Nat->Prop}{w w':World}{m:Nat}{Ts:Tabs}{pm:Nat->Nat×Nat}(h:dM w m Ts pm)(hk:ε S w w')(hm: ¬S m)(i:Nat)(hi:i<Ts.length):
 (Instr.lookup 138 (.map (some m)) (.int .i64 (i:Int)) false).run prog w'= .ok ((oM pm i (Ts.getD i none)).getD (.pointer none)) w':=by
 obtain⟨⟨l,h1,h2,_⟩,_,_⟩:=h;have:=(h1.kept hk hm).adM (P:=prog) underlying138 underlying3 (i:Int) (zeroValue43 w');rwa[h2 i hi]at this
theorem Reads.acC {w:World}{a:Option Addr}{n cap:Nat}{l:List Int}(h:Reads w 1 (.slice a n cap) (ints l)):l=[]\/ ∃b off,a=some ⟨b,off,none⟩/\ ∀(i:Nat)(x:Int),l[i]?=some x->w.cell? ⟨b,off+i,none⟩=some (.int .i64 x):=by
 obtain⟨a',n',cap',e,h1,h2,h3,h4⟩:=h;cases e
 rcases h4 with h4|⟨b,off,hb,h4⟩
 ·left;unfold ints at h4;simpa using h4
 ·right
  exact⟨b,off,hb,fun i x hx=>h4 i _ (by unfold ints;rw[aav,hx];rfl)⟩
def adh (M:Nat->Prop)(w:World)(b m:Nat)(j:Jb)(Ts:Tabs)(pm:Nat->Nat×Nat)(key val:Int)(e:Ending)(w':World):Prop:=
 ∃v,e= .returned v/\Reads w' 3 v (recs (gW j.nodes Ts key val).1)/\(∀q,Value.blk v=some q->w.heap.size<=q)/\Iq w' b m j (gW j.nodes Ts key val).2 pm/\ε (wF Ts pm) w w'/\
  dh w' (fun k=>M k\/w.heap.size<=k) m (gW j.nodes Ts key val).2 pm
end
section
open Go Go.RowKit
attribute [local irreducible] dI
theorem Kr (M:Nat->Prop)(j:Jb)(b m:Nat)(Ts:Tabs)(pm:Nat->Nat×Nat)(key val:Int)(w:World)(h:Iq w b m j Ts pm)(hX:dh w M m Ts pm)(hj:iD j=true)(hR:JR j.nodes)(hT:iI j.nodes Ts)(hk:aJ key)(hv:aJ val):
 Calls prog 27 #[.pointer (some ⟨b,0,none⟩),.int .i64 key,.int .i64 val] w (adh M w b m j Ts pm key val):=by
 have hrec:bF ⟨1,key,val⟩:=⟨.small (by simp) (by simp),hk,hv⟩;obtain⟨⟨nv,hob,hn⟩,hpar,htb⟩:=h;obtain⟨na,cap,rfl,h1,h2,h3⟩:=hn.at;have h12:2<=j.nodes.length/\j.nodes.length<=12:=(by have:=(qB hj).1;unfold fE at this;simp only[Bool.or_eq_false_iff,decide_eq_false_iff_not]at this;omega);obtain⟨h12,h13⟩:=h12;have x1:w.cell? ⟨b,1,none⟩=some (.slice na j.nodes.length cap):=ζ hob rfl;have x2:w.cell? ⟨b,2,none⟩=some (.map (some m)):=ζ hob rfl;have hbl:b<w.heap.size:=(κ.1 hob).1;have hml:=htb.lt;obtain⟨W1,hmk,acK,k1⟩:=aaN w j.nodes.length (by omega);have FO:=γ (Ls hj hR hT hrec rfl);have HJR:=γ hR;have hnb: ¬wF Ts pm b:=fun hs=>htb.sG hs _ _ _ hob;have hnm: ¬wF Ts pm m:=(by rintro⟨i,T,hi,e⟩;exact(htb.tab i T hi).2 e);have y1:=k1.cell id x1;have y2:=k1.cell id x2;have H:=γ (θ hob (θ hn (θ hpar (θ htb (θ acK (θ k1 (θ hnb (θ hnm (θ (hX.of (mb:=w.heap.size) (ξ _)) (θ h3 (θ hj (θ hrec hT))))))))))));clear hob hn hpar htb acK k1 hnb hnm h3 hj hR hT hX;unfold maxLen at h2;go_enter func27,ntmps27;go_wp2;clear x1 x2 hmk;go_loopg [25] j.nodes.length (fun g vi wr=> ∃k:Nat,k<=j.nodes.length/\vi= .int .i64 (k:Int)/\j.nodes.length-k<=g/\jY wr w.heap.size j.nodes.length (iE j.nodes ⟨1,key,val⟩ Ts k).1/\dh wr (fun q=>(M q\/w.heap.size<=q)/\q≠w.heap.size) m (iE j.nodes ⟨1,key,val⟩ Ts k).2 pm/\ε (fun q=>wF Ts pm q\/q=w.heap.size) W1 wr)
 case atStart=>exact⟨0,by omega,rfl,by omega,H.o.2.2.2.2.1,H.o.2.2.2.2.2.2.2.2.1.pure H.o.2.2.2.2.2.1,ε.refl _ _⟩
 case round=>
  obtain⟨k,hkn,rfl,hg,hmd,htx,hkp⟩:=hrel;obtain⟨wo,rfl⟩: ∃wo:World,wo=wr:=⟨_,rfl⟩;have kw:ε (wF Ts pm) w wo:=H.o.2.2.2.2.2.1.pure.new hkp (fun i hi hs=>by rcases hs with hs|hs;exact hs;omega);have y1:=hkp.cell (p:=⟨b,1,none⟩) (by rintro(h|h);exact H.o.2.2.2.2.2.2.1 h;simp only at h;omega) y1;have y2:=hkp.cell (p:=⟨b,2,none⟩) (by rintro(h|h);exact H.o.2.2.2.2.2.2.1 h;simp only at h;omega) y2;have rW:=hmd.lt;by_cases hlt:k<j.nodes.length
  ·obtain⟨d,hd⟩: ∃d,j.nodes[k]?=some d:=⟨_,ι hlt⟩
   obtain⟨nb,off,pi,ci,p,cap',rfl,hc,hjn⟩:=H.o.2.2.2.2.2.2.2.2.2.1 k d hd;have hjw:oq wo (bQ d pi ci p cap') d:=hjn.kept kw (fun q hq=>H.o.2.2.2.1.sG hq)
   obtain⟨c0,c1,c2,c3,c4,c5,c6⟩:=hc.kept kw (fun hs=>by
    have:=H.o.2.2.2.1.sG hs;have c0:=hc.c0;unfold World.cell? at c0;split at c0
    ·rename_i e;exact this _ _ _ e
    ·cases c0)
   have kA:ε η wo (wo.alloc (.cells (bQ d pi ci p cap') 42)):=δ.alloc _;have nB:(wo.alloc (.cells (bQ d pi ci p cap') 42)).heap[wo.heap.size]?=some (.cells (bQ d pi ci p cap') 42 (0,0)):=heap_alloc_new _ _;have hF:=FO.o k (Nat.le_of_lt hlt);have Hg:=Qk H.o.2.2.2.2.2.2.2.2.2.2.1 H.o.2.2.2.2.2.2.2.2.2.2.2.1 rfl hd hF;have hstep:iE j.nodes ⟨1,key,val⟩ Ts (k+1)=_:=zi hd ⟨1,key,val⟩ (iE j.nodes ⟨1,key,val⟩ Ts k);have hmay:=qR H.o.2.2.2.2.2.2.2.2.2.2.1 hd;have hbw:b<wo.heap.size:=Pe hbl kw.size;have ae1:(k:Int)<(j.nodes.length:Int):=(by omega);obtain⟨st,hst⟩:=acu (iE j.nodes ⟨1,key,val⟩ Ts k);rw[hst]at hmd htx Hg hstep hF;have htl:st.2.length=j.nodes.length:=hF.tabs.len;have HL:=γ hF.len;have KL:=γ htl
   have zQ:=γ (show∀T,st.2.getD k none=some T->st.2[k]?=some (some T)from fun T h=>by
    rw[σ]at h
    cases e:st.2[k]? with
    |none=>rw[e]at h;cases h
    |some t=>rw[e]at h;exact congrArg some h)
   have HPL:=γ (show st.2.getD k none=none->kU d.iL.kind from fun h=>by
    cases hs:stateful d.kind with
    |true=>obtain⟨T,hT,_⟩:=hF.tabs.has k d hd hs;rw[σ,hT]at h;cases h
    |false=>
     unfold stateful at hs;simp at hs
     exact hs)
   have MP:=γ (show∀T,st.2.getD k none=some T->wF Ts pm (pm k).2 from fun T h=>by
    have hs:=hF.tabs.not k d hd;have hst2:stateful d.kind=true:=by
     cases e:stateful d.kind with
     |true=>rfl
     |false=>have:=hs e;rw[zQ.o T h]at this;cases this
    obtain⟨U,hU,_⟩:=H.o.2.2.2.2.2.2.2.2.2.2.2.2.has k d hd hst2
    exact⟨k,U,hU,rfl⟩)
   have GH:=γ hg;have MD:=γ hmd;have TX:=γ htx;have KP:=γ hkp;have KA:=γ kA;have NB:=γ nB;have HS:=γ hstep;have JW:=γ hjw;have IO:=γ Hg;have HM:=γ hmay;have hkA:b<(wo.alloc (.cells (bQ d pi ci p cap') 42)).heap.size:=Pe hbw kA.size;clear hg hmd htx hkp hstep Hg hmay hF htl hjw hc hjn hst kw;by_cases hk0:k=0
   ·have hin:fO ⟨1,key,val⟩ d k st.1=[⟨1,key,val⟩]:=if_pos hk0
    have e0: ¬(0<k):=(by omega);have IN:=γ hin;clear hin hk0 kA nB;go_wp2_with fail;obtain⟨W2,hW2⟩:=acu ((wo.alloc (.cells (bQ d pi ci p cap') 42)).alloc (.cells #[.int .i64 1,.int .i64 key,.int .i64 val] 68));have kA2:ε η (wo.alloc (.cells (bQ d pi ci p cap') 42)) W2:=(by rw[<-hW2];exact δ.alloc _);have kB:ε η wo W2:=KA.o.trans kA2;have n2:=kA2.heap NB.o id;have hrd:Reads W2 3 (.slice (some ⟨wo.heap.size+1,0,none⟩) 1 1) (recs (fO ⟨1,key,val⟩ d k st.1)):=(by rw[IN.o,<-hW2];have:=Reads.lit (wo.alloc (.cells (bQ d pi ci p cap') 42)) [.int .i64 1,.int .i64 key,.int .i64 val] 68 3 1 rfl (by unfold maxLen;omega);rwa[World.size_alloc]at this);have afm:((wo.alloc (.cells #[.string d.uid,.int .u8 d.kind,.slice pi d.ins.length ci,.int .u8 d.x.op,.int .i64 d.x.n,.slice p d.x.args.length cap',.int .i64 d.n] 42)).alloc (.cells #[.int .i64 1,.int .i64 key,.int .i64 val] 68))=W2:=hW2;try rw[afm]
    clear c0 c1 c2 c3 c4 c5 c6 e0;clear hW2 afm kA2 hkA;have YB1:=kB.cell (p:=⟨b,1,none⟩) id y1;have YB2:=kB.cell (p:=⟨b,2,none⟩) id y2;have YU:=MD.o.pure kB;have X7:=TX.o.pure kB;have kD:ε η W2 W2.drew:=δ.drew;have hmB:m<W2.heap.size:=Pe hml (ω (ω H.o.2.2.2.2.2.1.size KP.o.size) kB.size);have aiB:wo.heap.size<W2.heap.size:=(κ.1 n2).1;have ais:b<W2.heap.size:=Pe hbw kB.size;have QB:w.heap.size<W2.heap.size:=Pe rW kB.size;have KB:=γ kB;have MDB:=γ YU;have wM:=γ X7;have RD:=γ hrd;have N2:=γ n2;have KD:=γ kD;clear kB YU X7 hrd n2 kD y1 y2
    cases hst:st.2.getD k none with
    |none=>
     have hpl:=γ (HPL.o hst)
     have hout:=γ (show st.2.set k ((st.2.getD k none).map fun _=>(aI d.iL ((st.2.getD k none).getD []) (fO ⟨1,key,val⟩ d k st.1)).2)=st.2 by
      have hk':st.2[k]?=some none:=by
       rw[σ]at hst
       cases e:st.2[k]? with
       |none=>have:=getElem?_eq_none_iff.1 e;have:=KL.o;omega
       |some t=>rw[e]at hst;rw[show t=none from hst]
      rw[hst];apply ext_getElem?;intro i;by_cases hi:k=i
      ·subst hi
       rw[hk'];exact getElem?_set_self (by rw[KL.o];exact hlt)
      ·rw[getElem?_set_ne hi])
     have HG:=γ hst;clear hst;refine ak [0,1,2,3,4,5,6,7,8,9,10,11,12] (fun W=>ε η W2 W) (by kernel_rfl) (by kernel_rfl) rfl KD.o ?_;simp only[aco];iterate 10 (apply aj rfl rfl;(intro W hW;have q2:=hW.cell (p:=⟨b,2,none⟩) id YB2;have nW:=hW.heap N2.o id;have m0:=ζ nW (j:=0) rfl;have m1:=ζ nW (j:=1) rfl;have m2:=ζ nW (j:=2) rfl;have m3:=ζ nW (j:=3) rfl;have m4:=ζ nW (j:=4) rfl;have m5:=ζ nW (j:=5) rfl;have m6:=ζ nW (j:=6) rfl;have hlk:=wM.o.at_.look1 hW id k (by rw[KL.o];exact hlt);rw[HG.o]at hlk;simp only[oM,Option.map_none,Option.getD_none]at hlk;clear nW;go_simp;rfl);go_frame)
     apply ay rfl rfl;intro K hK;go_wp2_with fail;refine(Je _ d.iL (.pointer none) _ _ _ ((JW.o.iL.pure KB.o).pure KD.o) hpl.o (RD.o.pure KD.o) IO.o.1 (by have:=IO.o.2.2.2.1;omega) ⟨_,rfl⟩).mono ?_;rintro e w5 ⟨v,rfl,hv,hvb,k5⟩;obtain⟨va,vc,rfl⟩:=hv.slice_form;go_wp2;refine hK _ _ (fun _=>KD.o.trans k5) ?_;clear hK;apply aj rfl rfl
     ·intro W hW;go_simp;rfl
     go_frame;have kk:=KD.o.trans k5;have md5:=MDB.o.pure kk;obtain⟨⟨u5,hu5⟩,hf5⟩:=md5.free hlt;have s5:=md5.store (by rw[HL.o];exact hlt) hv (fun q hq=>Pe QB (hvb q hq));rw[HL.o]at s5;have Z:=γ (θ s5 (θ ((wM.o.pure kk).store (fun h=>h.2 rfl) (by omega) s5.2) ((KP.o.new (KB.o.trans kk) (fun _ _ h=>h.elim)).new s5.2 (fun i hi hs=> .inr hs))));clear s5 kk md5 hv hvb k5;apply ay rfl rfl;intro K2 hK2;go_wp2;refine hK2 _ _ (fun h=>absurd rfl h) (jG (by kernel_rfl) ?_);clear hK2;go_wp2;go_roundg (j.nodes.length-(k+1))
     case rel=>exact⟨k+1,by omega,by go_num,ξ _,by rw[HS.o];simp only[HG.o,Option.getD_none];exact Z.o.1.1,by rw[HS.o];show dh _ _ _ (st.2.set k _) pm;rw[hout.o];exact Z.o.2.1,Z.o.2.2⟩
     case measure=>have:=GH.o;omega
    |some T=>
     have CY:=zQ.o T hst;have hq:=(wM.o.at_.tab k T CY).2;have Zr:(pm k).2≠b:=fun e=>(wM.o.at_.tab k T CY).1.kK _ _ _ (e▸(KB.o.heap (KP.o.heap (H.o.2.2.2.2.2.1.heap H.o.1 id) (by rintro(h|h);exact H.o.2.2.2.2.2.2.1 h;exact absurd h (by omega))) id));have UE:(pm k).2≠wo.heap.size:=fun e=>(wM.o.at_.tab k T CY).1.kK _ _ _ (e▸N2.o);have HG:=γ hst;have uF:=γ CY;have HQ:=γ (θ hq (θ Zr UE));clear hst CY hq Zr UE;refine ak [0,1,2,3,4,5,6,7,8,9,10,11,12] (fun W=>ε (one (pm k).2) W2 W) (by kernel_rfl) (by kernel_rfl) rfl KD.o.pure ?_;simp only[aco];iterate 10 (apply aj rfl rfl;(intro W hW;have q2:=hW.cell (p:=⟨b,2,none⟩) (fun h=>HQ.o.2.1 h.symm) YB2;have nW:=hW.heap N2.o (fun h=>HQ.o.2.2 h.symm);have m0:=ζ nW (j:=0) rfl;have m1:=ζ nW (j:=1) rfl;have m2:=ζ nW (j:=2) rfl;have m3:=ζ nW (j:=3) rfl;have m4:=ζ nW (j:=4) rfl;have m5:=ζ nW (j:=5) rfl;have m6:=ζ nW (j:=6) rfl;have hlk:=wM.o.at_.look1 hW (fun h=>HQ.o.1 h.symm) k (by rw[KL.o];exact hlt);rw[HG.o]at hlk;simp only[oM,Option.map_some,Δ]at hlk;clear nW;go_simp;rfl);go_frame)
     apply ay rfl rfl;intro K hK;go_wp2_with fail;refine(UK _ d.iL (pm k).1 (pm k).2 T (fun q=>(M q\/w.heap.size<=q)/\q≠w.heap.size) _ _ _ ((JW.o.iL.pure KB.o).pure KD.o) (RD.o.pure KD.o) IO.o.1 (by have:=IO.o.2.2.2.1;omega) ((wM.o.out k T uF.o).pure KD.o)).mono ?_;rintro e w5 ⟨v,rfl,hv,hvb,Zq,k5⟩;obtain⟨va,vc,rfl⟩:=hv.slice_form;go_wp2;refine hK _ _ (fun _=>KD.o.pure.trans k5) ?_;clear hK;apply aj rfl rfl
     ·intro W hW;go_simp;rfl
     go_frame;have kk:ε (one (pm k).2) W2 w5:=KD.o.pure.trans k5;have aiy:(pm k).2<w.heap.size:=H.o.2.2.2.1.Uz (MP.o T HG.o);have md5:=MDB.o.iT kk (fun q hq=>by unfold one at hq;omega);obtain⟨⟨u5,hu5⟩,hf5⟩:=md5.free hlt;have s5:=md5.store (by rw[HL.o];exact hlt) hv (fun q hq=>Pe QB (hvb q hq));rw[HL.o]at s5;have X8:=wM.o.turn uF.o kk (Zq.mono (fun q hq _=>by rcases hq with hq|hq;exact hq;exact⟨.inr (by have:W2.drew.heap.size=W2.heap.size:=rfl;omega),by have:W2.drew.heap.size=W2.heap.size:=rfl;omega⟩));have Z:=γ (θ s5 (θ (X8.store (fun h=>h.2 rfl) (by omega) s5.2) (((KP.o.new KB.o (fun _ _ h=>h.elim)).new kk (fun i hi hs=> .inl (by unfold one at hs;rw[hs];exact MP.o T HG.o))).new s5.2 (fun i hi hs=> .inr hs))));clear s5 kk md5 hv hvb k5 X8 Zq;apply ay rfl rfl;intro K2 hK2;go_wp2;refine hK2 _ _ (fun h=>absurd rfl h) (jG (by kernel_rfl) ?_);clear hK2;go_wp2;go_roundg (j.nodes.length-(k+1))
     case rel=>exact⟨k+1,by omega,by go_num,ξ _,by rw[HS.o];simp only[HG.o,Δ];exact Z.o.1.1,by rw[HS.o];simp only[HG.o,Δ,Option.map_some];exact Z.o.2.1,Z.o.2.2⟩
     case measure=>have:=GH.o;omega
   ·have hin:fO ⟨1,key,val⟩ d k st.1=jC d.kind (insOf d st.1):=if_neg hk0
    have e0:0<k:=(by omega);have IN:=γ hin;have RZ:=γ hk0;have QF:=γ (IO.o.2.2.2.2 hk0);have Qr:Reads wo 1 (.slice pi d.ins.length ci) (ints d.ins):=(by obtain⟨pi',ci',p',cap2,e,_,h3,_⟩:=JW.o;have:=congrArg (fun a=>a[2]?) e;simp at this;obtain⟨rfl,rfl⟩:=this;exact h3);have RI:=γ Qr.acC;have aiD:d.ins.length<=1000:=(by have:=HM.o.ins;omega);clear hin hk0 kA nB Qr;go_wp2_with fail;clear c0 c1 c2 c3 c4 c5 c6 e0;obtain⟨WA,QO⟩:=acu ((wo.alloc (.cells (bQ d pi ci p cap') 42)).alloc (.cells #[.int .i64 1,.int .i64 key,.int .i64 val] 68));have QN:((wo.alloc (.cells #[.string d.uid,.int .u8 d.kind,.slice pi d.ins.length ci,.int .u8 d.x.op,.int .i64 d.x.n,.slice p d.x.args.length cap',.int .i64 d.n] 42)).alloc (.cells #[.int .i64 1,.int .i64 key,.int .i64 val] 68))=WA:=QO;have kA2:ε η (wo.alloc (.cells (bQ d pi ci p cap') 42)) WA:=(by rw[<-QO];exact δ.alloc _);have kA3:=KA.o.trans kA2;have n3:=kA2.heap NB.o id;clear KA NB hkA;have KA:=γ kA3;have NB:=γ n3;try rw[QN]
    clear QO QN kA2 kA3 n3;go_loopg [11,45] d.ins.length (fun g vr vi wq=> ∃(i:Nat)(vs:List Value),i<=d.ins.length/\vi= .int .i64 (i:Int)/\d.ins.length-i<=g/\wq.ownsRow WA.heap.size 60 1 vr i vs/\(∀(q:Nat)(u:Value),vs[q]?=some u-> ∃L,(insOf d st.1)[q]?=some L/\Reads WA 3 u (recs L))/\ε η WA wq)
    case atStart=>exact⟨0,[],by omega,rfl,by omega,World.ownsRow_nil _ _ _ _,fun q u h=>by simp at h,ε.refl _ _⟩
    case round=>
     obtain⟨i,vs,hin,rfl,hgi,hown,hvs,hkq⟩:=hrel;obtain⟨Un,Um,rfl⟩:=au hown;by_cases hil:i<d.ins.length
     ·obtain⟨x,hx⟩: ∃x,d.ins[i]?=some x:=⟨_,ι hil⟩
      obtain⟨hx0,hxk⟩:=HM.o.low x (ς hx);obtain⟨q,rfl⟩:=Int.eq_ofNat_of_zero_le hx0;obtain⟨bi,bW,rfl,hci⟩:=RI.o.resolve_left (fun h=>by rw[h]at hx;cases hx);have kq:ε η wo wr:=KA.o.trans hkq;have z0:=kq.cell id (hci i _ hx);obtain⟨L,hL⟩: ∃L,st.1[q]?=some L:=⟨_,ι (by rw[HL.o];omega)⟩;obtain⟨u,hu,qW,hub⟩:=(MD.o.pure kq).cell (by rw[HL.o];omega) hL;obtain⟨ua,uc,rfl⟩:=qW.slice_form;obtain⟨u0,hu0,aeP,_⟩:=(MD.o.pure KA.o).cell (by rw[HL.o];omega) hL;have UE:(q:Int)<(j.nodes.length:Int):=(by omega);obtain⟨iC,w',g1,g2,g3⟩:=PI hown (u:= .slice ua L.length uc) rfl hkq.size (by omega);obtain⟨a2,cc2,rfl⟩:=au g2;have hLi:(insOf d st.1)[i]?=some L:=(by unfold insOf;rw[aav,hx];simp only[Option.map_some,Int.toNat_natCast,σ,hL,Δ]);have hlen:vs.length=i:=by have:=hown.1;omega
      have Z:=γ (θ g1 (θ g2 (θ (hkq.new g3 (fun k hk hs=>by omega)) (θ hgi (show∀(q:Nat)(u:Value),(vs++[Value.slice ua L.length uc])[q]?=some u-> ∃L,(insOf d st.1)[q]?=some L/\Reads WA 3 u (recs L)from by
       intro q2 u2 hu2;by_cases hq2:q2<vs.length
       ·rw[Ω hq2]at hu2
        exact hvs q2 u2 hu2
       ·have:q2=vs.length:=by have:=(μ.1 hu2).1;simp at this;omega
        subst this;rw[Ψ (ξ _),Nat.sub_self]at hu2;cases hu2;refine⟨L,by rw[hlen];exact hLi,?_⟩;have he:some u0=some (Value.slice ua L.length uc):=(by rw[<-hu,<-hkq.cell id hu0]);cases he
        exact aeP)))))
      clear g1 g2 g3 hkq hown hvs kq hci qW hub hu0 aeP hLi hlen hL hgi;go_wp2_with (at_builtin;refine jL rfl (.tmp 49) (.tmp 54) 142 rfl _ _ _ rfl rfl Z.o.1 ?_);go_roundg (d.ins.length-(i+1))
      case rel=>exact⟨i+1,_,by omega,by go_num,ξ _,Z.o.2.1,Z.o.2.2.2.2,Z.o.2.2.1⟩
      case measure=>have:=Z.o.2.2.2.1;omega
     ·have hie:i=d.ins.length:=by omega
      subst hie;have hlen:vs.length=d.ins.length:=(by have:=hown.1;omega);have hr2:oP wr (.slice Un d.ins.length Um) (insOf d st.1):=(by refine⟨vs,by rw[hlen];unfold insOf;rw[length_map],Reads.aN hown,fun q u L hu hL=>?_⟩;obtain⟨L',h1,h2⟩:=hvs q u hu;rw[hL]at h1;cases h1;exact h2.pure hkq);have kq:ε η wo wr:=KA.o.trans hkq;have cg:=abJ _ d.iL _ (insOf d st.1) wr (JW.o.iL.pure kq) hr2 (by have:=QF.o.1;omega) (by have:=QF.o.2;omega);have nq:=hkq.heap NB.o id;have m0:=ζ nq (j:=0) rfl;have m1:=ζ nq (j:=1) rfl;have m2:=ζ nq (j:=2) rfl;have m3:=ζ nq (j:=3) rfl;have m4:=ζ nq (j:=4) rfl;have m5:=ζ nq (j:=5) rfl;have m6:=ζ nq (j:=6) rfl;have KQ:=γ (θ kq nq);clear hr2 hown hvs hkq kq nq;go_wp2_with fail;refine cg.mono ?_;clear cg m0 m1 m2 m3 m4 m5 m6;rintro e W2 ⟨iv,rfl,uj,hblk,k2⟩;obtain⟨iva,ivc,rfl⟩:=uj.slice_form;have kB:ε η wo W2:=KQ.o.1.trans k2;have n2:=k2.heap KQ.o.2 id;have hrd:Reads W2 3 (.slice iva (jC d.iL.kind (insOf d st.1)).length ivc) (recs (fO ⟨1,key,val⟩ d k st.1)):=(by rw[IN.o];exact uj);clear hblk k2 uj;go_wp2_with fail;have YB1:=kB.cell (p:=⟨b,1,none⟩) id y1;have YB2:=kB.cell (p:=⟨b,2,none⟩) id y2;have YU:=MD.o.pure kB;have X7:=TX.o.pure kB;have kD:ε η W2 W2.drew:=δ.drew;have hmB:m<W2.heap.size:=Pe hml (ω (ω H.o.2.2.2.2.2.1.size KP.o.size) kB.size);have aiB:wo.heap.size<W2.heap.size:=(κ.1 n2).1;have ais:b<W2.heap.size:=Pe hbw kB.size;have QB:w.heap.size<W2.heap.size:=Pe rW kB.size;have KB:=γ kB;have MDB:=γ YU;have wM:=γ X7;have RD:=γ hrd;have N2:=γ n2;have KD:=γ kD;clear kB YU X7 hrd n2 kD y1 y2
      cases hst:st.2.getD k none with
      |none=>
       have hpl:=γ (HPL.o hst)
       have hout:=γ (show st.2.set k ((st.2.getD k none).map fun _=>(aI d.iL ((st.2.getD k none).getD []) (fO ⟨1,key,val⟩ d k st.1)).2)=st.2 by
        have hk':st.2[k]?=some none:=by
         rw[σ]at hst
         cases e:st.2[k]? with
         |none=>have:=getElem?_eq_none_iff.1 e;have:=KL.o;omega
         |some t=>rw[e]at hst;rw[show t=none from hst]
        rw[hst];apply ext_getElem?;intro i;by_cases hi:k=i
        ·subst hi
         rw[hk'];exact getElem?_set_self (by rw[KL.o];exact hlt)
        ·rw[getElem?_set_ne hi])
       have HG:=γ hst;clear hst;refine ak [0,1,2,3,4,5,6,7,8,9,10,11,12] (fun W=>ε η W2 W) (by kernel_rfl) (by kernel_rfl) rfl KD.o ?_;simp only[aco];iterate 10 (apply aj rfl rfl;(intro W hW;have q2:=hW.cell (p:=⟨b,2,none⟩) id YB2;have nW:=hW.heap N2.o id;have m0:=ζ nW (j:=0) rfl;have m1:=ζ nW (j:=1) rfl;have m2:=ζ nW (j:=2) rfl;have m3:=ζ nW (j:=3) rfl;have m4:=ζ nW (j:=4) rfl;have m5:=ζ nW (j:=5) rfl;have m6:=ζ nW (j:=6) rfl;have hlk:=wM.o.at_.look1 hW id k (by rw[KL.o];exact hlt);rw[HG.o]at hlk;simp only[oM,Option.map_none,Option.getD_none]at hlk;clear nW;go_simp;rfl);go_frame)
       apply ay rfl rfl;intro K hK;go_wp2_with fail;refine(Je _ d.iL (.pointer none) _ _ _ ((JW.o.iL.pure KB.o).pure KD.o) hpl.o (RD.o.pure KD.o) IO.o.1 (by have:=IO.o.2.2.2.1;omega) ⟨_,rfl⟩).mono ?_;rintro e w5 ⟨v,rfl,hv,hvb,k5⟩;obtain⟨va,vc,rfl⟩:=hv.slice_form;go_wp2;refine hK _ _ (fun _=>KD.o.trans k5) ?_;clear hK;apply aj rfl rfl
       ·intro W hW;go_simp;rfl
       go_frame;have kk:=KD.o.trans k5;have md5:=MDB.o.pure kk;obtain⟨⟨u5,hu5⟩,hf5⟩:=md5.free hlt;have s5:=md5.store (by rw[HL.o];exact hlt) hv (fun q hq=>Pe QB (hvb q hq));rw[HL.o]at s5;have Z:=γ (θ s5 (θ ((wM.o.pure kk).store (fun h=>h.2 rfl) (by omega) s5.2) ((KP.o.new (KB.o.trans kk) (fun _ _ h=>h.elim)).new s5.2 (fun i hi hs=> .inr hs))));clear s5 kk md5 hv hvb k5;apply ay rfl rfl;intro K2 hK2;go_wp2;refine hK2 _ _ (fun h=>absurd rfl h) (jG (by kernel_rfl) ?_);clear hK2;go_wp2;go_roundg (j.nodes.length-(k+1))
       case rel=>exact⟨k+1,by omega,by go_num,ξ _,by rw[HS.o];simp only[HG.o,Option.getD_none];exact Z.o.1.1,by rw[HS.o];show dh _ _ _ (st.2.set k _) pm;rw[hout.o];exact Z.o.2.1,Z.o.2.2⟩
       case measure=>have:=GH.o;omega
      |some T=>
       have CY:=zQ.o T hst;have hq:=(wM.o.at_.tab k T CY).2;have Zr:(pm k).2≠b:=fun e=>(wM.o.at_.tab k T CY).1.kK _ _ _ (e▸(KB.o.heap (KP.o.heap (H.o.2.2.2.2.2.1.heap H.o.1 id) (by rintro(h|h);exact H.o.2.2.2.2.2.2.1 h;exact absurd h (by omega))) id));have UE:(pm k).2≠wo.heap.size:=fun e=>(wM.o.at_.tab k T CY).1.kK _ _ _ (e▸N2.o);have HG:=γ hst;have uF:=γ CY;have HQ:=γ (θ hq (θ Zr UE));clear hst CY hq Zr UE;refine ak [0,1,2,3,4,5,6,7,8,9,10,11,12] (fun W=>ε (one (pm k).2) W2 W) (by kernel_rfl) (by kernel_rfl) rfl KD.o.pure ?_;simp only[aco];iterate 10 (apply aj rfl rfl;(intro W hW;have q2:=hW.cell (p:=⟨b,2,none⟩) (fun h=>HQ.o.2.1 h.symm) YB2;have nW:=hW.heap N2.o (fun h=>HQ.o.2.2 h.symm);have m0:=ζ nW (j:=0) rfl;have m1:=ζ nW (j:=1) rfl;have m2:=ζ nW (j:=2) rfl;have m3:=ζ nW (j:=3) rfl;have m4:=ζ nW (j:=4) rfl;have m5:=ζ nW (j:=5) rfl;have m6:=ζ nW (j:=6) rfl;have hlk:=wM.o.at_.look1 hW (fun h=>HQ.o.1 h.symm) k (by rw[KL.o];exact hlt);rw[HG.o]at hlk;simp only[oM,Option.map_some,Δ]at hlk;clear nW;go_simp;rfl);go_frame)
       apply ay rfl rfl;intro K hK;go_wp2_with fail;refine(UK _ d.iL (pm k).1 (pm k).2 T (fun q=>(M q\/w.heap.size<=q)/\q≠w.heap.size) _ _ _ ((JW.o.iL.pure KB.o).pure KD.o) (RD.o.pure KD.o) IO.o.1 (by have:=IO.o.2.2.2.1;omega) ((wM.o.out k T uF.o).pure KD.o)).mono ?_;rintro e w5 ⟨v,rfl,hv,hvb,Zq,k5⟩;obtain⟨va,vc,rfl⟩:=hv.slice_form;go_wp2;refine hK _ _ (fun _=>KD.o.pure.trans k5) ?_;clear hK;apply aj rfl rfl
       ·intro W hW;go_simp;rfl
       go_frame;have kk:ε (one (pm k).2) W2 w5:=KD.o.pure.trans k5;have aiy:(pm k).2<w.heap.size:=H.o.2.2.2.1.Uz (MP.o T HG.o);have md5:=MDB.o.iT kk (fun q hq=>by unfold one at hq;omega);obtain⟨⟨u5,hu5⟩,hf5⟩:=md5.free hlt;have s5:=md5.store (by rw[HL.o];exact hlt) hv (fun q hq=>Pe QB (hvb q hq));rw[HL.o]at s5;have X8:=wM.o.turn uF.o kk (Zq.mono (fun q hq _=>by rcases hq with hq|hq;exact hq;exact⟨.inr (by have:W2.drew.heap.size=W2.heap.size:=rfl;omega),by have:W2.drew.heap.size=W2.heap.size:=rfl;omega⟩));have Z:=γ (θ s5 (θ (X8.store (fun h=>h.2 rfl) (by omega) s5.2) (((KP.o.new KB.o (fun _ _ h=>h.elim)).new kk (fun i hi hs=> .inl (by unfold one at hs;rw[hs];exact MP.o T HG.o))).new s5.2 (fun i hi hs=> .inr hs))));clear s5 kk md5 hv hvb k5 X8 Zq;apply ay rfl rfl;intro K2 hK2;go_wp2;refine hK2 _ _ (fun h=>absurd rfl h) (jG (by kernel_rfl) ?_);clear hK2;go_wp2;go_roundg (j.nodes.length-(k+1))
       case rel=>exact⟨k+1,by omega,by go_num,ξ _,by rw[HS.o];simp only[HG.o,Δ];exact Z.o.1.1,by rw[HS.o];simp only[HG.o,Δ,Option.map_some];exact Z.o.2.1,Z.o.2.2⟩
       case measure=>have:=GH.o;omega
  ·have e1:k=j.nodes.length:=by omega
   subst e1;have hF:=FO.o j.nodes.length (ξ _);obtain⟨n1,hn1⟩: ∃n1,j.nodes.length=n1+1:=⟨j.nodes.length-1,by omega⟩;obtain⟨L,hL⟩: ∃L,(iE j.nodes ⟨1,key,val⟩ Ts j.nodes.length).1[n1]?=some L:=⟨_,ι (by rw[hF.len];omega)⟩;obtain⟨u,hu,qW,hub⟩:=hmd.cell (by rw[hF.len];omega) hL;obtain⟨ua,uc,rfl⟩:=qW.slice_form;have hfeed:(gW j.nodes Ts key val).1=aO L:=(by unfold gW;simp only;rw[show j.nodes.length-1=n1 by omega,σ,hL];rfl);have hfew:L.length<=64:=(by have:=(yD H.o.2.2.2.2.2.2.2.2.2.2.1 HJR.o H.o.2.2.2.2.2.2.2.2.2.2.2.2 hrec.key hrec.val).2.2.2;rw[hfeed,jq]at this;exact this);have cm:=merge_any _ [L] _ (oP.one qW) (by simp;omega);rw[show([L]:List (List Rec)).flatten=L by simp]at cm
   have F:=γ (show∀v w',ε η wo w'->Reads w' 3 v (recs (aO L))->(∀q,Value.blk v=some q->wo.heap.size<=q)->adh M w b m j Ts pm key val (.returned v) w' from fun v w' hk h1 h2=>
    ⟨v,rfl,by rw[hfeed];exact h1,fun q hq=>ω (Nat.le_of_lt rW) (h2 q hq),⟨⟨_,hk.heap (kw.heap H.o.1 H.o.2.2.2.2.2.2.1) id,(H.o.2.1.kept kw (fun q hq=>H.o.2.2.2.1.sG hq)).pure hk⟩,H.o.2.2.1,htx.at_.pure hk⟩,kw.new hk (fun _ _ h=>h.elim),(htx.pure hk).mono (fun k hk _=>hk.1)⟩)
   have ew:IntKind.i64.wrap ((j.nodes.length:Int)-1)=(n1:Int):=(by rw[IntKind.wrap_i64];omega);have ew2:((j.nodes.length:Int)-1)=(n1:Int):=(by omega);have hn2:(n1:Int)<(j.nodes.length:Int):=(by omega);clear hg hmd htx hkp kw hF qW hub hL hfeed;go_wp2_with fail;refine cm.mono ?_;clear cm;rintro e w2 ⟨v,rfl,hv,hvb,k2⟩;have F2:=γ (F.o v w2 (((ε.refl η wo).alloc _).trans k2) hv (fun q hq=>by have:=hvb q hq;rw[World.size_alloc]at this;omega));obtain⟨va,vc,rfl⟩:=hv.slice_form;clear hv hvb k2 F;go_wp2;go_ret;exact F2.o
end
