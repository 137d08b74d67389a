/- script.Parse of a text whose lines tell a job. -/
import Derived.Test.YtglbkodmmogomaaGreatDoorI22
import Derived.Test.YtglbkodmmogomaaGreatDoorI29
set_option linter.unusedVariables false
set_option linter.unusedSimpArgs false
set_option maxHeartbeats 2000000
set_option maxRecDepth 100000
namespace Go.Proofs.YtglbkodmmogomaaGreatDoor
section
open Go Go.RowKit
attribute [local irreducible] cZ iC H2.dX
def tC (s:ByteArray):List ByteArray:=Lib.splitB ⟨#[10]⟩ 0 (Lib.countB s ⟨#[10]⟩) s
inductive vZ:List ByteArray->List JN->List JN->Prop
 |nil (L:List JN):vZ [] L L
 |cons {s:ByteArray} {ls:List ByteArray} {L L':List JN} {uid kw:ByteArray} {ins:List ByteArray} {k:Nat} {x:Option Ex}:rP s=false->AA L s uid kw ins k x->uid.size<=1000->ins.length<=1000->
   vZ ls (L++[qO L uid ins k x]) L'->vZ (s::ls) L L'
structure QO (s:ByteArray)(par:Int)(nodes:List JN):Prop where
 size:s.size<=65536
 first: ∃s1 ls ah bh d,tC s=s1::ls/\rP s1=false/\s1.size<=1000/\jG s1=(ah,bh,false)/\yY ah=some [Hz,d]/\O6 d 1=some par/\vZ ls [] nodes
 p64:aH par
 few:nodes.length<=1000
 ok:gu ⟨par,nodes⟩=true
theorem vZ.len {ls:List ByteArray}{L L':List JN}(h:vZ ls L L'):L'.length=L.length+ls.length:=by
 induction h with
 |nil L=>simp
 |cons _ _ _ _ _ ih=>rw[ih];simp;omega
theorem aaG (s uid kw:ByteArray)(ins:List ByteArray)(k:Nat)(x:Option Ex)(J lo:Nat)(par:Int)(L:List JN)(v:Value)(D:Nat->Prop)(w:World)(hl:AA L s uid kw ins k x)(h:lM w J lo par L v D)(hu:uid.size<=maxLen)(hil:ins.length<=1000)(hnl:L.length<=1000):
 Calls Tryz.prog 124 #[.pointer (some ⟨J,0,none⟩),.string s,.bool false] w (Az w J lo par (L++[qO L uid ins k x]) v D):=by
 cases x with
 |none=>exact Yy s uid kw ins k J lo par L w hl v D h hu hil hnl
 |some y=>exact Yx s uid kw ins k y J lo par L w hl v D h hu hil hnl
theorem acX {w:World}{base n:Nat}{va:Value}{cs:List Value}(h:w.ownsRow base 3 1 va n cs)(x:Int)(hb:base<=w.heap.size)(hn:n<=100000):
 ∃iw w',(Builtin.append_ #[37,37] 37 #[va,.slice (some ⟨w.heap.size,0,none⟩) 1 1]).run Tryz.prog (w.alloc (.cells #[.int .i64 x] 3))= .ok iw w'/\w'.ownsRow base 3 1 iw (n+1) (cs++[.int .i64 x])/\
  ε (fun q=>va.ownBlock=some q) w w'/\ ∀q,iw.ownBlock=some q->va.ownBlock=some q\/w.heap.size<=q:=by
 have h3:(Tryz.prog.info? 3).map (fun i=>(i.zero,i.size,i.bytes))=some (some (.int .i64 0),1,8):=(by kernel_rfl);obtain⟨i,hi,hzz⟩:=abP.1 h3;simp only[Prod.mk.injEq]at hzz;obtain⟨hz,hs,hby⟩:=hzz;have kA:ε η w (w.alloc (.cells #[.int .i64 x] 3)):=δ.alloc _;have hr:=Reads.lit w [.int .i64 x] 3 1 1 rfl (by unfold maxLen;omega);have hA:=kA.owns h (fun _ _ h=>h);have hcl:cs.length=n*1:=h.1;have h1: ∀y∈[Value.int .i64 x],y.oneCell'=true:=(by intro y hy;rw[abQ.1 hy];rfl);obtain⟨v',n',w',b1,b2,b3,b4,_⟩:=aW (P:=Tryz.prog) base 37 37 3 i _ 1 8 Tryz.underlying37 hi hz hs hby rfl (by omega) hA hr h1 (by simp;omega) (by simp;unfold maxLen;omega) (by have:=kA.size;omega);have hn':n'=n+1:=(by simpa using b3);subst hn';refine⟨v',w',b1,b2,kA.pure.trans (ε.grown b4 (fun k hk _=>hk)),fun q hq=>?_⟩;have hsz:(w.alloc (.cells #[.int .i64 x] 3)).heap.size=w.heap.size+1:=(by simp);have hnews: ∀j v,[Value.int .i64 x][j]?=some v->(w.alloc (.cells #[.int .i64 x] 3)).cell? ((⟨w.heap.size,0,none⟩:Addr).add j)=some v:=fun j v hj=>by rw[Addr.add_lit,World.cell?_alloc_new];simpa using hj
 rcases h.2 with⟨rfl,rfl⟩|⟨g,cap,cur,rfl,hbg,hg,hnc,hcm,hcs,htake⟩
 ·have hr:=run_append_nil (P:=Tryz.prog) (w.alloc (.cells #[.int .i64 x] 3)) 37 37 3 i _ Tryz.underlying37 hi hz ⟨w.heap.size,0,none⟩ 1 1 [Value.int .i64 x] (by rw[hs];rfl) hnews (by omega) (by omega) (by omega)
  rw[b1]at hr
  injection hr with e1 e2
  rw[e1]at hq;right;have:(w.alloc (.cells #[.int .i64 x] 3)).heap.size=q:=(by simpa[Value.ownBlock]using hq);omega
 ·by_cases hroom:n+1<=cap
  ·obtain⟨w2,hr,_⟩:=run_append_fits (P:=Tryz.prog) (w.alloc (.cells #[.int .i64 x] 3)) base 37 37 3 i 1 Tryz.underlying37 hi hs g n cap cs hA ⟨w.heap.size,0,none⟩ 1 1 [Value.int .i64 x] rfl hnews h1 hroom
   rw[b1]at hr
   injection hr with e1 e2
   rw[e1]at hq;left;exact hq
  ·have holds: ∀j u,cs[j]?=some u->(w.alloc (.cells #[.int .i64 x] 3)).cell? ((⟨g,0,none⟩:Addr).add j)=some u:=hA.cells (g:=g) rfl
   have hr:=run_append_grow (P:=Tryz.prog) (w.alloc (.cells #[.int .i64 x] 3)) 37 37 3 i _ Tryz.underlying37 hi hz ⟨g,0,none⟩ n cap cs (by rw[hs];exact hcl) holds ⟨w.heap.size,0,none⟩ 1 1 [Value.int .i64 x] (by rw[hs];rfl) hnews (by omega) (by omega) (growslice_fits (by omega) (by rw[hby];omega));rw[b1]at hr
   injection hr with e1 e2
   rw[e1]at hq;right;have:(w.alloc (.cells #[.int .i64 x] 3)).heap.size=q:=(by simpa[Value.ownBlock]using hq);omega
def ZH (w:World)(par:Int)(nodes:List JN)(e:Ending)(w':World):Prop:= ∃v J lo D,e= .returned (.tuple #[.agg #[.int .i64 par,v],.int .i64 0,.int .i64 0])/\lM w' J lo par nodes v D/\w.heap.size<J/\ε η w w'
structure abv (w1 wr:World)(J lo:Nat)(par:Int)(lines:List ByteArray)(nodes:List JN)(i:Nat)(v6 v7:Value):Prop where
 st: ∃(v:Value)(D:Nat->Prop)(L:List JN)(na:Nat)(xs:List Value)(p:Int),lM wr J lo p L v D/\wr.ownsRow lo 3 1 v6 na xs/\na<=i/\(∀b,v6.ownBlock=some b-> ¬D b)/\
  ((i=0/\v7= .bool true/\p=0/\L=[])\/(1<=i/\v7= .bool false/\p=par/\vZ (lines.drop i) L nodes))
 kept:ε (fun q=>q=J\/lo<=q) w1 wr
theorem parse_any (s:ByteArray)(par:Int)(nodes:List JN)(w:World)(hP:QO s par nodes)(m:Int)(hm:w.cell? ⟨0,0,none⟩=some (.int .i64 m)):Calls Tryz.prog 84 #[.string s] w (ZH w par nodes):=by
 obtain⟨hsz,⟨s1,ls,ah,bh,d,YZ,hs1,hsz1,hp1,hw1,hn1,hls⟩,h64,hfew,hok⟩:=hP;have hm0:0<w.heap.size:=(by have:=block_lt_of_cell hm;simpa using this);obtain⟨W0,hW0⟩:=acf ((w.alloc (.cells #[.int .i64 0,.slice none 0 0] 24)).alloc (.cells #[.int .i64 0,.slice none 0 0] 24));have k0:ε η w W0:=(by rw[<-hW0];exact(δ.alloc _).alloc _);have t0:W0.heap[w.heap.size]?=some (.cells #[.int .i64 0,.slice none 0 0] 24 (0,0)):=(by rw[<-hW0];exact((ε.refl η _).alloc _).heap (heap_alloc_new w _) id);have j0:W0.heap[w.heap.size+1]?=some (.cells #[.int .i64 0,.slice none 0 0] 24 (0,0)):=(by rw[<-hW0];have:=heap_alloc_new (w.alloc (.cells #[.int .i64 0,.slice none 0 0] 24)) (.cells #[.int .i64 0,.slice none 0 0] 24);rwa[World.size_alloc]at this);have hsz0:W0.heap.size=w.heap.size+2:=(by rw[<-hW0];simp);have hcl:=Lib.countB_le ⟨#[10]⟩ (by decide) s.size s (ξ _);have hall:=Lib.splitB_all ⟨#[10]⟩ (by decide) 0 _ s rfl;have cs:Calls Tryz.prog 122 #[.string s,.string ⟨#[10]⟩] W0 fun e w'=>e= .returned (.slice (some ⟨W0.heap.size,0,none⟩) (Lib.countB s ⟨#[10]⟩+1) (Lib.countB s ⟨#[10]⟩+1))/\w'=W0.alloc (.cells ((tC s).map Value.string).toArray 9):=
  Any.strings_Split Tryz.splitL (by kernel_rfl) s ⟨#[10]⟩ m W0 (by omega) (k0.cell (p:=⟨0,0,none⟩) id hm) (by decide)
 have hll:(tC s).length=Lib.countB s ⟨#[10]⟩+1:=hall;obtain⟨n,hn⟩: ∃n,Lib.countB s ⟨#[10]⟩+1=n:=⟨_,rfl⟩;rw[hn,hsz0]at cs;rw[hn]at hll;have hn2:n<=65537:=(by omega);have HH:=γ (θ k0 (θ t0 (θ j0 (θ hsz0 (θ hll (θ YZ (θ hs1 (θ hsz1 (θ hp1 (θ hw1 (θ hn1 (θ hls (θ h64 (θ hfew hok))))))))))))));have HW:=γ hW0;have hbig: ¬((65536:Int)<(s.size:Int)):=(by omega);clear hcl hall hn hsz YZ hs1 hsz1 hp1 hw1 hn1 hls h64 hfew hok k0 t0 j0 hll hW0 hm hsz0;go_enter Tryz.func84,Tryz.ntmps84;go_wp2_with fail;rw[HW.o];(with_reducible refine cs.mono ?_);clear cs;rintro e W1 ⟨rfl,hW1⟩;have k1:ε η W0 W1:=(by rw[hW1];exact δ.alloc _);have l1:W1.heap[w.heap.size+2]?=some (.cells ((tC s).map Value.string).toArray 9 (0,0)):=(by rw[hW1,<-HH.o.2.2.2.1];exact heap_alloc_new _ _);have hsz1:W1.heap.size=w.heap.size+3:=(by rw[hW1,World.size_alloc,HH.o.2.2.2.1]);have st1:lM W1 (w.heap.size+1) (w.heap.size+3) 0 [] (.slice none 0 0) η:=⟨k1.heap HH.o.2.2.1 id,⟨[],World.ownsRow_nil _ _ _ _,fun i d hd=>by simp at hd⟩,fun k hk=>hk.elim,by omega,by omega,eX⟩;have H1:=γ (θ (HH.o.1.trans k1) (θ l1 (θ (k1.heap HH.o.2.1 id) st1)));clear hW1 k1 l1 st1;go_wp2_with fail;go_loopg [6,7,20] n (fun g v6 v7 vi wr=> ∃i:Nat,i<=n/\vi= .int .i64 (i:Int)/\n-i<=g/\abv W1 wr (w.heap.size+1) (w.heap.size+3) par (tC s) nodes i v6 v7)
 case atStart=>exact⟨0,by omega,rfl,by omega,⟨_,_,_,0,[],0,H1.o.2.2.2,World.ownsRow_nil _ _ _ _,ξ _,(fun b hb=>by cases hb),.inl ⟨rfl,rfl,rfl,rfl⟩⟩,ε.refl _ _⟩
 case round=>
  obtain⟨i,hin,rfl,hg,hst⟩:=hrel;obtain⟨wo,rfl⟩: ∃wo:World,wo=wr:=⟨_,rfl⟩;obtain⟨⟨v,D,L,na,xs,p,hj,hown,hna,hD,hcase⟩,hkp⟩:=hst;obtain⟨aa,ac,rfl⟩:=au hown;have Gp:=hkp.heap H1.o.2.1 (by omega);by_cases hlt:i<n
  ·obtain⟨t,ht⟩: ∃t,(tC s)[i]?=some t:=⟨_,ι (by rw[HH.o.2.2.2.2.1];exact hlt)⟩
   have lc:=ζ Gp (j:=i) (v:= .string t) (by rw[abH,abJ,ht];rfl);have hbl:w.heap.size+2<wo.heap.size:=(κ.1 Gp).1;have hiw:IntKind.i64.wrap ((i:Int)+1)=((i+1:Nat):Int):=wrapN (n:=i+1) (by omega)
   rcases hcase with⟨rfl,rfl,rfl,rfl⟩|⟨hi1,rfl,rfl,hln⟩
   ·obtain⟨s1,ls,ah,bh,d,hA⟩: ∃s1 ls ah bh d,tC s=s1::ls/\rP s1=false/\s1.size<=1000/\jG s1=(ah,bh,false)/\yY ah=some [Hz,d]/\O6 d 1=some par/\vZ ls [] nodes:=⟨s1,ls,ah,bh,d,HH.o.2.2.2.2.2.1,HH.o.2.2.2.2.2.2.1,HH.o.2.2.2.2.2.2.2.1,HH.o.2.2.2.2.2.2.2.2.1,HH.o.2.2.2.2.2.2.2.2.2.1,HH.o.2.2.2.2.2.2.2.2.2.2.1,HH.o.2.2.2.2.2.2.2.2.2.2.2.1⟩
    obtain⟨hl0,hl1,hl2,hl3,hl4,hl5,hl6⟩:=hA;have hts:t=s1:=(by rw[hl0]at ht;cases ht;rfl);rw[hts]at lc;have cs1:=FI s1 (by unfold maxLen;omega) wo;rw[hl1]at cs1;have G:=γ (θ hg (θ hj (θ hown (θ hD (θ hkp (θ hl0 hl6))))));have LL:=γ (θ hl3 (θ hl4 hl5));clear hg hj hown hD hkp hl0 hl6 ht Gp hl3 hl4 hl5 hl1;go_wp2_with fail;(with_reducible refine cs1.mono ?_);clear cs1;rintro e w3 ⟨rfl,k3⟩;have cl:=Yz s1 ah bh d par (w.heap.size+1) (w.heap.size+3) w3 LL.o.1 LL.o.2.1 LL.o.2.2 HH.o.2.2.2.2.2.2.2.2.2.2.2.2.1 (by unfold maxLen;omega) v D (G.o.2.1.pure k3);have K3:=γ k3;clear k3 lc;go_wp2_with fail;(with_reducible refine cl.mono ?_);clear cl;rintro e w4 ⟨rfl,v',D',Cc,hv4,hD4,k4⟩
    have Z:=γ (show abv W1 w4 (w.heap.size+1) (w.heap.size+3) par (tC s) nodes 1 (.slice aa na ac) (.bool false) by
     obtain⟨cs0,h2,_⟩:=G.o.2.1.row;have hown3:=K3.o.owns G.o.2.2.1 (fun _ _ h=>h);refine⟨⟨v',D',[],na,xs,par,Cc,k4.owns hown3 (fun q hq hs=>?_),by omega,fun q hq hd=>?_,.inr ⟨ξ _,rfl,rfl,?_⟩⟩,(G.o.2.2.2.2.1.new K3.o (fun _ _ h=>h.elim)).new k4 (fun i hi hs=>?_)⟩
     ·rcases hs with hs|hs
      ·have:=(G.o.2.2.1.lt q hq).1;omega
      ·exact rU h2 G.o.2.2.1 (by decide) q hs hq
     ·rcases hD4 q hd with h|h
      ·exact G.o.2.2.2.1 q hq h
      ·have:=(hown3.lt q hq).2;omega
     ·rw[G.o.2.2.2.2.2.1];exact G.o.2.2.2.2.2.2
     ·rcases hs with hs|hs
      ·exact .inl hs
      ·exact .inr (h2.lt i hs).1)
    clear Cc hv4 hD4 k4;go_wp2_with fail;go_roundg (n-1)
    case rel=>exact⟨1,by omega,by go_num,ξ _,Z.o⟩
    case measure=>have:=G.o.1;omega
   ·rw[EZ ht]at hln
    cases hln with
    | @cons _ _ _ _ uid kw ins k x aec hlN hus ahT hrest=>
    have cs1:=FI t (by have:=hlN.size;unfold maxLen;omega) wo;rw[aec]at cs1;have hLl:L.length<=1000:=(by have h1:=hrest.len;have h2:=HH.o.2.2.2.2.2.2.2.2.2.2.2.2.2.1;rw[ν]at h1;omega);have G:=γ (θ hg (θ hj (θ hown (θ hD (θ hkp (θ hlN hrest))))));clear hg hj hown hD hkp hlN hrest ht Gp aec;go_wp2_with fail;(with_reducible refine cs1.mono ?_);clear cs1;rintro e w3 ⟨rfl,k3⟩;have cl:=aaG t uid kw ins k x (w.heap.size+1) (w.heap.size+3) p L v D w3 G.o.2.2.2.2.2.1 (G.o.2.1.pure k3) (by unfold maxLen;omega) ahT hLl;have K3:=γ k3;clear k3 lc;go_wp2_with fail;(with_reducible refine cl.mono ?_);clear cl;rintro e w4 ⟨rfl,v',D',Cc,hv4,hD4,k4⟩;obtain⟨cs0,h2,_⟩:=G.o.2.1.row;have hown3:=K3.o.owns G.o.2.2.1 (fun _ _ h=>h)
    have hown4:=k4.owns hown3 (fun q hq hs=>by
     rcases hs with hs|hs
     ·have:=(G.o.2.2.1.lt q hq).1;omega
     ·exact rU h2 G.o.2.2.1 (by decide) q hs hq)
    have aa2: ∀q,(Value.slice aa na ac).ownBlock=some q-> ¬D' q:=fun q hq hd=>by
     rcases hD4 q hd with h|h
     ·exact G.o.2.2.2.1 q hq h
     ·have:=(hown3.lt q hq).2;omega
    obtain⟨v6,w5,g1,g2,g3,g4⟩:=acX hown4 ((i:Int)+1) Cc.le (by omega);obtain⟨cs4,h24,_⟩:=Cc.row;have hj5:lM w5 (w.heap.size+1) (w.heap.size+3) p (L++[qO L uid ins k x]) v' D':=Cc.mD g3 (fun q hq=>⟨by have:=(hown4.lt q hq).1;omega,fun h=>rU h24 hown4 (by decide) q h hq,aa2 q hq⟩);obtain⟨a5,c5,rfl⟩:=au g2
    have Z:=γ (θ g1 (show abv W1 w5 (w.heap.size+1) (w.heap.size+3) p (tC s) nodes (i+1) (.slice a5 (na+1) c5) (.bool false) by
     refine⟨⟨v',D',_,na+1,_,p,hj5,g2,by omega,fun q hq hd=>?_,.inr ⟨by omega,rfl,rfl,G.o.2.2.2.2.2.2⟩⟩,((G.o.2.2.2.2.1.new K3.o (fun _ _ h=>h.elim)).new k4 (fun i hi hs=>?_)).new g3 (fun i hi hs=> .inr (hown4.lt i hs).1)⟩
     ·rcases g4 q hq with h|h
      ·exact aa2 q h hd
      ·have:=(Cc.dd q hd).2.1;omega
     ·rcases hs with hs|hs
      ·exact .inl hs
      ·exact .inr (h2.lt i hs).1))
    clear Cc hv4 hD4 k4 h2 hown3 hown4 aa2 g1 g2 g3 g4 h24 hj5;go_wp2_with (at_builtin;refine jy rfl (.tmp 38) (.tmp 41) 37 rfl _ _ _ rfl rfl Z.o.1 ?_);go_roundg (n-(i+1))
    case rel=>exact⟨i+1,by omega,by go_num,ξ _,Z.o.2⟩
    case measure=>have:=G.o.1;omega
  ·have hie:i=n:=by omega
   subst hie;have hi1:1<=i:=by have h1:=HH.o.2.2.2.2.1;have h2:=HH.o.2.2.2.2.2.1;rw[h2]at h1;simp at h1;omega
   rcases hcase with⟨h0,_⟩|⟨_,rfl,rfl,hln⟩
   ·omega
   ·rw[List.drop_of_length_le (by rw[HH.o.2.2.2.2.1];exact ξ _)]at hln
    cases hln;have j0:=ζ hj.obj (j:=0) rfl;have j1:=ζ hj.obj (j:=1) rfl;have hJw:w.heap.size+1<wo.heap.size:=(κ.1 hj.obj).1;have cm:=PE ⟨p,nodes⟩ _ wo hj.job;have hr2:(gU ⟨p,nodes⟩).2=0:=(by have:=zX ⟨p,nodes⟩;rw[HH.o.2.2.2.2.2.2.2.2.2.2.2.2.2.2]at this;simpa using this.symm);obtain⟨r1,hr1⟩: ∃r1,(gU ⟨p,nodes⟩).1=r1:=⟨_,rfl⟩;unfold ou at cm;rw[hr1,hr2]at cm;have tT:=hkp.heap H1.o.2.2.1 (by omega);have G:=γ (θ hj (θ hkp tT));clear hg hj hown hD hkp tT hr1 hr2 Gp;go_wp2_with fail;(with_reducible refine cm.mono ?_);clear cm;rintro e w3 ⟨rfl,k3⟩;have hj3:=G.o.1.pure k3;have j0:=ζ hj3.obj (j:=0) rfl;have j1:=ζ hj3.obj (j:=1) rfl;have hJ3:w.heap.size+1<w3.heap.size:=(κ.1 hj3.obj).1;have t3:=k3.heap G.o.2.2 id;have z0:=ζ t3 (j:=0) rfl;have z1:=ζ t3 (j:=1) rfl;have f0:=free_at t3 0;have f1:=free_at t3 1;have hT3:w.heap.size<w3.heap.size:=(by omega);obtain⟨va,vc,rfl⟩: ∃a c,v= .slice a nodes.length c:=(by obtain⟨cs,h2,_⟩:=hj3.row;exact au h2);have hset:((w3.setCell ⟨w.heap.size,0,none⟩ (.int .i64 p)).setCell ⟨w.heap.size,1,none⟩ (.slice va nodes.length vc)).heap[w.heap.size]?=some (.cells #[.int .i64 p,.slice va nodes.length vc] 24 (0,0)):=(by have:=bD (bD t3 0 (.int .i64 p)) 1 (.slice va nodes.length vc);simpa using this);have ks:ε (one w.heap.size) w3 ((w3.setCell ⟨w.heap.size,0,none⟩ (.int .i64 p)).setCell ⟨w.heap.size,1,none⟩ (.slice va nodes.length vc)):=ε.setCell (p:=⟨w.heap.size,1,none⟩) (ε.setCell (p:=⟨w.heap.size,0,none⟩) (ε.refl (one w.heap.size) w3) (.inl rfl) _) (.inl rfl) _;have F:ZH w p nodes (.returned (.tuple #[.agg #[.int .i64 p,.slice va nodes.length vc],.int .i64 0,.int .i64 0])) ((w3.setCell ⟨w.heap.size,0,none⟩ (.int .i64 p)).setCell ⟨w.heap.size,1,none⟩ (.slice va nodes.length vc)):=by
     have Cc:=hj3.mD ks (fun k hk=>by
      unfold one at hk;obtain⟨cs,h2,_⟩:=hj3.row;refine⟨by omega,fun h=>?_,fun h=>?_⟩
      ·have:=(h2.lt k h).1;omega
      ·have:=(hj3.dd k h).1;omega)
     refine⟨_,_,_,_,rfl,Cc,by omega,(((H1.o.1.new G.o.2.1 (fun i hi hs=>by omega)).trans k3).new ks (fun i hi hs=>by unfold one at hs;omega))⟩
    have FF:=γ (θ F hset);clear F hset ks hj3 t3 k3;go_wp2_with fail;obtain⟨WF,lI⟩: ∃WF,((w3.setCell ⟨w.heap.size,0,none⟩ (.int .i64 p)).setCell ⟨w.heap.size,1,none⟩ (.slice va nodes.length vc))=WF:=⟨_,rfl⟩;obtain⟨F,s5⟩:=FF.o;rw[lI]at s5 F⊢;have q0:=ζ s5 (j:=0) rfl;have q1:=ζ s5 (j:=1) rfl;refine bodyPost_ret (v:= .tuple #[.agg #[.int .i64 p,.slice va nodes.length vc],.int .i64 0,.int .i64 0]) (by simp[results,Tryz.results84,go_sem,q0,q1]) rfl F
def acy (w:World)(par:Int)(nodes:List JN)(e:Ending)(w':World):Prop:= ∃v J lo D,e= .returned (.agg #[.int .i64 par,v])/\lM w' J lo par nodes v D/\w.heap.size<J/\ε η w w'
theorem aaE (s:ByteArray)(par:Int)(nodes:List JN)(w:World)(hP:QO s par nodes)(m:Int)(hm:w.cell? ⟨0,0,none⟩=some (.int .i64 m)):Calls Tryz.prog 39 #[.string s] w (acy w par nodes):=by
 have k0:ε η w (w.alloc (.cells #[.int .i64 0,.slice none 0 0] 24)):=δ.alloc _;have t0:(w.alloc (.cells #[.int .i64 0,.slice none 0 0] 24)).heap[w.heap.size]?=some (.cells #[.int .i64 0,.slice none 0 0] 24 (0,0)):=heap_alloc_new _ _;have hm0:0<w.heap.size:=(by have:=block_lt_of_cell hm;simpa using this);have cp:=parse_any s par nodes _ hP m (k0.cell (p:=⟨0,0,none⟩) id hm);have H:=γ (θ k0 t0);clear k0 t0 hP hm;go_enter Tryz.func39,Tryz.ntmps39;go_wp2_with fail;(with_reducible refine cp.mono ?_);clear cp;rintro e w1 ⟨v,J,lo,D,rfl,hj,hJ,k1⟩;obtain⟨va,vc,rfl⟩: ∃a c,v= .slice a nodes.length c:=(by obtain⟨cs,h2,_⟩:=hj.row;exact au h2);have hsz1:(w.alloc (.cells #[.int .i64 0,.slice none 0 0] 24)).heap.size=w.heap.size+1:=Array.size_push _;rw[hsz1]at hJ;have ka:ε η w1 (w1.alloc (.cells #[.int .i64 par,.slice va nodes.length vc] 24)):=δ.alloc _;have t1:=ka.heap (k1.heap H.o.2 id) id;have z0:=ζ t1 (j:=0) rfl;have z1:=ζ t1 (j:=1) rfl;have f0:=free_at t1 0;have f1:=free_at t1 1;have hT:w.heap.size<w1.heap.size+1:=(by have:=(κ.1 t1).1;simpa using this);have hT1:w.heap.size<(w1.alloc (.cells #[.int .i64 par,.slice va nodes.length vc] 24)).heap.size:=(κ.1 t1).1;have hset:=bD (bD t1 0 (.int .i64 par)) 1 (.slice va nodes.length vc);have ks:ε (one w.heap.size) (w1.alloc (.cells #[.int .i64 par,.slice va nodes.length vc] 24)) (((w1.alloc (.cells #[.int .i64 par,.slice va nodes.length vc] 24)).setCell ⟨w.heap.size,0,none⟩ (.int .i64 par)).setCell ⟨w.heap.size,1,none⟩ (.slice va nodes.length vc)):=
  ε.setCell (p:=⟨w.heap.size,1,none⟩) (ε.setCell (p:=⟨w.heap.size,0,none⟩) (ε.refl (one w.heap.size) _) (.inl rfl) _) (.inl rfl) _
 have hjk:=hj.pure ka;obtain⟨rcs,hrow,_⟩:=hjk.row
 have hjF:=hjk.mD ks (fun k hk=>by
  unfold one at hk;refine⟨by omega,fun h=>?_,fun h=>?_⟩
  ·have:=(hrow.lt k h).1;have:=hjk.lt;omega
  ·have:=(hjk.dd k h).1;have:=hjk.lt;omega)
 have F:acy w par nodes (.returned (.agg #[.int .i64 par,.slice va nodes.length vc])) (((w1.alloc (.cells #[.int .i64 par,.slice va nodes.length vc] 24)).setCell ⟨w.heap.size,0,none⟩ (.int .i64 par)).setCell ⟨w.heap.size,1,none⟩ (.slice va nodes.length vc)):=
  ⟨_,J,lo,D,rfl,hjF,by omega,(((H.o.1.trans k1).trans ka).new ks (fun i hi hs=>by unfold one at hs;omega))⟩
 have FF:=γ (θ F hset);clear F hset ks hj hjk hjF hrow k1 ka;go_wp2_with fail;obtain⟨WF,lI⟩: ∃WF,(((w1.alloc (.cells #[.int .i64 par,.slice va nodes.length vc] 24)).setCell ⟨w.heap.size,0,none⟩ (.int .i64 par)).setCell ⟨w.heap.size,1,none⟩ (.slice va nodes.length vc))=WF:=⟨_,rfl⟩;obtain⟨F,s5⟩:=FF.o;have s5':WF.heap[w.heap.size]?=some (.cells #[.int .i64 par,.slice va nodes.length vc] 24 (0,0)):=(by rw[<-lI];simpa using s5);rw[lI]at F⊢;have q0:=ζ s5' (j:=0) rfl;have q1:=ζ s5' (j:=1) rfl;refine bodyPost_ret (v:= .agg #[.int .i64 par,.slice va nodes.length vc]) (by simp[results,Tryz.results39,go_sem,q0,q1]) rfl F
def VF (r:Nat):Bool:=r==97||r==99||r==118||r==108||r==43||r==45||r==32
theorem aa6 {r:Nat}(h:VF r=true):kC r:=by unfold VF at h;unfold kC;simp at h;omega
theorem aa5 {l:List (Nat×Nat)}(h:l.all (fun p=>VF p.2)=true): ∀p∈l,kC p.2:=fun p hp=>aa6 (List.all_eq_true.1 h p hp)
abbrev abD:ByteArray:=⟨#[112,97,114,32,50,10,115,32,115,111,117,114,99,101,10,114,32,114,101,100,117,99,101,32,115,32,58,32,97,99,99,32,43,32,118,97,108,10,116,32,115,105,110,107,32,114]⟩
def uV:List JN:=[⟨⟨#[115]⟩,1,[],.mk 0 0 [],0⟩,⟨⟨#[114]⟩,6,[0],.mk 7 0 [.mk 4 0 [],.mk 3 0 []],0⟩,⟨⟨#[116]⟩,9,[1],.mk 0 0 [],0⟩]
theorem UM:QO abD 2 uV:=by refine⟨by decide,⟨⟨#[112,97,114,32,50]⟩,[⟨#[115,32,115,111,117,114,99,101]⟩,⟨#[114,32,114,101,100,117,99,101,32,115,32,58,32,97,99,99,32,43,32,118,97,108]⟩,⟨#[116,32,115,105,110,107,32,114]⟩],⟨#[112,97,114,32,50]⟩,Df,⟨#[50]⟩,by kernel_rfl,by kernel_rfl,by decide,by kernel_rfl,by kernel_rfl,by kernel_rfl,?_⟩,⟨by decide,by decide⟩,by decide,by kernel_rfl⟩;have l0:AA ([]:List JN) ⟨#[115,32,115,111,117,114,99,101]⟩ ⟨#[115]⟩ ⟨#[115,111,117,114,99,101]⟩ [] 1 none:=⟨by kernel_rfl,by kernel_rfl,by decide,by decide,(fun i hi=>by cases hi),by kernel_rfl,by kernel_rfl,by decide,(fun y h=>by cases h)⟩;have l1:AA ([⟨⟨#[115]⟩,1,[],.mk 0 0 [],0⟩]:List JN) ⟨#[114,32,114,101,100,117,99,101,32,115,32,58,32,97,99,99,32,43,32,118,97,108]⟩ ⟨#[114]⟩ ⟨#[114,101,100,117,99,101]⟩ [⟨#[115]⟩] 6 (some (.mk 7 0 [.mk 4 0 [],.mk 3 0 []])):=⟨by kernel_rfl,by kernel_rfl,by decide,by decide,(fun i hi=>by rw[abQ.1 hi,show bP ([⟨⟨#[115]⟩,1,[],.mk 0 0 [],0⟩]:List JN) ⟨#[115]⟩=(0:Int)from by kernel_rfl];decide),by kernel_rfl,by kernel_rfl,by decide,(fun y h=>by cases h;exact⟨[97,99,99,32,43,32,118,97,108],by kernel_rfl,by decide,aa5 (by kernel_rfl),by kernel_rfl,by unfold yC;intro z hz;simp[Ex.args]at hz;rcases hz with rfl|rfl<;>(unfold yC;intro z hz;simp[Ex.args]at hz)⟩)⟩;have l2:AA ([⟨⟨#[115]⟩,1,[],.mk 0 0 [],0⟩,⟨⟨#[114]⟩,6,[0],.mk 7 0 [.mk 4 0 [],.mk 3 0 []],0⟩]:List JN) ⟨#[116,32,115,105,110,107,32,114]⟩ ⟨#[116]⟩ ⟨#[115,105,110,107]⟩ [⟨#[114]⟩] 9 none:=⟨by kernel_rfl,by kernel_rfl,by decide,by decide,(fun i hi=>by rw[abQ.1 hi,show bP ([⟨⟨#[115]⟩,1,[],.mk 0 0 [],0⟩,⟨⟨#[114]⟩,6,[0],.mk 7 0 [.mk 4 0 [],.mk 3 0 []],0⟩]:List JN) ⟨#[114]⟩=(1:Int)from by kernel_rfl];decide),by kernel_rfl,by kernel_rfl,by decide,(fun y h=>by cases h)⟩;refine .cons (by kernel_rfl) l0 (by decide) (by decide) ?_;have e0:([]++[qO [] ⟨#[115]⟩ [] 1 none]:List JN)=[⟨⟨#[115]⟩,1,[],.mk 0 0 [],0⟩]:=(by kernel_rfl);rw[e0];refine .cons (by kernel_rfl) l1 (by decide) (by decide) ?_;have e1:([⟨⟨#[115]⟩,1,[],.mk 0 0 [],0⟩]++[qO [⟨⟨#[115]⟩,1,[],.mk 0 0 [],0⟩] ⟨#[114]⟩ [⟨#[115]⟩] 6 (some (.mk 7 0 [.mk 4 0 [],.mk 3 0 []]))]:List JN)=[⟨⟨#[115]⟩,1,[],.mk 0 0 [],0⟩,⟨⟨#[114]⟩,6,[0],.mk 7 0 [.mk 4 0 [],.mk 3 0 []],0⟩]:=(by kernel_rfl);rw[e1];refine .cons (by kernel_rfl) l2 (by decide) (by decide) ?_;have e2:([⟨⟨#[115]⟩,1,[],.mk 0 0 [],0⟩,⟨⟨#[114]⟩,6,[0],.mk 7 0 [.mk 4 0 [],.mk 3 0 []],0⟩]++[qO [⟨⟨#[115]⟩,1,[],.mk 0 0 [],0⟩,⟨⟨#[114]⟩,6,[0],.mk 7 0 [.mk 4 0 [],.mk 3 0 []],0⟩] ⟨#[116]⟩ [⟨#[114]⟩] 9 none]:List JN)=[⟨⟨#[115]⟩,1,[],.mk 0 0 [],0⟩,⟨⟨#[114]⟩,6,[0],.mk 7 0 [.mk 4 0 [],.mk 3 0 []],0⟩,⟨⟨#[116]⟩,9,[1],.mk 0 0 [],0⟩]:=(by kernel_rfl);rw[e2];exact .nil _
end
section
open Go Go.RowKit
attribute [local irreducible] cZ
theorem qW.grow {w0 w w':World}{j:Jb}{l:List St}{e:Ending}(h:qW w j l e w')(hk:ε η w0 w):qW w0 j l e w':=by
 unfold qW at h⊢;split at h
 ·obtain⟨b,m,pm,h1,h2,h3,h5,h4⟩:=h
  exact⟨b,m,pm,h1,h2,ω hk.size h3,fun q T hT=>ω hk.size (h5 q T hT),hk.trans h4⟩
 ·exact⟨h.1,h.2.1,hk.trans h.2.2⟩
theorem qW.tuple {w w':World}{j:Jb}{l:List St}{e:Ending}(h:qW w j l e w'): ∃p er,e= .returned (.tuple #[.pointer p,.int .i64 er]):=by
 unfold qW at h;split at h
 ·obtain⟨b,m,pm,h1,_⟩:=h
  exact⟨_,_,h1⟩
 ·exact⟨_,_,h.1⟩
theorem aay (j:Jb)(a:Array Value)(w:World)(h:lK w a j):Calls Tryz.prog 58 #[.agg a] w (qW w j []):=by have hJ:=h;obtain⟨v,rfl,hn,hp⟩:=h;obtain⟨na,cap,rfl,h1,h2,h3⟩:=hn.at;have kA:ε η w (w.alloc (.cells #[.int .i64 j.par,.slice na j.nodes.length cap] 24)):=δ.alloc _;have cl:=aaF j _ (.slice none 0 0) [] _ (hJ.pure kA) (Reads.nil _ 2) (fun s hs=>by cases hs);have KA:=γ kA;clear kA hJ hn hp h3 h2;go_enter Tryz.func58,Tryz.ntmps58;go_wp2_with fail;(with_reducible refine cl.mono ?_);clear cl;intro e w2 hq;obtain⟨p,er,rfl⟩:=hq.tuple;have F:=γ (hq.grow KA.o);clear hq;go_wp2_with fail;go_ret2;exact F.o
end
section
open Go Go.RowKit
def nH (Ts:Tabs)(pm:Nat->Nat×Nat):Nat->Prop:=fun k=> ∃(i:Nat)(T:Tab),Ts[i]?=some (some T)/\(pm i).2=k
theorem dL.Ic {w:World}{m:Nat}{Ts:Tabs}{pm:Nat->Nat×Nat}(h:dL w m Ts pm){k:Nat}(hk:nH Ts pm k):k<w.heap.size:=by obtain⟨i,T,hT,rfl⟩:=hk;exact(h.tab i T hT).1.lt.1
theorem dL.zk {w:World}{m:Nat}{Ts:Tabs}{pm:Nat->Nat×Nat}(h:dL w m Ts pm){k:Nat}(hk:nH Ts pm k): ∀c E f,w.heap[k]?≠some (.cells c E f):=by obtain⟨i,T,hT,rfl⟩:=hk;exact(h.tab i T hT).1.jT
def jK (w:World)(mb n:Nat)(M:List (List Rec)):Prop:=
 ∃cs,w.ownsRow mb 60 1 (.slice (some ⟨mb,0,none⟩) n n) n cs/\ ∀(i:Nat)(L:List Rec),M[i]?=some L-> ∃v,cs[i]?=some v/\Reads w 3 v (recs L)/\ ∀b,Value.blk v=some b->mb<b
theorem jK.mD {S:Nat->Prop}{w w':World}{mb n:Nat}{M:List (List Rec)}(h:jK w mb n M)(hk:ε S w w')(hS: ∀k,S k->k<mb):jK w' mb n M:=by
 obtain⟨cs,h1,h2⟩:=h;refine⟨cs,hk.owns h1 (fun k hk hs=>?_),fun i L hL=>?_⟩
 ·have:mb=k:=by simpa[Value.ownBlock]using hk
  have:=hS k hs;omega
 ·obtain⟨v,g1,g2,g3⟩:=h2 i L hL
  exact⟨v,g1,g2.kept hk (fun b hb hs=>by have:=g3 b hb;have:=hS b hs;omega),g3⟩
theorem jK.pure {w w':World}{mb n:Nat}{M:List (List Rec)}(h:jK w mb n M)(hk:ε η w w'):jK w' mb n M:=h.mD hk (fun _ h=>h.elim)
theorem jK.cell {w:World}{mb n:Nat}{M:List (List Rec)}(h:jK w mb n M)(hM:M.length<=n){i:Nat}{L:List Rec}(hL:M[i]?=some L):
 ∃v,w.cell? ⟨mb,i,none⟩=some v/\Reads w 3 v (recs L)/\ ∀b,Value.blk v=some b->mb<b:=by
 obtain⟨cs,h1,h2⟩:=h;obtain⟨v,g1,g2,g3⟩:=h2 i L hL;have hi:i<M.length:=(μ.1 hL).1;exact⟨v,by rw[h1.cellAt i (by omega)];exact g1,g2,g3⟩
theorem jK.free {w:World}{mb n:Nat}{M:List (List Rec)}(h:jK w mb n M){i:Nat}(hi:i<n):(∃v,w.cell? ⟨mb,i,none⟩=some v)/\w.frozen? ⟨mb,i,none⟩=false:=by obtain⟨cs,h1,_⟩:=h;refine⟨?_,h1.frozenAt i⟩;have hl:cs.length=n*1:=h1.1;have hc:=h1.cellAt i (by omega);exact⟨_,hc.trans (ι (by omega))⟩
theorem jK.lt {w:World}{mb n:Nat}{M:List (List Rec)}(h:jK w mb n M):mb<w.heap.size:=by obtain⟨cs,h1,_⟩:=h;exact(h1.lt mb rfl).2
theorem jK.store {w:World}{mb n:Nat}{M:List (List Rec)}(h:jK w mb n M)(hM:M.length<n){v:Value}{L:List Rec}(hv:Reads w 3 v (recs L))(hb: ∀b,Value.blk v=some b->mb<b):
 jK (w.setCell ⟨mb,M.length,none⟩ v) mb n (M++[L])/\ε (one mb) w (w.setCell ⟨mb,M.length,none⟩ v):=by
 obtain⟨cs,h1,h2⟩:=h;have hl:cs.length=n*1:=h1.1;have hk:ε (one mb) w (w.setCell ⟨mb,M.length,none⟩ v):=ε.setCell (p:=⟨mb,M.length,none⟩) (ε.refl (one mb) _) (.inl rfl) _;refine⟨⟨cs.set M.length v,(h1.stored M.length v).1,fun i U hU=>?_⟩,hk⟩;by_cases hi:i<M.length
 ·rw[Ω hi]at hU
  obtain⟨u,g1,g2,g3⟩:=h2 i U hU;exact⟨u,by rw[List.getElem?_set_ne (by omega)];exact g1,g2.kept hk (fun b hb hs=>by have:=g3 b hb;unfold one at hs;omega),g3⟩
 ·have hi2:i=M.length:=by
   have:=(μ.1 hU).1;simp at this;omega
  subst hi2;rw[Ψ (ξ _),Nat.sub_self]at hU;cases hU;exact⟨v,List.getElem?_set_self (by omega),hv.kept hk (fun b hb' hs=>by have:=hb b hb';unfold one at hs;omega),hb⟩
theorem aaf (w:World)(n:Nat)(hn:n<=1000): ∃w',(Instr.makeSlice 142 (.int .i64 (n:Int)) (.int .i64 (n:Int))).run Tryz.prog w= .ok (.slice (some ⟨w.heap.size,0,none⟩) n n) w'/\jK w' w.heap.size n []/\ε η w w':=by obtain⟨i,z,hi,hz,hs,hb,hzc⟩:=Tryz.info60;obtain⟨w',h1,h2,h3⟩:=run_make_full (P:=Tryz.prog) w w.heap.size 142 60 i z 1 Tryz.underlying142 hi hz hs .i64 .i64 n (by rw[hb];omega) (by unfold maxLen;omega) (ξ _);exact⟨w',h1,⟨_,h2,fun i L hL=>by simp at hL⟩,ε.grown h3 (fun k hk=>by cases hk)⟩
theorem OW {w:World}{base n:Nat}{va:Value}{l:List Value}(h:w.ownsRow base 60 1 va n l){u:Value}(hu:u.oneCell'=true)(hb:base<=w.heap.size)(hn:n<=100000):
 ∃iw w',(Builtin.append_ #[142,142] 142 #[va,.slice (some ⟨w.heap.size,0,none⟩) 1 1]).run Tryz.prog (w.alloc (.cells #[u] 60))= .ok iw w'/\w'.ownsRow base 60 1 iw (n+1) (l++[u])/\ε (fun j=>base<=j) w w':=by
 obtain⟨i,z,hi,hz,hs,hby,hzs⟩:=Tryz.info60;exact U9 Tryz.underlying142 hi hz hs hby hzs hu h hn (by omega) hb 142
theorem nO.iy {w:World}{a:Array Value}{d:JN}(h:nO w a d):dO w a d.iy:=by obtain⟨pi,ci,p,cap,h1,h2,h3,h4,h5,h6,h7,h8⟩:=h;exact⟨d.uid,_,p,cap,h1,h2,h5,h6,h7⟩
theorem Reads.slice_form {w:World}{v:Value}{L:List Rec}(h:Reads w 3 v (recs L)): ∃a cap,v= .slice a L.length cap:=by obtain⟨a,cap,h1,_⟩:=h.len;exact⟨a,cap,h1⟩
theorem dL.look1 {S:Nat->Prop}{w w':World}{m:Nat}{Ts:Tabs}{pm:Nat->Nat×Nat}(h:dL w m Ts pm)(hk:ε S w w')(hm: ¬S m)(i:Nat)(hi:i<Ts.length):
 (Instr.lookup 138 (.map (some m)) (.int .i64 (i:Int)) false).run Tryz.prog w'= .ok ((l7 pm i (Ts.getD i none)).getD (.pointer none)) w':=by
 obtain⟨⟨l,h1,h2,_⟩,_,_⟩:=h;have:=(h1.kept hk hm).TT (P:=Tryz.prog) Tryz.underlying138 Tryz.underlying3 (i:Int) (Tryz.zeroValue43 w');rwa[h2 i hi]at this
theorem Reads.abT {w:World}{a:Option Addr}{n cap:Nat}{l:List Int}(h:Reads w 1 (.slice a n cap) (ints l)):l=[]\/ ∃b off,a=some ⟨b,off,none⟩/\ ∀(i:Nat)(x:Int),l[i]?=some x->w.cell? ⟨b,off+i,none⟩=some (.int .i64 x):=by
 obtain⟨a',n',cap',e,h1,h2,h3,h4⟩:=h;cases e
 rcases h4 with h4|⟨b,off,hb,h4⟩
 ·left;unfold ints at h4;simpa using h4
 ·right
  exact⟨b,off,hb,fun i x hx=>h4 i _ (by unfold ints;rw[abJ,hx];rfl)⟩
def VY (w:World)(b m:Nat)(j:Jb)(Ts:Tabs)(pm:Nat->Nat×Nat)(key val:Int)(e:Ending)(w':World):Prop:=
 ∃v,e= .returned v/\Reads w' 3 v (recs (iF j.nodes Ts key val).1)/\(∀q,Value.blk v=some q->w.heap.size<=q)/\vM w' b m j (iF j.nodes Ts key val).2 pm/\ε (nH Ts pm) w w'
def VZ (M:Nat->Prop)(w:World)(b m:Nat)(j:Jb)(Ts:Tabs)(pm:Nat->Nat×Nat)(key val:Int)(e:Ending)(w':World):Prop:=
 ∃v,e= .returned v/\Reads w' 3 v (recs (iF j.nodes Ts key val).1)/\(∀q,Value.blk v=some q->w.heap.size<=q)/\vM w' b m j (iF j.nodes Ts key val).2 pm/\ε (nH Ts pm) w w'/\
  dN w' (fun k=>M k\/w.heap.size<=k) m (iF j.nodes Ts key val).2 pm
end
