/- script.Parse of a text whose lines tell a job. -/
import Derived.Test.YtglbkodmmogomaaGreatDoorM21
import Derived.Test.YtglbkodmmogomaaGreatDoorM29
set_option linter.unusedVariables false
set_option linter.unusedSimpArgs false
set_option maxHeartbeats 2000000
set_option maxRecDepth 100000
namespace Go.Proofs.YtglbkodmmogomaaGreatDoor
open Go Go.RowKit
attribute [local irreducible] bH dP H2.bW
def oG (s:ByteArray):List ByteArray:=Lib.splitB ⟨#[10]⟩ 0 (Lib.countB s ⟨#[10]⟩) s
inductive qF:List ByteArray->List JN->List JN->Prop
 |nil (L:List JN):qF [] L L
 |cons {s:ByteArray} {ls:List ByteArray} {L L':List JN} {uid kw:ByteArray} {ins:List ByteArray} {k:Nat} {x:Option Ex}:nO s=false->qg L s uid kw ins k x->uid.size<=1000->ins.length<=1000->
   qF ls (L++[jP L uid ins k x]) L'->qF (s::ls) L L'
structure Bc (s:ByteArray)(par:Int)(nodes:List JN):Prop where
 size:s.size<=65536
 first: ∃s1 ls ah bh d,oG s=s1::ls/\nO s1=false/\s1.size<=1000/\ig s1=(ah,bh,false)/\uy ah=some [BD,d]/\Fa d 1=some par/\qF ls [] nodes
 p64:bF par
 few:nodes.length<=1000
 ok:fU ⟨par,nodes⟩=true
theorem qF.len {ls:List ByteArray}{L L':List JN}(h:qF ls L L'):L'.length=L.length+ls.length:=by
 induction h with
 |nil L=>simp
 |cons _ _ _ _ _ ih=>rw[ih];simp;omega
theorem Pm (s uid kw:ByteArray)(ins:List ByteArray)(k:Nat)(x:Option Ex)(J lo:Nat)(par:Int)(L:List JN)(v:Value)(D:Nat->Prop)(w:World)(hl:qg L s uid kw ins k x)(h:jk w J lo par L v D)(hu:uid.size<=maxLen)(hil:ins.length<=1000)(hnl:L.length<=1000):
 Calls Tryz.prog 124 #[.pointer (some ⟨J,0,none⟩), .string s, .bool false] w (vX w J lo par (L++[jP L uid ins k x]) v D):=by
 cases x with
 |none=>exact Nc s uid kw ins k J lo par L w hl v D h hu hil hnl
 |some y=>exact Nb s uid kw ins k y J lo par L w hl v D h hu hil hnl
theorem Ry {w:World}{base n:Nat}{va:Value}{cs:List Value}(h:w.ownsRow base 3 1 va n cs)(x:Int)(hb:base<=w.heap.size)(hn:n<=100000):
 ∃iH w',(Builtin.append_ #[37,37] 37 #[va, .slice (some ⟨w.heap.size,0,none⟩) 1 1]).run Tryz.prog (w.alloc (.cells #[.int .i64 x] 3))= .ok iH w'/\w'.ownsRow base 3 1 iH (n+1) (cs++[.int .i64 x])/\
  Kept (fun q=>va.ownBlock=some q) w w'/\ ∀q,iH.ownBlock=some q->va.ownBlock=some q\/w.heap.size<=q:=by
 have h3:(Tryz.prog.info? 3).map (fun i=>(i.zero,i.size,i.bytes))=some (some (.int .i64 0),1,8):=by kernel_rfl
 obtain⟨i,hi,hzz⟩:=Option.map_eq_some_iff.1 h3
 simp only[Prod.mk.injEq]at hzz
 obtain⟨hz,hs,hby⟩:=hzz
 have kA:Kept none' w (w.alloc (.cells #[.int .i64 x] 3)):=(Kept.refl _ _).alloc _
 have hr:=Reads.lit w [.int .i64 x] 3 1 1 rfl (by unfold maxLen;omega)
 have hA:=kA.owns h (fun _ _ h=>h)
 have hcl:cs.length=n*1:=h.1
 have h1: ∀y∈[Value.int .i64 x],y.oneCell'=true:=by intro y hy;rw[List.mem_singleton.1 hy];rfl
 obtain⟨v',n',w',b1,b2,b3,b4,_⟩:=bI (P:=Tryz.prog) base 37 37 3 i _ 1 8 Tryz.underlying37 hi hz hs hby rfl (by omega) hA hr h1 (by simp;omega) (by simp;unfold maxLen;omega) (by have:=kA.size;omega)
 have hn':n'=n+1:=by simpa using b3
 subst hn'
 refine⟨v',w',b1,b2,kA.pure.trans (Kept.grown b4 (fun k hk _=>hk)),fun q hq=>?_⟩
 have hsz:(w.alloc (.cells #[.int .i64 x] 3)).heap.size=w.heap.size+1:=by simp
 have hnews: ∀j v,[Value.int .i64 x][j]?=some v->(w.alloc (.cells #[.int .i64 x] 3)).cell? ((⟨w.heap.size,0,none⟩:Addr).add j)=some v:=fun j v hj=>by
  rw[Addr.add_lit,World.cell?_alloc_new];simpa using hj
 rcases h.2 with⟨rfl,rfl⟩|⟨g,cap,cur,rfl,hbg,hg,hnc,hcm,hcs,htake⟩
 ·have hr:=run_append_nil (P:=Tryz.prog) (w.alloc (.cells #[.int .i64 x] 3)) 37 37 3 i _ Tryz.underlying37 hi hz ⟨w.heap.size,0,none⟩ 1 1 [Value.int .i64 x] (by rw[hs];rfl) hnews (by omega) (by omega) (by omega)
  rw[b1]at hr
  injection hr with e1 e2
  rw[e1]at hq
  right
  have:(w.alloc (.cells #[.int .i64 x] 3)).heap.size=q:=by simpa[Value.ownBlock]using hq
  omega
 ·by_cases hroom:n+1<=cap
  ·obtain⟨w2,hr,_⟩:=run_append_fits (P:=Tryz.prog) (w.alloc (.cells #[.int .i64 x] 3)) base 37 37 3 i 1 Tryz.underlying37 hi hs g n cap cs hA ⟨w.heap.size,0,none⟩ 1 1 [Value.int .i64 x] rfl hnews h1 hroom
   rw[b1]at hr
   injection hr with e1 e2
   rw[e1]at hq
   left
   exact hq
  ·have holds: ∀j u,cs[j]?=some u->(w.alloc (.cells #[.int .i64 x] 3)).cell? ((⟨g,0,none⟩:Addr).add j)=some u:=hA.cells (g:=g) rfl
   have hr:=run_append_grow (P:=Tryz.prog) (w.alloc (.cells #[.int .i64 x] 3)) 37 37 3 i _ Tryz.underlying37 hi hz ⟨g,0,none⟩ n cap cs (by rw[hs];exact hcl) holds ⟨w.heap.size,0,none⟩ 1 1 [Value.int .i64 x] (by rw[hs];rfl) hnews (by omega) (by omega) (growslice_fits (by omega) (by rw[hby];omega))
   rw[b1]at hr
   injection hr with e1 e2
   rw[e1]at hq
   right
   have:(w.alloc (.cells #[.int .i64 x] 3)).heap.size=q:=by simpa[Value.ownBlock]using hq
   omega
def Ou (w:World)(par:Int)(nodes:List JN)(e:Ending)(w':World):Prop:= ∃v J lo D,e= .returned (.tuple #[.agg #[.int .i64 par,v], .int .i64 0, .int .i64 0])/\jk w' J lo par nodes v D/\w.heap.size<J/\Kept none' w w'
structure Qu (w1 wr:World)(J lo:Nat)(par:Int)(lines:List ByteArray)(nodes:List JN)(i:Nat)(v6 v7:Value):Prop where
 st: ∃(v:Value)(D:Nat->Prop)(L:List JN)(na:Nat)(xs:List Value)(p:Int),jk wr J lo p L v D/\wr.ownsRow lo 3 1 v6 na xs/\na<=i/\(∀b,v6.ownBlock=some b-> ¬D b)/\
  ((i=0/\v7= .bool true/\p=0/\L=[])\/(1<=i/\v7= .bool false/\p=par/\qF (lines.drop i) L nodes))
 kept:Kept (fun q=>q=J\/lo<=q) w1 wr
theorem parse_any (s:ByteArray)(par:Int)(nodes:List JN)(w:World)(hP:Bc s par nodes)(m:Int)(hm:w.cell? ⟨0,0,none⟩=some (.int .i64 m)):Calls Tryz.prog 84 #[.string s] w (Ou w par nodes):=by
 obtain⟨hsz,⟨s1,ls,ah,bh,d,NM,hs1,hsz1,hp1,hw1,hn1,hls⟩,h64,hfew,hok⟩:=hP
 have hm0:0<w.heap.size:=by have:=block_lt_of_cell hm;simpa using this
 obtain⟨W0,hW0⟩: ∃W0,(w.alloc (.cells #[.int .i64 0, .slice none 0 0] 24)).alloc (.cells #[.int .i64 0, .slice none 0 0] 24)=W0:=⟨_,rfl⟩
 have k0:Kept none' w W0:=by rw[<-hW0];exact((Kept.refl _ _).alloc _).alloc _
 have t0:W0.heap[w.heap.size]?=some (.cells #[.int .i64 0, .slice none 0 0] 24 (0,0)):=by rw[<-hW0];exact((Kept.refl none' _).alloc _).heap (heap_alloc_new w _) (fun h=>h)
 have j0:W0.heap[w.heap.size+1]?=some (.cells #[.int .i64 0, .slice none 0 0] 24 (0,0)):=by
  rw[<-hW0]
  have:=heap_alloc_new (w.alloc (.cells #[.int .i64 0, .slice none 0 0] 24)) (.cells #[.int .i64 0, .slice none 0 0] 24)
  rwa[World.size_alloc]at this
 have hsz0:W0.heap.size=w.heap.size+2:=by rw[<-hW0];simp
 have hcl:=Lib.countB_le ⟨#[10]⟩ (by decide) s.size s (Nat.le_refl _)
 have hall:=Lib.splitB_all ⟨#[10]⟩ (by decide) 0 _ s rfl
 have cs:Calls Tryz.prog 122 #[.string s, .string ⟨#[10]⟩] W0 fun e w'=>e= .returned (.slice (some ⟨W0.heap.size,0,none⟩) (Lib.countB s ⟨#[10]⟩+1) (Lib.countB s ⟨#[10]⟩+1))/\w'=W0.alloc (.cells ((oG s).map Value.string).toArray 9):=
  Any.strings_Split Tryz.splitL (by kernel_rfl) s ⟨#[10]⟩ m W0 (by omega) (k0.cell (p:=⟨0,0,none⟩) (fun h=>h) hm) (by decide)
 have hll:(oG s).length=Lib.countB s ⟨#[10]⟩+1:=hall
 obtain⟨n,hn⟩: ∃n,Lib.countB s ⟨#[10]⟩+1=n:=⟨_,rfl⟩
 rw[hn,hsz0]at cs
 rw[hn]at hll
 have hn2:n<=65537:=by omega
 have HH:=Lib.hid (And.intro k0 (And.intro t0 (And.intro j0 (And.intro hsz0 (And.intro hll (And.intro NM (And.intro hs1 (And.intro hsz1 (And.intro hp1 (And.intro hw1 (And.intro hn1 (And.intro hls (And.intro h64 (And.intro hfew hok))))))))))))))
 have HW:=Lib.hid hW0
 have hbig: ¬((65536:Int)<(s.size:Int)):=by omega
 clear hcl hall hn hsz NM hs1 hsz1 hp1 hw1 hn1 hls h64 hfew hok k0 t0 j0 hll hW0 hm hsz0
 go_enter Tryz.func84,Tryz.ntmps84
 go_wp2_with fail
 rw[HW.out]
 (with_reducible refine cs.mono ?_)
 clear cs
 rintro e W1 ⟨rfl,hW1⟩
 have k1:Kept none' W0 W1:=by rw[hW1];exact(Kept.refl _ _).alloc _
 have l1:W1.heap[w.heap.size+2]?=some (.cells ((oG s).map Value.string).toArray 9 (0,0)):=by rw[hW1,<-HH.out.2.2.2.1];exact heap_alloc_new _ _
 have hsz1:W1.heap.size=w.heap.size+3:=by rw[hW1,World.size_alloc,HH.out.2.2.2.1]
 have st1:jk W1 (w.heap.size+1) (w.heap.size+3) 0 [] (.slice none 0 0) none':=⟨k1.heap HH.out.2.2.1 (fun h=>h),⟨[],World.ownsRow_nil _ _ _ _,fun i d hd=>by simp at hd⟩,fun k hk=>hk.elim,by omega,by omega,nH⟩
 have H1:=Lib.hid (And.intro (HH.out.1.trans k1) (And.intro l1 (And.intro (k1.heap HH.out.2.1 (fun h=>h)) st1)))
 clear hW1 k1 l1 st1
 go_wp2_with fail
 go_loopg [6,7,20] n (fun g v6 v7 vi wr=> ∃i:Nat,i<=n/\vi= .int .i64 (i:Int)/\n-i<=g/\Qu W1 wr (w.heap.size+1) (w.heap.size+3) par (oG s) nodes i v6 v7)
 case atStart=>exact⟨0,by omega,rfl,by omega,⟨_,_,_,0,[],0,H1.out.2.2.2,World.ownsRow_nil _ _ _ _,Nat.le_refl _,(fun b hb=>by cases hb), .inl ⟨rfl,rfl,rfl,rfl⟩⟩,Kept.refl _ _⟩
 case round=>
  obtain⟨i,hin,rfl,hg,hst⟩:=hrel
  obtain⟨wo,rfl⟩: ∃wo:World,wo=wr:=⟨_,rfl⟩
  obtain⟨⟨v,D,L,na,xs,p,hj,hown,hna,hD,hcase⟩,hkp⟩:=hst
  obtain⟨aa,ac,rfl⟩:=ay hown
  have Jm:=hkp.heap H1.out.2.1 (by omega)
  by_cases hlt:i<n
  ·obtain⟨t,ht⟩: ∃t,(oG s)[i]?=some t:=⟨_,List.getElem?_eq_getElem (by rw[HH.out.2.2.2.2.1];exact hlt)⟩
   have lc:=cells_at Jm (j:=i) (v:= .string t) (by rw[List.getElem?_toArray,List.getElem?_map,ht];rfl)
   have hbl:w.heap.size+2<wo.heap.size:=(Array.getElem?_eq_some_iff.1 Jm).1
   have hiw:IntKind.i64.wrap ((i:Int)+1)=((i+1:Nat):Int):=wrapN (n:=i+1) (by omega)
   rcases hcase with⟨rfl,rfl,rfl,rfl⟩|⟨hi1,rfl,rfl,hln⟩
   ·obtain⟨s1,ls,ah,bh,d,hA⟩: ∃s1 ls ah bh d,oG s=s1::ls/\nO s1=false/\s1.size<=1000/\ig s1=(ah,bh,false)/\uy ah=some [BD,d]/\Fa d 1=some par/\qF ls [] nodes:=⟨s1,ls,ah,bh,d,HH.out.2.2.2.2.2.1,HH.out.2.2.2.2.2.2.1,HH.out.2.2.2.2.2.2.2.1,HH.out.2.2.2.2.2.2.2.2.1,HH.out.2.2.2.2.2.2.2.2.2.1,HH.out.2.2.2.2.2.2.2.2.2.2.1,HH.out.2.2.2.2.2.2.2.2.2.2.2.1⟩
    obtain⟨hl0,hl1,hl2,hl3,hl4,hl5,WS⟩:=hA
    have hts:t=s1:=by rw[hl0]at ht;cases ht;rfl
    rw[hts]at lc
    have cs1:=zS s1 (by unfold maxLen;omega) wo
    rw[hl1]at cs1
    have G:=Lib.hid (And.intro hg (And.intro hj (And.intro hown (And.intro hD (And.intro hkp (And.intro hl0 WS))))))
    have LL:=Lib.hid (And.intro hl3 (And.intro hl4 hl5))
    clear hg hj hown hD hkp hl0 WS ht Jm hl3 hl4 hl5 hl1
    go_wp2_with fail
    (with_reducible refine cs1.mono ?_)
    clear cs1
    rintro e w3 ⟨rfl,k3⟩
    have cl:=Nh s1 ah bh d par (w.heap.size+1) (w.heap.size+3) w3 LL.out.1 LL.out.2.1 LL.out.2.2 HH.out.2.2.2.2.2.2.2.2.2.2.2.2.1 (by unfold maxLen;omega) v D (G.out.2.1.pure k3)
    have K3:=Lib.hid k3
    clear k3 lc
    go_wp2_with fail
    (with_reducible refine cl.mono ?_)
    clear cl
    rintro e w4 ⟨rfl,v',D',xH,hv4,hD4,k4⟩
    have Z:=Lib.hid (show Qu W1 w4 (w.heap.size+1) (w.heap.size+3) par (oG s) nodes 1 (.slice aa na ac) (.bool false) by
     obtain⟨cs0,h2,_⟩:=G.out.2.1.row
     have hown3:=K3.out.owns G.out.2.2.1 (fun _ _ h=>h)
     refine⟨⟨v',D',[],na,xs,par,xH,k4.owns hown3 (fun q hq hs=>?_),by omega,fun q hq hd=>?_, .inr ⟨Nat.le_refl _,rfl,rfl,?_⟩⟩,(G.out.2.2.2.2.1.new K3.out (fun _ _ h=>h.elim)).new k4 (fun i hi hs=>?_)⟩
     ·rcases hs with hs|hs
      ·have:=(G.out.2.2.1.lt q hq).1;omega
      ·exact wZ h2 G.out.2.2.1 (by decide) q hs hq
     ·rcases hD4 q hd with h|h
      ·exact G.out.2.2.2.1 q hq h
      ·have:=(hown3.lt q hq).2;omega
     ·rw[G.out.2.2.2.2.2.1];exact G.out.2.2.2.2.2.2
     ·rcases hs with hs|hs
      ·exact .inl hs
      ·exact .inr (h2.lt i hs).1)
    clear xH hv4 hD4 k4
    go_wp2_with fail
    go_roundg (n-1)
    case rel=>exact⟨1,by omega,by go_num,Nat.le_refl _,Z.out⟩
    case measure=>have:=G.out.1;omega
   ·rw[vS ht]at hln
    cases hln with
    | @cons _ _ _ _ uid kw ins k x Ub Ur hus XT hrest=>
    have cs1:=zS t (by have:=Ur.size;unfold maxLen;omega) wo
    rw[Ub]at cs1
    have hLl:L.length<=1000:=by have h1:=hrest.len;have h2:=HH.out.2.2.2.2.2.2.2.2.2.2.2.2.2.1;rw[List.length_append]at h1;omega
    have G:=Lib.hid (And.intro hg (And.intro hj (And.intro hown (And.intro hD (And.intro hkp (And.intro Ur hrest))))))
    clear hg hj hown hD hkp Ur hrest ht Jm Ub
    go_wp2_with fail
    (with_reducible refine cs1.mono ?_)
    clear cs1
    rintro e w3 ⟨rfl,k3⟩
    have cl:=Pm t uid kw ins k x (w.heap.size+1) (w.heap.size+3) p L v D w3 G.out.2.2.2.2.2.1 (G.out.2.1.pure k3) (by unfold maxLen;omega) XT hLl
    have K3:=Lib.hid k3
    clear k3 lc
    go_wp2_with fail
    (with_reducible refine cl.mono ?_)
    clear cl
    rintro e w4 ⟨rfl,v',D',xH,hv4,hD4,k4⟩
    obtain⟨cs0,h2,_⟩:=G.out.2.1.row
    have hown3:=K3.out.owns G.out.2.2.1 (fun _ _ h=>h)
    have hown4:=k4.owns hown3 (fun q hq hs=>by
     rcases hs with hs|hs
     ·have:=(G.out.2.2.1.lt q hq).1;omega
     ·exact wZ h2 G.out.2.2.1 (by decide) q hs hq)
    have Qe: ∀q,(Value.slice aa na ac).ownBlock=some q-> ¬D' q:=fun q hq hd=>by
     rcases hD4 q hd with h|h
     ·exact G.out.2.2.2.1 q hq h
     ·have:=(hown3.lt q hq).2;omega
    obtain⟨v6,w5,g1,g2,g3,g4⟩:=Ry hown4 ((i:Int)+1) xH.le (by omega)
    obtain⟨cs4,U4,_⟩:=xH.row
    have WV:jk w5 (w.heap.size+1) (w.heap.size+3) p (L++[jP L uid ins k x]) v' D':=xH.jL g3 (fun q hq=>⟨by have:=(hown4.lt q hq).1;omega,fun h=>wZ U4 hown4 (by decide) q h hq,Qe q hq⟩)
    obtain⟨a5,c5,rfl⟩:=ay g2
    have Z:=Lib.hid (And.intro g1 (show Qu W1 w5 (w.heap.size+1) (w.heap.size+3) p (oG s) nodes (i+1) (.slice a5 (na+1) c5) (.bool false) by
     refine⟨⟨v',D',_,na+1,_,p,WV,g2,by omega,fun q hq hd=>?_, .inr ⟨by omega,rfl,rfl,G.out.2.2.2.2.2.2⟩⟩,((G.out.2.2.2.2.1.new K3.out (fun _ _ h=>h.elim)).new k4 (fun i hi hs=>?_)).new g3 (fun i hi hs=> .inr (hown4.lt i hs).1)⟩
     ·rcases g4 q hq with h|h
      ·exact Qe q h hd
      ·have:=(xH.dd q hd).2.1;omega
     ·rcases hs with hs|hs
      ·exact .inl hs
      ·exact .inr (h2.lt i hs).1))
    clear xH hv4 hD4 k4 h2 hown3 hown4 Qe g1 g2 g3 g4 U4 WV
    go_wp2_with (at_builtin;refine iL rfl (.tmp 38) (.tmp 41) 37 rfl _ _ _ rfl rfl Z.out.1 ?_)
    go_roundg (n-(i+1))
    case rel=>exact⟨i+1,by omega,by go_num,Nat.le_refl _,Z.out.2⟩
    case measure=>have:=G.out.1;omega
  ·have hie:i=n:=by omega
   subst hie
   have hi1:1<=i:=by
    have h1:=HH.out.2.2.2.2.1
    have h2:=HH.out.2.2.2.2.2.1
    rw[h2]at h1
    simp at h1
    omega
   rcases hcase with⟨h0,_⟩|⟨_,rfl,rfl,hln⟩
   ·omega
   ·rw[List.drop_of_length_le (by rw[HH.out.2.2.2.2.1];exact Nat.le_refl _)]at hln
    cases hln
    have j0:=cells_at hj.obj (j:=0) rfl
    have j1:=cells_at hj.obj (j:=1) rfl
    have Xa:w.heap.size+1<wo.heap.size:=(Array.getElem?_eq_some_iff.1 hj.obj).1
    have cm:=zo ⟨p,nodes⟩ _ wo hj.job
    have hr2:(dM ⟨p,nodes⟩).2=0:=by
     have:=oI ⟨p,nodes⟩
     rw[HH.out.2.2.2.2.2.2.2.2.2.2.2.2.2.2]at this
     simpa using this.symm
    obtain⟨r1,hr1⟩: ∃r1,(dM ⟨p,nodes⟩).1=r1:=⟨_,rfl⟩
    unfold jI at cm
    rw[hr1,hr2]at cm
    have tT:=hkp.heap H1.out.2.2.1 (by omega)
    have G:=Lib.hid (And.intro hj (And.intro hkp tT))
    clear hg hj hown hD hkp tT hr1 hr2 Jm
    go_wp2_with fail
    (with_reducible refine cm.mono ?_)
    clear cm
    rintro e w3 ⟨rfl,k3⟩
    have hj3:=G.out.1.pure k3
    have j0:=cells_at hj3.obj (j:=0) rfl
    have j1:=cells_at hj3.obj (j:=1) rfl
    have hJ3:w.heap.size+1<w3.heap.size:=(Array.getElem?_eq_some_iff.1 hj3.obj).1
    have t3:=k3.heap G.out.2.2 (fun h=>h)
    have z0:=cells_at t3 (j:=0) rfl
    have z1:=cells_at t3 (j:=1) rfl
    have f0:=free_at t3 0
    have f1:=free_at t3 1
    have hT3:w.heap.size<w3.heap.size:=by omega
    obtain⟨va,vc,rfl⟩: ∃a c,v= .slice a nodes.length c:=by
     obtain⟨cs,h2,_⟩:=hj3.row
     exact ay h2
    have hset:((w3.setCell ⟨w.heap.size,0,none⟩ (.int .i64 p)).setCell ⟨w.heap.size,1,none⟩ (.slice va nodes.length vc)).heap[w.heap.size]?=some (.cells #[.int .i64 p, .slice va nodes.length vc] 24 (0,0)):=by
     have:=aS (aS t3 0 (.int .i64 p)) 1 (.slice va nodes.length vc)
     simpa using this
    have ks:Kept (one w.heap.size) w3 ((w3.setCell ⟨w.heap.size,0,none⟩ (.int .i64 p)).setCell ⟨w.heap.size,1,none⟩ (.slice va nodes.length vc)):=Kept.setCell (p:=⟨w.heap.size,1,none⟩) (Kept.setCell (p:=⟨w.heap.size,0,none⟩) (Kept.refl (one w.heap.size) w3) (.inl rfl) _) (.inl rfl) _
    have F:Ou w p nodes (.returned (.tuple #[.agg #[.int .i64 p, .slice va nodes.length vc], .int .i64 0, .int .i64 0])) ((w3.setCell ⟨w.heap.size,0,none⟩ (.int .i64 p)).setCell ⟨w.heap.size,1,none⟩ (.slice va nodes.length vc)):=by
     have xH:=hj3.jL ks (fun k hk=>by
      unfold one at hk
      obtain⟨cs,h2,_⟩:=hj3.row
      refine⟨by omega,fun h=>?_,fun h=>?_⟩
      ·have:=(h2.lt k h).1;omega
      ·have:=(hj3.dd k h).1;omega)
     refine⟨_,_,_,_,rfl,xH,by omega,(((H1.out.1.new G.out.2.1 (fun i hi hs=>by omega)).trans k3).new ks (fun i hi hs=>by unfold one at hs;omega))⟩
    have FF:=Lib.hid (And.intro F hset)
    clear F hset ks hj3 t3 k3
    go_wp2_with fail
    obtain⟨WF,ji⟩: ∃WF,((w3.setCell ⟨w.heap.size,0,none⟩ (.int .i64 p)).setCell ⟨w.heap.size,1,none⟩ (.slice va nodes.length vc))=WF:=⟨_,rfl⟩
    obtain⟨F,s5⟩:=FF.out
    rw[ji]at s5 F⊢
    have q0:=cells_at s5 (j:=0) rfl
    have q1:=cells_at s5 (j:=1) rfl
    refine bodyPost_ret (v:= .tuple #[.agg #[.int .i64 p, .slice va nodes.length vc], .int .i64 0, .int .i64 0]) (by simp[results,Tryz.results84,go_sem,q0,q1]) rfl F
end Go.Proofs.YtglbkodmmogomaaGreatDoor
