/- What each law of the ideals ends in: the document's job, fed twice. -/
import Derived.Test.YtopeleenlcnkkaaGreatDoorX38
set_option linter.unusedVariables false
set_option linter.unusedSimpArgs false
set_option maxHeartbeats 4000000
set_option maxRecDepth 100000
namespace Go.Proofs.YtopeleenlcnkkaaGreatDoor
section
open Go Go.RowKit
attribute [local irreducible] bU dL H2.cZ
theorem dF.aaD {nodes:List JN}{Ts Us:Tabs}(h:dF nodes Ts)(hu:dF nodes Us){i:Nat}{T:Tab}(hT:Ts[i]?=some (some T)): ∃U,Us[i]?=some (some U):=by
 have hi:i<nodes.length:=by rw[<-h.len];exact(List.getElem?_eq_some_iff.1 hT).1
 obtain⟨d,hd⟩: ∃d,nodes[i]?=some d:=⟨_,List.getElem?_eq_getElem hi⟩
 cases hs:stateful d.kind with
 |false=>rw[h.not i d hd hs]at hT;cases hT
 |true=>obtain⟨U,hU,_⟩:=hu.has i d hd hs;exact⟨U,hU⟩
theorem dF.newT {nodes:List JN}{Ts Us:Tabs}(h:dF nodes Ts)(hu:dF nodes Us){n:Nat}{pm:Nat->Nat×Nat}(hn:oV n Ts pm):oV n Us pm:=fun q U hU=>by
 obtain⟨T,hT⟩:=hu.aaD h hU
 exact hn q T hT
theorem Kept.maps {w0 w w':World}{Ts:Tabs}{pm:Nat->Nat×Nat}(h:Kept none' w0 w)(hn:oV w0.heap.size Ts pm)(hk:Kept (lQ Ts pm) w w'):Kept none' w0 w':=
 h.new hk (fun i hi hs=>by
  obtain⟨q,T,hT,rfl⟩:=hs
  have:=hn q T hT
  omega)
theorem dP.jr {w:World}{v:Value}{L:List JN}(h:dP w v L):JR L:=by
 obtain⟨cs,h1,h2,h3⟩:=h
 intro d hd env he
 obtain⟨i,hi⟩:=List.getElem?_of_mem hd
 obtain⟨pi,ci,p,c,_,h6,_⟩:=h3 i d hi
 exact AA h6 he
def adU (w:World)(e:Ending)(w':World):Prop:= ∃b:Bool,e= .returned (.bool b)/\Kept none' w w'
theorem BX (j:Jb)(a:Array Value)(w:World)(h:bZ w a j):Calls Tryz.prog 39 #[.agg a] w (adU w):=by
 obtain⟨v,rfl,hn,hp⟩:=h
 obtain⟨na,cap,rfl,h1,h2,h3⟩:=hn.at
 unfold maxLen at h2
 have kA:Kept none' w (w.alloc (.cells #[.int .i64 j.par, .slice na j.nodes.length cap] 24)):=(Kept.refl _ _).alloc _
 have b1:(w.alloc (.cells #[.int .i64 j.par, .slice na j.nodes.length cap] 24)).cell? ⟨w.heap.size,1,none⟩=some (.slice na j.nodes.length cap):=by simp
 have H3:=Lib.hid h3
 have KA:=Lib.hid kA
 clear h3 hn hp kA
 by_cases hl:40<j.nodes.length
 ·go_enter Tryz.func39,Tryz.ntmps39
  go_wp2_with fail
  go_ret
  exact⟨true,rfl,KA.out⟩
 ·go_enter Tryz.func39,Tryz.ntmps39
  go_wp2_with fail
  obtain⟨W0,hW0⟩: ∃W0,w.alloc (.cells #[.int .i64 j.par, .slice na j.nodes.length cap] 24)=W0:=⟨_,rfl⟩
  rw[hW0]at KA b1⊢
  have B1:=Lib.hid b1
  clear hW0 b1
  go_loopg [3,13] j.nodes.length (fun g vn vi wr=> ∃(k:Nat)(n:Int),k<=j.nodes.length/\vi= .int .i64 (k:Int)/\vn= .int .i64 n/\j.nodes.length-k<=g/\0<=n/\n<=3000/\Kept none' w wr)
  case atStart=>exact⟨0,0,by omega,rfl,rfl,by omega,by omega,by omega,KA.out⟩
  case round=>
   obtain⟨k,n,hkl,rfl,rfl,hg,hn1,hn2,hkp⟩:=hrel
   by_cases hlt:k<j.nodes.length
   ·obtain⟨d,hd⟩: ∃d,j.nodes[k]?=some d:=⟨_,List.getElem?_eq_getElem hlt⟩
    obtain⟨b,off,pi,ci,p,cap',rfl,hc,hj⟩:=H3.out k d hd
    obtain⟨c0,c1,c2,c3,c4,c5,c6⟩:=hc.kept hkp (fun h=>h)
    have kA:Kept none' wr (wr.alloc (.cells (bF d pi ci p cap') 97)):=(Kept.refl _ _).alloc _
    have hx:aC (wr.alloc (.cells (bF d pi ci p cap') 97)) #[.int .u8 d.x.op, .int .i64 d.x.n, .slice p d.x.args.length cap'] d.x:=by
     have hx0:aC w #[.int .u8 d.x.op, .int .i64 d.x.n, .slice p d.x.args.length cap'] d.x:=by
      obtain⟨_,_,_,_,e,hx,_⟩:=hj
      simp only[Array.mk.injEq,List.cons.injEq,Value.slice.injEq,and_true,true_and]at e
      obtain⟨-,e1,e2⟩:=e
      rw[e1,e2]
      exact hx
     exact aC.pure (hkp.trans kA) hx0
    have cz:=size_any (SizeOf.sizeOf d.x) d.x _ _ (Nat.le_refl _) hx
    have nB:(wr.alloc (.cells (bF d pi ci p cap') 97)).heap[wr.heap.size]?=some (.cells (bF d pi ci p cap') 97 (0,0)):=heap_alloc_new _ _
    have HC:=Lib.hid (And.intro hg (And.intro hkp (And.intro kA (And.intro nB hj))))
    clear hg hkp kA nB hj hc hx hd
    go_wp2_with fail
    (with_reducible refine cz.mono ?_)
    clear cz
    rintro e w2 ⟨z,rfl,hz1,hz2,k2⟩
    have nB2:=k2.heap HC.out.2.2.2.1 (fun h=>h)
    have z0:w2.cell? ⟨wr.heap.size,0,none⟩=some (.string d.uid):=cells_at nB2 rfl
    have z2:w2.cell? ⟨wr.heap.size,2,none⟩=some (.slice pi d.ins.length ci):=cells_at nB2 rfl
    have K2:=Lib.hid (HC.out.2.1.trans (HC.out.2.2.1.trans k2))
    have hu:d.uid.size<=2^63-1:=by have:=HC.out.2.2.2.2;obtain⟨_,_,_,_,_,_,_,_,_,_,_,h⟩:=this;unfold maxLen at h;exact h
    clear k2 nB2
    by_cases q1:40<d.ins.length
    ·go_wp2_with fail
     go_ret
     exact⟨true,rfl,K2.out⟩
    ·by_cases q2:1000<d.uid.size
     ·go_wp2_with fail
      go_ret
      exact⟨true,rfl,K2.out⟩
     ·by_cases q3:3000<n+z
      ·go_wp2_with fail
       go_ret
       exact⟨true,rfl,K2.out⟩
      ·go_wp2_with fail
       go_roundg (j.nodes.length-(k+1))
       case rel=>exact⟨k+1,n+z,by omega,by go_num,rfl,Nat.le_refl _,by omega,by omega,K2.out⟩
       case measure=>have:=HC.out.1;omega
   ·have HK:=Lib.hid hkp
    clear hkp
    go_wp2_with fail
    go_ret
    exact⟨false,rfl,HK.out⟩
end
section
open Go Go.RowKit
attribute [local irreducible] bU
theorem Tryz.info33: ∃i z,Tryz.prog.info? 33=some i/\i.zero=some z/\i.size=2/\i.bytes=32/\z.cells.size=2:=by
 have h:(Tryz.prog.info? 33).map (fun i=>(i.zero,i.size,i.bytes))=some (some (.agg #[.string ByteArray.empty, .string ByteArray.empty]),2,32):=by kernel_rfl
 obtain⟨i,hi,h⟩:=Option.map_eq_some_iff.1 h
 simp only[Prod.mk.injEq]at h
 exact⟨i,_,hi,h.1,h.2.1,h.2.2,by rfl⟩
def vP (nodes:List JN)(Ts:Tabs)(k:Nat):List St:=aS (nodes.take k) (Ts.take k)
theorem aaC {nodes:List JN}{Ts:Tabs}(h:Ts.length=nodes.length):vP nodes Ts nodes.length=aS nodes Ts:=by
 unfold vP
 rw[List.take_of_length_le (Nat.le_refl _),List.take_of_length_le (by omega)]
theorem XI {nodes:List JN}{Ts:Tabs}{k:Nat}{d:JN}{t:Option Tab}(hd:nodes[k]?=some d)(ht:Ts[k]?=some t):
 vP nodes Ts (k+1)=vP nodes Ts k++(uq (d,t)).toList:=by
 have h1:k<nodes.length:=(List.getElem?_eq_some_iff.1 hd).1
 have h2:k<Ts.length:=(List.getElem?_eq_some_iff.1 ht).1
 unfold vP aS
 rw[List.take_add_one,List.take_add_one,hd,ht,Option.toList_some,Option.toList_some,List.zip_append (by rw[List.length_take,List.length_take];omega),List.filterMap_append]
 try rfl
theorem abh (nodes:List JN)(Ts:Tabs)(k:Nat):(vP nodes Ts k).length<=k:=by
 unfold vP aS
 refine Nat.le_trans (List.length_filterMap_le _ _) ?_
 rw[List.length_zip,List.length_take,List.length_take];omega
theorem UC (l:List St)(s:St):gX (l++[s])=gX l++[.string s.1, .string s.2]:=by
 unfold gX;rw[List.flatMap_append];rfl
theorem PK {w:World}{base n:Nat}{va:Value}{l:List St}(h:w.ownsRow base 33 2 va n (gX l))(s:St)(hb:base<=w.heap.size)(hn:n<=100000):
 ∃dS w',(Builtin.append_ #[25,25] 25 #[va, .slice (some ⟨w.heap.size,0,none⟩) 1 1]).run Tryz.prog (w.alloc (.cells #[.string s.1, .string s.2] 33))= .ok dS w'/\w'.ownsRow base 33 2 dS (n+1) (gX (l++[s]))/\
  Kept (fun q=>va.ownBlock=some q) w w'/\ ∃a c,dS= .slice a (n+1) c:=by
 obtain⟨i,z,hi,hz,hs,hby,hzs⟩:=Tryz.info33
 have kA:Kept none' w (w.alloc (.cells #[.string s.1, .string s.2] 33)):=(Kept.refl _ _).alloc _
 have hr:=Reads.lit w [.string s.1, .string s.2] 33 2 1 rfl (by unfold maxLen;omega)
 have hl:(gX l).length=n*2:=h.1
 obtain⟨v',n',w',b1,b2,b3,b4,_⟩:=aW (P:=Tryz.prog) base 25 25 33 i z 2 32 Tryz.underlying25 hi hz hs hby hzs (by omega) (kA.owns h (fun _ _ h=>h)) hr (by intro y hy;simp at hy;rcases hy with rfl|rfl<;>rfl)
  (by simp;omega) (by simp;unfold maxLen;omega) (by have:=kA.size;omega)
 have hn':n'=n+1:=by simp at b3;omega
 subst hn'
 refine⟨v',w',b1,by rw[UC];exact b2,kA.pure.trans (Kept.grown b4 (fun k hk _=>hk)),?_⟩
 obtain⟨a,c,e⟩:=ay b2
 exact⟨a,c,e⟩
theorem Za {v:Value}{q:Nat}(h:Value.blk v=some q):v.ownBlock=some q:=by
 unfold Value.blk at h
 split at h
 ·split at h
  ·cases h
  ·exact h
 ·cases h
def Qv (w:World)(l:List St)(e:Ending)(w':World):Prop:= ∃v,e= .returned v/\Reads w' 2 v (gX l)/\(∀q,Value.blk v=some q->w.heap.size<=q)/\Kept none' w w'
theorem Y6 (v:Value)(l:List St)(w:World)(h:Reads w 2 v (gX l)):Calls Tryz.prog 45 #[v] w fun e w'=> ∃v',e= .returned v'/\Reads w' 2 v' (gX l)/\(∀q,Value.blk v'=some q->Value.blk v=some q)/\w'=w:=by
 obtain⟨a,cap,rfl,h1,h2,h3⟩:=h.yI
 have HR:=Lib.hid h
 clear h h3
 unfold maxLen at h2
 go_enter Tryz.func45,Tryz.ntmps45
 go_wp2_with fail
 go_ret
 refine⟨.slice a l.length l.length,rfl,?_,fun q hq=>by cases a<;>exact hq,rfl⟩
 obtain⟨a',n,cap',e,h1,h2,h3,h4⟩:=HR.out
 injection e with e1 e2 e3
 subst e1 e2 e3
 exact⟨a,_,_,rfl,Nat.le_refl _,Nat.le_trans h1 h2,h3,h4⟩
theorem yH (j:Jb)(b m:Nat)(Ts:Tabs)(pm:Nat->Nat×Nat)(w:World)(h:rV w b m j Ts pm)(hlen:Ts.length=j.nodes.length)(hsm:j.nodes.length<=1000):
 Calls Tryz.prog 21 #[.pointer (some ⟨b,0,none⟩)] w (Qv w (aS j.nodes Ts)):=by
 obtain⟨⟨nv,hob,hn⟩,hpar,htb⟩:=h
 obtain⟨na,cap,rfl,h1,h2,h3⟩:=hn.at
 have x1:w.cell? ⟨b,1,none⟩=some (.slice na j.nodes.length cap):=cells_at hob rfl
 have x2:w.cell? ⟨b,2,none⟩=some (.map (some m)):=cells_at hob rfl
 have hbl:b<w.heap.size:=(Array.getElem?_eq_some_iff.1 hob).1
 have H:=Lib.hid (And.intro htb (And.intro h3 hlen))
 clear hob hn hpar htb h3 hlen
 unfold maxLen at h2
 go_enter Tryz.func21,Tryz.ntmps21
 go_wp2
 go_loopg [3,16] j.nodes.length (fun g vo vi wr=> ∃k:Nat,k<=j.nodes.length/\vi= .int .i64 (k:Int)/\j.nodes.length-k<=g/\wr.ownsRow w.heap.size 33 2 vo (vP j.nodes Ts k).length (gX (vP j.nodes Ts k))/\Kept none' w wr)
 case atStart=>exact⟨0,by omega,rfl,by omega,World.ownsRow_nil _ _ _ _,Kept.refl _ _⟩
 case round=>
  obtain⟨k,hkn,rfl,hg,hown,hkp⟩:=hrel
  obtain⟨wo,rfl⟩: ∃wo:World,wo=wr:=⟨_,rfl⟩
  obtain⟨va,vc,rfl⟩:=ay hown
  have x1:=hkp.cell (p:=⟨b,1,none⟩) (fun h=>h) x1
  have x2:=hkp.cell (p:=⟨b,2,none⟩) (fun h=>h) x2
  have hle:=abh j.nodes Ts k
  by_cases hlt:k<j.nodes.length
  ·obtain⟨d,hd⟩: ∃d,j.nodes[k]?=some d:=⟨_,List.getElem?_eq_getElem hlt⟩
   obtain⟨t,ht⟩: ∃t,Ts[k]?=some t:=⟨_,List.getElem?_eq_getElem (by have:=H.out.2.2;omega)⟩
   obtain⟨nb,off,pi,ci,p,cap',rfl,hc,hjn⟩:=H.out.2.1 k d hd
   obtain⟨c0,c1,c2,c3,c4,c5,c6⟩:=hc.kept hkp (fun h=>h)
   have kA:Kept none' wo (wo.alloc (.cells (bF d pi ci p cap') 97)):=(Kept.refl _ _).alloc _
   have hlk:=(H.out.1.pure (hkp.trans kA)).lookup k (by have:=H.out.2.2;omega)
   rw[List.getD_eq_getElem?_getD,ht,Option.getD_some]at hlk
   have x1a:=kA.cell (p:=⟨b,1,none⟩) (fun h=>h) x1
   have x2a:=kA.cell (p:=⟨b,2,none⟩) (fun h=>h) x2
   have nB:(wo.alloc (.cells (bF d pi ci p cap') 97)).heap[wo.heap.size]?=some (.cells (bF d pi ci p cap') 97 (0,0)):=heap_alloc_new _ _
   have n0:(wo.alloc (.cells (bF d pi ci p cap') 97)).cell? ⟨wo.heap.size,0,none⟩=some (.string d.uid):=cells_at nB rfl
   have hsn:=XI hd ht
   have G:=Lib.hid (And.intro hg (And.intro hown (And.intro hkp (And.intro kA (And.intro n0 hsn)))))
   have hbw:b<wo.heap.size:=Nat.lt_of_lt_of_le hbl hkp.size
   clear hg hown hkp kA n0 nB hsn hc hjn hd
   cases t with
   |none=>
    simp only[jP,Option.map_none,Option.getD_none,Option.isSome_none]at hlk
    clear ht
    go_wp2_with fail
    go_roundg (j.nodes.length-(k+1))
    case rel=>exact⟨k+1,by omega,by go_num,Nat.le_refl _,by rw[G.out.2.2.2.2.2,show(uq (d,none)).toList=[]from rfl,List.append_nil];exact G.out.2.2.2.1.owns G.out.2.1 (fun _ _ h=>h),G.out.2.2.1.trans G.out.2.2.2.1⟩
    case measure=>have:=G.out.1;omega
   |some T=>
    simp only[jP,Option.map_some,Option.getD_some,Option.isSome_some]at hlk
    have hT:=(H.out.1.tab k T ht).1
    have HT:=Lib.hid (hT.pure (G.out.2.2.1.trans G.out.2.2.2.1))
    clear ht hT
    go_wp2_with fail
    obtain⟨WA,Ar⟩: ∃WA,(wo.alloc (.cells (bF d pi ci p cap') 97))=WA:=⟨_,rfl⟩
    rw[Ar]at G HT
    have Aq:(wo.alloc (.cells #[.string d.uid, .int .u8 d.kind, .slice pi d.ins.length ci, .int .u8 d.x.op, .int .i64 d.x.n, .slice p d.x.args.length cap', .int .i64 d.n] 97))=WA:=Ar
    try rw[Aq]
    have n0:=G.out.2.2.2.2.1
    have hno: ¬(Value.slice va (vP j.nodes Ts k).length vc).ownBlock=some wo.heap.size:=fun h=>by have:=(G.out.2.1.lt _ h).2;omega
    clear Ar Aq hlk x1a x2a c0 c1 c2 c3 c4 c5 c6 x1 x2
    refine ak [0,1,2,3,4,5,6,7,8] (fun W=>Kept (fun q=>(Value.slice va (vP j.nodes Ts k).length vc).ownBlock=some q) WA W) (by kernel_rfl) (by kernel_rfl) rfl (Kept.refl _ _).drew ?_
    simp only[List.map_cons,List.map_nil,List.getElem?_toArray,List.getElem?_cons_zero,List.getElem?_cons_succ,Option.getD_some]
    iterate 4 (apply aj rfl rfl;(intro W hW;have z0:=hW.cell (p:=⟨wo.heap.size,0,none⟩) hno n0;go_simp;rfl);go_frame)
    apply aA rfl rfl
    intro K hK
    go_wp2_with fail
    (with_reducible refine(WT zy _ _ T _ (HT.out.pure (Kept.refl none' WA).drew)).mono ?_)
    rintro e w5 ⟨rfl,k5⟩
    go_wp2_with fail
    refine hK _ _ (fun _=>((Kept.refl none' WA).drew.trans k5).pure) ?_
    clear hK
    have hown5:=((Kept.refl none' WA).drew.trans k5).owns (G.out.2.2.2.1.owns G.out.2.1 (fun _ _ h=>h)) (fun _ _ h=>h)
    have ks5:=G.out.2.2.1.trans (G.out.2.2.2.1.trans ((Kept.refl none' WA).drew.trans k5))
    obtain⟨v6,w6,g1,g2,g3,a6,c6,rfl⟩:=PK hown5 (d.uid,strOf (bf (pz T))) ks5.size (by omega)
    apply aj rfl rfl
    ·intro W hW
     go_simp
     rfl
    go_frame
    apply aA rfl rfl
    intro K2 hK2
    go_wp2_with fail
    refine hK2 _ _ (fun _=>(((Kept.refl none' WA).drew.trans k5).alloc _).pure) ?_
    clear hK2
    have Z:=Lib.hid (And.intro (show w6.ownsRow w.heap.size 33 2 (.slice a6 ((vP j.nodes Ts k).length+1) c6) (vP j.nodes Ts (k+1)).length (gX (vP j.nodes Ts (k+1))) by
     rw[G.out.2.2.2.2.2]
     simpa[uq]using g2) (ks5.new g3 (fun i hi hs=>by have:=(hown5.lt i hs).1;omega)))
    apply aA rfl rfl
    intro K3 hK3
    refine xI (.tmp 31) (.tmp 37) 25 rfl _ _ _ rfl rfl g1 ?_
    refine hK3 _ _ (fun _=>((Kept.refl none' WA).drew.trans k5).pure.trans g3) ?_
    clear hK3
    apply aj rfl rfl
    ·intro W hW
     go_simp
     rfl
    go_frame
    refine aG (fun _=>((Kept.refl none' WA).drew.trans k5).pure.trans g3) ?_
    clear g1 g2 g3 hown5 k5 ks5 n0
    go_wp2_with fail
    go_roundg (j.nodes.length-(k+1))
    case rel=>exact⟨k+1,by omega,by go_num,Nat.le_refl _,Z.out⟩
    case measure=>have:=G.out.1;omega
  ·have e1:k=j.nodes.length:=by omega
   subst e1
   have cl:=Y6 _ _ wo (Reads.aZ hown)
   have G:=Lib.hid (And.intro hown hkp)
   clear hown hkp hg hlt x1 x2
   go_wp2_with fail
   (with_reducible refine cl.mono ?_)
   clear cl
   rintro e w2 ⟨v',rfl,hr,hb2,rfl⟩
   have F:=Lib.hid (show Qv w (aS j.nodes Ts) (.returned v') w2 from⟨v',rfl,by rw[<-aaC H.out.2.2];exact hr,fun q hq=>(G.out.1.lt q (Za (hb2 q hq))).1,G.out.2⟩)
   clear hr hb2
   go_wp2_with fail
   go_ret
   exact F.out
end
section
open Go Go.RowKit
def dO (nodes:List JN):Tabs->List (Int×Int)->List Rec×Tabs
 |Ts,[]=>([],Ts)
 |Ts,y::l=>((fU nodes Ts y.1 y.2).1++(dO nodes (fU nodes Ts y.1 y.2).2 l).1,(dO nodes (fU nodes Ts y.1 y.2).2 l).2)
def partOf (key:Int):Nat:=if grp key<4 then 0 else 1
abbrev dV:=Int×Int
def jy (p:Nat)(L:List Rec):List dV:=(L.filter fun r=>partOf r.key==p).map fun r=>(r.key,r.val)
def vG {α:Type}(x:Rd α):Prop:= ∀f,x= .err f->f≠0
theorem vG.bind {α β:Type}{x:Rd α}{g:α->List UInt8->Rd β}(h:vG x)(k: ∀a r,vG (g a r)):vG (x.bind g):=by
 intro f e
 cases x with
 |err d=>exact h f (by simp only[Rd.bind]at e;injection e with e;rw[e])
 |ok a r=>exact k a r f e
theorem vG.ok {α:Type}(a:α)(r:List UInt8):vG (Rd.ok a r):=fun _ e=>by cases e
theorem zX (lo hi:Int)(l:List UInt8):vG (num lo hi l):=fun _ e=>PV e
theorem PU: ∀(k:Nat)(l:List UInt8),vG (nums k l)
 |0,_=> .ok _ _
 |k+1,l=>(zX _ _ l).bind fun _ r=>(PU k r).bind fun _ _=> .ok _ _
theorem abl (l:List UInt8):vG (row l):=(zX _ _ l).bind fun _ r=>(zX _ _ r).bind fun _ r=>(zX _ _ r).bind fun _ r=>(PU _ r).bind fun _ _=> .ok _ _
theorem LC: ∀(k:Nat)(T:Tab)(l:List UInt8),vG (iq k T l)
 |0,_,_=> .ok _ _
 |k+1,_,l=>(abl l).bind fun p r=>by
  split
  ·exact LC k _ r
  ·intro f e;injection e with e;omega
theorem Xz (l:List UInt8):vG (lG l):=(zX _ _ l).bind fun _ r=>(LC _ _ r).bind fun _ _=>by
 split
 ·exact .ok _ _
 ·intro f e;injection e with e;omega
theorem Gw {nodes:List JN}{f:Int}: ∀{l:List St}{Ts:Tabs},eG nodes l Ts= .error f->f≠0
 |[],Ts,h=>by cases h
 |s::l,Ts,h=>by
  unfold eG at h
  split at h
  ·injection h with h;omega
  ·split at h
   ·rename_i g hg
    injection h with h
    subst h
    exact Xz _ _ hg
   ·split at h
    ·exact Gw h
    ·injection h with h;omega
theorem Ye {j:Jb}{l:List St}{e:Int}(h:bJ j l= .error e):e≠0:=by
 unfold bJ at h
 split at h
 ·cases e':eG j.nodes l (dh j.nodes)with
  |ok Ts=>rw[e']at h;cases h
  |error f=>rw[e']at h;injection h with h;subst h;exact Gw e'
 ·injection h with h;omega
theorem aY.fH {S:Nat->Prop}{w w':World}{m:Nat}{Ts:Tabs}{pm:Nat->Nat×Nat}(h:aY w m Ts pm)(hk:Kept S w w')(hS: ∀k,S k-> ∀c E f,w.heap[k]?≠some (.cells c E f))(hm: ¬S m)
 (hd: ∀(i:Nat)(T:Tab),Ts[i]?=some (some T)-> ¬S (pm i).2):aY w' m Ts pm:=by
 obtain⟨⟨l,h1,h2,h3⟩,h4,h5⟩:=h
 exact⟨⟨l,h1.kept hk hm,h2,h3⟩,fun i T hT=>⟨(h4 i T hT).1.kept hk (fun q hq _ _=>hS q hq) (hd i T hT),(h4 i T hT).2⟩,h5⟩
theorem rV.fH {S:Nat->Prop}{w w':World}{b m:Nat}{j:Jb}{Ts:Tabs}{pm:Nat->Nat×Nat}(h:rV w b m j Ts pm)(hk:Kept S w w')(hS: ∀k,S k-> ∀c E f,w.heap[k]?≠some (.cells c E f))(hm: ¬S m)
 (hd: ∀(i:Nat)(T:Tab),Ts[i]?=some (some T)-> ¬S (pm i).2):rV w' b m j Ts pm:=by
 obtain⟨⟨v,h1,h2⟩,h3,h4⟩:=h
 exact⟨⟨v,hk.heap h1 (fun hs=>hS b hs _ _ _ h1),h2.kept hk hS⟩,h3,h4.fH hk hS hm hd⟩
theorem bZ.aas {w:World}{v:Value}{par par':Int}{j:Jb}(h:bZ w #[.int .i64 par,v] j)(hp:aI par'):bZ w #[.int .i64 par',v] {j with par:=par'}:=by
 obtain⟨v',e,hn,_⟩:=h
 injection e with e
 injection e with _ e
 injection e with e
 subst e
 exact⟨_,rfl,hn,hp⟩
theorem xg {j:Jb}(h:bK j=true):2<=j.nodes.length/\j.nodes.length<=12:=by
 have:=(kR h).1
 unfold fZ at this
 simp only[Bool.or_eq_false_iff,decide_eq_false_iff_not]at this
 omega
end
end Go.Proofs.YtopeleenlcnkkaaGreatDoor
