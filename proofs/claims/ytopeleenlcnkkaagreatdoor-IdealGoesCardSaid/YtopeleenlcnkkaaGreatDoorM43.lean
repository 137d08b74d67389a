/- ideal.States: what the nodes keep. -/
import Derived.Test.YtopeleenlcnkkaaGreatDoorM35
import Derived.Test.YtopeleenlcnkkaaGreatDoorM42
set_option linter.unusedVariables false
set_option linter.unusedSimpArgs false
set_option maxHeartbeats 4000000
set_option maxRecDepth 100000
namespace Go.Proofs.YtopeleenlcnkkaaGreatDoor
section
open Go Go.RowKit
attribute [local irreducible] bU
theorem Tryz.info33: ∃i z,Tryz.prog.info? 33=some i/\i.zero=some z/\i.size=2/\i.bytes=32/\z.cells.size=2:=by
 have h:(Tryz.prog.info? 33).map (fun i=>(i.zero,i.size,i.bytes))=some (some (.agg #[.string ByteArray.empty, .string ByteArray.empty]),2,32):=by kernel_rfl
 obtain⟨i,hi,h⟩:=Option.map_eq_some_iff.1 h
 simp only[Prod.mk.injEq]at h
 exact⟨i,_,hi,h.1,h.2.1,h.2.2,by rfl⟩
def vV (nodes:List JN)(Ts:Tabs)(k:Nat):List St:=aB (nodes.take k) (Ts.take k)
theorem Zr {nodes:List JN}{Ts:Tabs}(h:Ts.length=nodes.length):vV nodes Ts nodes.length=aB nodes Ts:=by
 unfold vV
 rw[List.take_of_length_le (Nat.le_refl _),List.take_of_length_le (by omega)]
theorem Wq {nodes:List JN}{Ts:Tabs}{k:Nat}{d:JN}{t:Option Tab}(hd:nodes[k]?=some d)(ht:Ts[k]?=some t):
 vV nodes Ts (k+1)=vV nodes Ts k++(uG (d,t)).toList:=by
 have h1:k<nodes.length:=(List.getElem?_eq_some_iff.1 hd).1
 have h2:k<Ts.length:=(List.getElem?_eq_some_iff.1 ht).1
 unfold vV aB
 rw[List.take_add_one,List.take_add_one,hd,ht,Option.toList_some,Option.toList_some,List.zip_append (by rw[List.length_take,List.length_take];omega),List.filterMap_append]
 try rfl
theorem aag (nodes:List JN)(Ts:Tabs)(k:Nat):(vV nodes Ts k).length<=k:=by
 unfold vV aB
 refine Nat.le_trans (List.length_filterMap_le _ _) ?_
 rw[List.length_zip,List.length_take,List.length_take];omega
theorem Tn (l:List St)(s:St):fU (l++[s])=fU l++[.string s.1, .string s.2]:=by
 unfold fU;rw[List.flatMap_append];rfl
theorem Ov {w:World}{base n:Nat}{va:Value}{l:List St}(h:w.ownsRow base 33 2 va n (fU l))(s:St)(hb:base<=w.heap.size)(hn:n<=100000):
 ∃fF w',(Builtin.append_ #[25,25] 25 #[va, .slice (some ⟨w.heap.size,0,none⟩) 1 1]).run Tryz.prog (w.alloc (.cells #[.string s.1, .string s.2] 33))= .ok fF w'/\w'.ownsRow base 33 2 fF (n+1) (fU (l++[s]))/\
  Kept (fun q=>va.ownBlock=some q) w w'/\ ∃a c,fF= .slice a (n+1) c:=by
 obtain⟨i,z,hi,hz,hs,hby,hzs⟩:=Tryz.info33
 have kA:Kept none' w (w.alloc (.cells #[.string s.1, .string s.2] 33)):=(Kept.refl _ _).alloc _
 have hr:=Reads.lit w [.string s.1, .string s.2] 33 2 1 rfl (by unfold maxLen;omega)
 have hl:(fU l).length=n*2:=h.1
 obtain⟨v',n',w',b1,b2,b3,b4,_⟩:=bM (P:=Tryz.prog) base 25 25 33 i z 2 32 Tryz.underlying25 hi hz hs hby hzs (by omega) (kA.owns h (fun _ _ h=>h)) hr (by intro y hy;simp at hy;rcases hy with rfl|rfl<;>rfl)
  (by simp;omega) (by simp;unfold maxLen;omega) (by have:=kA.size;omega)
 have hn':n'=n+1:=by simp at b3;omega
 subst hn'
 refine⟨v',w',b1,by rw[Tn];exact b2,kA.pure.trans (Kept.grown b4 (fun k hk _=>hk)),?_⟩
 obtain⟨a,c,e⟩:=ay b2
 exact⟨a,c,e⟩
theorem Ye {v:Value}{q:Nat}(h:Value.blk v=some q):v.ownBlock=some q:=by
 unfold Value.blk at h
 split at h
 ·split at h
  ·cases h
  ·exact h
 ·cases h
def O9 (w:World)(l:List St)(e:Ending)(w':World):Prop:= ∃v,e= .returned v/\Reads w' 2 v (fU l)/\(∀q,Value.blk v=some q->w.heap.size<=q)/\Kept none' w w'
theorem Yc (v:Value)(l:List St)(w:World)(h:Reads w 2 v (fU l)):Calls Tryz.prog 45 #[v] w fun e w'=> ∃v',e= .returned v'/\Reads w' 2 v' (fU l)/\(∀q,Value.blk v'=some q->Value.blk v=some q)/\w'=w:=by
 obtain⟨a,cap,rfl,h1,h2,h3⟩:=h.jM
 have HR:=Lib.hid h
 clear h h3
 unfold maxLen at h2
 go_enter Tryz.func45,Tryz.ntmps45
 go_wp2_with fail
 go_ret
 refine⟨.slice a l.length l.length,rfl,?_,fun q hq=>by cases a<;>exact hq,rfl⟩
 obtain⟨a',n,cap',e,h1,h2,h3,h4⟩:=HR.out
 injection e with e1 e2 e3
 subst e1 e2 e3
 exact⟨a,_,_,rfl,Nat.le_refl _,Nat.le_trans h1 h2,h3,h4⟩
theorem iE (j:Jb)(b m:Nat)(Ts:Tabs)(pm:Nat->Nat×Nat)(w:World)(h:bK w b m j Ts pm)(hlen:Ts.length=j.nodes.length)(hsm:j.nodes.length<=1000):
 Calls Tryz.prog 21 #[.pointer (some ⟨b,0,none⟩)] w (O9 w (aB j.nodes Ts)):=by
 obtain⟨⟨nv,hob,hn⟩,hpar,htb⟩:=h
 obtain⟨na,cap,rfl,h1,h2,h3⟩:=hn.at
 have x1:w.cell? ⟨b,1,none⟩=some (.slice na j.nodes.length cap):=cells_at hob rfl
 have x2:w.cell? ⟨b,2,none⟩=some (.map (some m)):=cells_at hob rfl
 have hbl:b<w.heap.size:=(Array.getElem?_eq_some_iff.1 hob).1
 have H:=Lib.hid (And.intro htb (And.intro h3 hlen))
 clear hob hn hpar htb h3 hlen
 unfold maxLen at h2
 go_enter Tryz.func21,Tryz.ntmps21
 go_wp2
 go_loopg [3,16] j.nodes.length (fun g vo vi wr=> ∃k:Nat,k<=j.nodes.length/\vi= .int .i64 (k:Int)/\j.nodes.length-k<=g/\wr.ownsRow w.heap.size 33 2 vo (vV j.nodes Ts k).length (fU (vV j.nodes Ts k))/\Kept none' w wr)
 case atStart=>exact⟨0,by omega,rfl,by omega,World.ownsRow_nil _ _ _ _,Kept.refl _ _⟩
 case round=>
  obtain⟨k,hkn,rfl,hg,hown,hkp⟩:=hrel
  obtain⟨wo,rfl⟩: ∃wo:World,wo=wr:=⟨_,rfl⟩
  obtain⟨va,vc,rfl⟩:=ay hown
  have x1:=hkp.cell (p:=⟨b,1,none⟩) (fun h=>h) x1
  have x2:=hkp.cell (p:=⟨b,2,none⟩) (fun h=>h) x2
  have hle:=aag j.nodes Ts k
  by_cases hlt:k<j.nodes.length
  ·obtain⟨d,hd⟩: ∃d,j.nodes[k]?=some d:=⟨_,List.getElem?_eq_getElem hlt⟩
   obtain⟨t,ht⟩: ∃t,Ts[k]?=some t:=⟨_,List.getElem?_eq_getElem (by have:=H.out.2.2;omega)⟩
   obtain⟨nb,off,pi,ci,p,cap',rfl,hc,hjn⟩:=H.out.2.1 k d hd
   obtain⟨c0,c1,c2,c3,c4,c5,c6⟩:=hc.kept hkp (fun h=>h)
   have kA:Kept none' wo (wo.alloc (.cells (bF d pi ci p cap') 97)):=(Kept.refl _ _).alloc _
   have hlk:=(H.out.1.pure (hkp.trans kA)).lookup k (by have:=H.out.2.2;omega)
   rw[List.getD_eq_getElem?_getD,ht,Option.getD_some]at hlk
   have x1a:=kA.cell (p:=⟨b,1,none⟩) (fun h=>h) x1
   have x2a:=kA.cell (p:=⟨b,2,none⟩) (fun h=>h) x2
   have nB:(wo.alloc (.cells (bF d pi ci p cap') 97)).heap[wo.heap.size]?=some (.cells (bF d pi ci p cap') 97 (0,0)):=heap_alloc_new _ _
   have n0:(wo.alloc (.cells (bF d pi ci p cap') 97)).cell? ⟨wo.heap.size,0,none⟩=some (.string d.uid):=cells_at nB rfl
   have hsn:=Wq hd ht
   have G:=Lib.hid (And.intro hg (And.intro hown (And.intro hkp (And.intro kA (And.intro n0 hsn)))))
   have hbw:b<wo.heap.size:=Nat.lt_of_lt_of_le hbl hkp.size
   clear hg hown hkp kA n0 nB hsn hc hjn hd
   cases t with
   |none=>
    simp only[iG,Option.map_none,Option.getD_none,Option.isSome_none]at hlk
    clear ht
    go_wp2_with fail
    go_roundg (j.nodes.length-(k+1))
    case rel=>exact⟨k+1,by omega,by go_num,Nat.le_refl _,by rw[G.out.2.2.2.2.2,show(uG (d,none)).toList=[]from rfl,List.append_nil];exact G.out.2.2.2.1.owns G.out.2.1 (fun _ _ h=>h),G.out.2.2.1.trans G.out.2.2.2.1⟩
    case measure=>have:=G.out.1;omega
   |some T=>
    simp only[iG,Option.map_some,Option.getD_some,Option.isSome_some]at hlk
    have hT:=(H.out.1.tab k T ht).1
    have HT:=Lib.hid (hT.pure (G.out.2.2.1.trans G.out.2.2.2.1))
    clear ht hT
    go_wp2_with fail
    obtain⟨WA,ug⟩: ∃WA,(wo.alloc (.cells (bF d pi ci p cap') 97))=WA:=⟨_,rfl⟩
    rw[ug]at G HT
    have zQ:(wo.alloc (.cells #[.string d.uid, .int .u8 d.kind, .slice pi d.ins.length ci, .int .u8 d.x.op, .int .i64 d.x.n, .slice p d.x.args.length cap', .int .i64 d.n] 97))=WA:=ug
    try rw[zQ]
    have n0:=G.out.2.2.2.2.1
    have hno: ¬(Value.slice va (vV j.nodes Ts k).length vc).ownBlock=some wo.heap.size:=fun h=>by have:=(G.out.2.1.lt _ h).2;omega
    clear ug zQ hlk x1a x2a c0 c1 c2 c3 c4 c5 c6 x1 x2
    refine ak [0,1,2,3,4,5,6,7,8] (fun W=>Kept (fun q=>(Value.slice va (vV j.nodes Ts k).length vc).ownBlock=some q) WA W) (by kernel_rfl) (by kernel_rfl) rfl (Kept.refl _ _).drew ?_
    simp only[List.map_cons,List.map_nil,List.getElem?_toArray,List.getElem?_cons_zero,List.getElem?_cons_succ,Option.getD_some]
    iterate 4 (apply aj rfl rfl;(intro W hW;have z0:=hW.cell (p:=⟨wo.heap.size,0,none⟩) hno n0;go_simp;rfl);go_frame)
    apply aA rfl rfl
    intro K hK
    go_wp2_with fail
    (with_reducible refine(Vq wX _ _ T _ (HT.out.pure (Kept.refl none' WA).drew)).mono ?_)
    rintro e w5 ⟨rfl,k5⟩
    go_wp2_with fail
    refine hK _ _ (fun _=>((Kept.refl none' WA).drew.trans k5).pure) ?_
    clear hK
    have hown5:=((Kept.refl none' WA).drew.trans k5).owns (G.out.2.2.2.1.owns G.out.2.1 (fun _ _ h=>h)) (fun _ _ h=>h)
    have ks5:=G.out.2.2.1.trans (G.out.2.2.2.1.trans ((Kept.refl none' WA).drew.trans k5))
    obtain⟨v6,w6,g1,g2,g3,a6,c6,rfl⟩:=Ov hown5 (d.uid,strOf (aV (lq T))) ks5.size (by omega)
    apply aj rfl rfl
    ·intro W hW
     go_simp
     rfl
    go_frame
    apply aA rfl rfl
    intro K2 hK2
    go_wp2_with fail
    refine hK2 _ _ (fun _=>(((Kept.refl none' WA).drew.trans k5).alloc _).pure) ?_
    clear hK2
    have Z:=Lib.hid (And.intro (show w6.ownsRow w.heap.size 33 2 (.slice a6 ((vV j.nodes Ts k).length+1) c6) (vV j.nodes Ts (k+1)).length (fU (vV j.nodes Ts (k+1))) by
     rw[G.out.2.2.2.2.2]
     simpa[uG]using g2) (ks5.new g3 (fun i hi hs=>by have:=(hown5.lt i hs).1;omega)))
    apply aA rfl rfl
    intro K3 hK3
    refine Ee (.tmp 31) (.tmp 37) 25 rfl _ _ _ rfl rfl g1 ?_
    refine hK3 _ _ (fun _=>((Kept.refl none' WA).drew.trans k5).pure.trans g3) ?_
    clear hK3
    apply aj rfl rfl
    ·intro W hW
     go_simp
     rfl
    go_frame
    refine aI (fun _=>((Kept.refl none' WA).drew.trans k5).pure.trans g3) ?_
    clear g1 g2 g3 hown5 k5 ks5 n0
    go_wp2_with fail
    go_roundg (j.nodes.length-(k+1))
    case rel=>exact⟨k+1,by omega,by go_num,Nat.le_refl _,Z.out⟩
    case measure=>have:=G.out.1;omega
  ·have e1:k=j.nodes.length:=by omega
   subst e1
   have cl:=Yc _ _ wo (Reads.cO hown)
   have G:=Lib.hid (And.intro hown hkp)
   clear hown hkp hg hlt x1 x2
   go_wp2_with fail
   (with_reducible refine cl.mono ?_)
   clear cl
   rintro e w2 ⟨v',rfl,hr,hb2,rfl⟩
   have F:=Lib.hid (show O9 w (aB j.nodes Ts) (.returned v') w2 from⟨v',rfl,by rw[<-Zr H.out.2.2];exact hr,fun q hq=>(G.out.1.lt q (Ye (hb2 q hq))).1,G.out.2⟩)
   clear hr hb2
   go_wp2_with fail
   go_ret
   exact F.out
def Mc (xs ys:List St):Bool:=decide (xs=ys)
theorem PK {xs ys:List St}{k:Nat}{x y:St}(h:xs.take k=ys.take k)(hx:xs[k]?=some x)(hy:ys[k]?=some y)(e:x=y):xs.take (k+1)=ys.take (k+1):=by
 rw[List.take_add_one,List.take_add_one,h,hx,hy,e]
theorem XY {xs ys:List St}(h:xs.length≠ys.length):Mc xs ys=false:=decide_eq_false (fun e=>h (by rw[e]))
theorem ZF {xs ys:List St}{k:Nat}{x y:St}(hx:xs[k]?=some x)(hy:ys[k]?=some y)(h:x≠y):Mc xs ys=false:=
 decide_eq_false (fun e=>by rw[e,hy]at hx;cases hx;exact h rfl)
theorem Vd {xs ys:List St}{k:Nat}(h:xs.take k=ys.take k)(hk:xs.length<=k)(hl:xs.length=ys.length):Mc xs ys=true:=
 decide_eq_true (by rw[List.take_of_length_le hk,List.take_of_length_le (by omega)]at h;exact h)
theorem EL (a b:Value)(xs ys:List St)(w:World)(ha:Reads w 2 a (fU xs))(hb:Reads w 2 b (fU ys)):
 Calls Tryz.prog 18 #[a,b] w (Gives w (.bool (Mc xs ys))):=by
 obtain⟨pa,ca,rfl,a1,a2,a3⟩:=ha.jM
 obtain⟨pb,cb,rfl,b1,b2,b3⟩:=hb.jM
 unfold maxLen at a2 b2
 clear ha hb
 by_cases hl:xs.length=ys.length
 ·have hne:(((xs.length:Nat):Int) !=((ys.length:Nat):Int))=false:=by rw[hl];simp
  have A3:=Lib.hid a3
  have B3:=Lib.hid b3
  have HL:=Lib.hid hl
  clear a3 b3 hl
  go_enter Tryz.func18,Tryz.ntmps18
  go_wp2
  go_loopw [13] (fun i wr=> ∃k:Nat,k<=xs.length/\i= .int .i64 k/\xs.take k=ys.take k/\Kept none' w wr) (fun i _=>xs.length-(intOf i).toNat)
  case atStart=>exact⟨0,by omega,rfl,by simp,Kept.refl _ _⟩
  case round=>
   obtain⟨k,hk,rfl,ht,hkp⟩:=hrel
   have HT:=Lib.hid ht
   clear ht
   by_cases hlt:k<xs.length
   ·obtain⟨x,hx⟩: ∃x,xs[k]?=some x:=⟨_,List.getElem?_eq_getElem hlt⟩
    obtain⟨y,hy⟩: ∃y,ys[k]?=some y:=⟨_,List.getElem?_eq_getElem (by rw[<-HL.out];exact hlt)⟩
    obtain⟨b0,off,rfl,hc⟩:=A3.out.resolve_left (fun h=>by rw[h]at hlt;simp at hlt)
    obtain⟨b1,off1,rfl,hd⟩:=B3.out.resolve_left (fun h=>by rw[h]at hy;simp at hy)
    have x0:=hkp.cell (p:=⟨b0,off+k*2,none⟩) (fun h=>h) (hc k x hx).1
    have x1:=hkp.cell (p:=⟨b0,off+k*2+1,none⟩) (fun h=>h) (hc k x hx).2
    have y0:=hkp.cell (p:=⟨b1,off1+k*2,none⟩) (fun h=>h) (hd k y hy).1
    have y1:=hkp.cell (p:=⟨b1,off1+k*2+1,none⟩) (fun h=>h) (hd k y hy).2
    have HX:=Lib.hid (And.intro hx hy)
    have hlt2:k<ys.length:=by rw[<-HL.out];exact hlt
    clear hc hd hx hy A3 B3
    go_wp2_with fail
    refine ak [0,1,2,3,4,5,6,7,8] (fun W=>Kept none' wr W) (by kernel_rfl) (by kernel_rfl) rfl (Kept.refl _ _).drew ?_
    simp only[List.map_cons,List.map_nil,List.getElem?_toArray,List.getElem?_cons_zero,List.getElem?_cons_succ,Option.getD_some]
    iterate 8 (apply aj rfl rfl;(intro W hW;have c0:=hW.cell (p:=⟨b0,off+k*2,none⟩) (fun h=>h) x0;have c1:=hW.cell (p:=⟨b0,off+k*2+1,none⟩) (fun h=>h) x1;have d0:=hW.cell (p:=⟨b1,off1+k*2,none⟩) (fun h=>h) y0;have d1:=hW.cell (p:=⟨b1,off1+k*2+1,none⟩) (fun h=>h) y1;go_simp;rfl);go_frame)
    refine aj (v:= .bool (decide (x≠y))) rfl rfl ?_ ?_
    ·intro W hW
     go_simp
     by_cases hxy:x=y
     ·subst hxy;simp
     ·have: ¬(x.1=y.1/\x.2=y.2):=fun h=>hxy (Prod.ext h.1 h.2)
      simp[hxy]
      intro h1 h2
      have g1:x.1=y.1:=by have:=str_eq x.1 y.1;rw[h1]at this;simpa using this
      have g2:x.2=y.2:=by have:=str_eq x.2 y.2;rw[h2]at this;simpa using this
      exact this ⟨g1,g2⟩
    go_frame
    refine aI (fun _=>(Kept.refl _ _).drew) ?_
    clear x0 x1 y0 y1
    by_cases hxy:x=y
    ·have hf:decide (x≠y)=false:=by simp[hxy]
     rw[hf]
     have yY:=Lib.hid hxy
     clear hxy hf
     go_wp2_with fail
     go_roundw
     case rel=>exact⟨k+1,by omega,by go_num,PK HT.out HX.out.1 HX.out.2 yY.out,hkp.drew⟩
     case measure=>simp[intOf];omega
    ·have hf:decide (x≠y)=true:=by simp[hxy]
     rw[hf]
     have yY:=Lib.hid hxy
     clear hxy hf
     go_wp2_with fail
     go_ret
     exact⟨dF (ZF HX.out.1 HX.out.2 yY.out).symm,hkp.drew⟩
   ·go_wp2_with fail
    go_ret
    exact⟨dF (Vd HT.out (by omega) HL.out).symm,hkp⟩
 ·have hne:(((xs.length:Nat):Int) !=((ys.length:Nat):Int))=true:=by simp;omega
  have HL:=Lib.hid hl
  clear a3 b3 hl
  go_enter Tryz.func18,Tryz.ntmps18
  go_wp2
  go_ret
  exact⟨dF (XY HL.out).symm,Kept.refl _ _⟩
end
section
open Go Go.RowKit
def fC (s:ByteArray):Tab:=match jE s.data.toList with| .ok T _=>T| .err _=>[]
def nY (T:Tab):Nat:=T.foldl (fun n p=>max n p.2.2.length) 0
def emptyS:ByteArray:=⟨#[]⟩
def qC (a b:List JN)(s:St):Bool:=decide ((nodeAt a (aP a s.1)).kind≠(nodeAt b (aP b s.1)).kind)||(decide ((nodeAt b (aP b s.1)).kind=7)&&decide ((nodeAt b (aP b s.1)).n<=(nY (fC s.2):Int)))
def kG (a b:List JN):List St->ByteArray×Int
 |[]=>(emptyS,0)
 |s::l=>if fC s.2=[]then kG a b l else if aP b s.1<0 then(s.1,240)else if qC a b s=true then(s.1,241)else kG a b l
def dA (a b:Jb)(l:List St):ByteArray×Int:=match dH a l with| .error e=>(emptyS,e)| .ok _=>if dw b=true then kG a.nodes b.nodes l else(emptyS,2)
def eX (l:List St):List St:=l.filter fun s=>decide (fC s.2≠[])
def lH (a b:Jb)(l:List St):Except Int (List St):=
 if(dA a b l).2≠0 then .error (dA a b l).2 else match dH b (eX l)with| .ok Ts=> .ok (aB b.nodes Ts)| .error e=> .error e
theorem pR {T:Tab}(h:dB T):fC (strOf (aV (lq T)))=T:=by
 unfold fC
 rw[mF,pU h]
def kY (t:Option Tab):Option Tab:=match t with|some []=>none|t=>t
theorem Qk {j:Jb}{Ts:Tabs}(hj:dw j=true)(h:bY j.nodes Ts): ∀(m k:Nat),k+m=j.nodes.length->
 dI j.nodes (eX (aB (j.nodes.drop k) (Ts.drop k))) ((Ts.take k).map kY++List.replicate m none)= .ok (Ts.map kY):=by
 intro m
 induction m with
 |zero=>
  intro k hk
  rw[List.drop_eq_nil_of_le (by omega),List.take_of_length_le (by have:=h.len;omega)]
  simp[aB,dI,eX]
 |succ m ih=>
  intro k hk
  have hkn:k<j.nodes.length:=by omega
  have hkt:k<Ts.length:=by rw[h.len];exact hkn
  rw[List.drop_eq_getElem_cons hkn,List.drop_eq_getElem_cons hkt,uM]
  have hd:j.nodes[k]?=some j.nodes[k]:=List.getElem?_eq_getElem hkn
  have hml:((Ts.take k).map kY).length=k:=by rw[List.length_map,List.length_take];omega
  have step:(Ts.take (k+1)).map kY++List.replicate m none=((Ts.take k).map kY++List.replicate (m+1) none).set k (kY Ts[k]):=by
   rw[List.take_add_one,List.getElem?_eq_getElem hkt,List.set_append_right _ _ (by omega),hml,Nat.sub_self,List.replicate_succ,List.set_cons_zero,List.map_append,List.append_assoc]
   rfl
  have same:((Ts.take k).map kY++List.replicate (m+1) none).set k (none:Option Tab)=(Ts.take k).map kY++List.replicate (m+1) none:=by
   rw[List.set_append_right _ _ (by omega),hml,Nat.sub_self,List.replicate_succ,List.set_cons_zero]
  have next:=ih (k+1) (by omega)
  rw[step]at next
  cases ht:Ts[k]with
  |none=>
   rw[ht,show kY none=none from rfl,same]at next
   simpa using next
  |some T=>
   have hs:stateful (j.nodes[k]).kind=true:=by
    cases hs:stateful (j.nodes[k]).kind with
    |true=>rfl
    |false=>have:=h.not k _ hd hs;rw[List.getElem?_eq_getElem hkt,ht]at this;cases this
   obtain⟨U,hU,hT,hf⟩:=h.has k _ hd hs
   rw[List.getElem?_eq_getElem hkt,ht]at hU
   injection hU with hU;injection hU with hU;subst hU
   rw[ht]at next
   simp only[List.cons_append,List.nil_append]
   by_cases hnil:T=[]
   ·subst hnil
    rw[show kY (some [])=none from rfl,same]at next
    unfold eX
    rw[List.filter_cons,if_neg (by simp[pR dB.nil])]
    exact next
   ·have hkt:kY (some T)=some T:=by cases T with|nil=>exact absurd rfl hnil|cons x l=>rfl
    rw[hkt]at next
    have hfind:=qB hj hd
    unfold eX
    rw[List.filter_cons,if_pos (by simp[pR hT,hnil]),dI]
    simp only[hfind]
    have aZ:nodeAt j.nodes ((k:Nat):Int)=j.nodes[k]:=by unfold nodeAt;simp[List.getD_eq_getElem?_getD,hkn]
    rw[aZ]
    have hnone:(((Ts.take k).map kY++List.replicate (m+1) none).getD (((k:Nat):Int).toNat) none).isSome=false:=by
     rw[Int.toNat_natCast,List.getD_eq_getElem?_getD,List.getElem?_append_right (by omega),hml,Nat.sub_self]
     simp[List.replicate_succ]
    rw[if_neg (by rw[hs,hnone];simp),mF,pU hT]
    simp only[hf,if_true,Int.toNat_natCast]
    exact next
theorem UW {nodes:List JN}{Ts:Tabs}(h:bY nodes Ts):kF nodes (Ts.map kY)=Ts:=by
 apply List.ext_getElem?
 intro i
 by_cases hi:i<nodes.length
 ·have hd:nodes[i]?=some nodes[i]:=List.getElem?_eq_getElem hi
  obtain⟨t,ht⟩: ∃t,Ts[i]?=some t:=⟨_,List.getElem?_eq_getElem (by rw[h.len];exact hi)⟩
  have ht':(Ts.map kY)[i]?=some (kY t):=by rw[List.getElem?_map,ht];rfl
  rw[qj nodes (Ts.map kY) i hd ht',ht]
  cases hs:stateful (nodes[i]).kind with
  |false=>
   have:=h.not i _ hd hs
   rw[ht]at this;injection this with this;subst this
   rfl
  |true=>
   obtain⟨T,hT,_⟩:=h.has i _ hd hs
   rw[hT]at ht;injection ht with ht;subst ht
   cases T<;>rfl
 ·rw[List.getElem?_eq_none (by rw[zX _ _ (by simpa using h.len)];omega),List.getElem?_eq_none (by rw[h.len];omega)]
theorem Ue {j:Jb}{Ts:Tabs}(hj:dw j=true)(h:bY j.nodes Ts):dH j (eX (aB j.nodes Ts))= .ok Ts:=by
 have:=Qk hj h j.nodes.length 0 (by omega)
 simp only[List.drop_zero,List.take_zero,List.map_nil,List.nil_append]at this
 unfold dH bV
 rw[if_pos hj,this]
 simp only
 rw[UW h]
theorem KT {T:Tab}{n:Nat}(h0:0<n)(h: ∀p∈T,p.2.2.length<n):nY T<n:=by
 unfold nY
 have: ∀(T:Tab)(a:Nat),a<n->(∀p∈T,p.2.2.length<n)->T.foldl (fun n p=>max n p.2.2.length) a<n:=by
  intro T
  induction T with
  |nil=>exact fun a ha _=>ha
  |cons p T ih=>exact fun a ha hT=>ih _ (Nat.max_lt.2 ⟨ha,hT p (by simp)⟩) (fun q hq=>hT q (by simp[hq]))
 exact this T 0 h0 h
theorem nX {nodes:List JN}{Ts:Tabs}{s:St}(h:s∈aB nodes Ts): ∃(i:Nat)(d:JN)(T:Tab),nodes[i]?=some d/\Ts[i]?=some (some T)/\s=(d.uid,strOf (aV (lq T))):=by
 unfold aB at h
 obtain⟨p,hp,hs⟩:=List.mem_filterMap.1 h
 obtain⟨i,hi⟩:=List.mem_iff_getElem?.1 hp
 rw[List.getElem?_zip_eq_some]at hi
 unfold uG at hs
 cases e:p.2 with
 |none=>rw[e]at hs;cases hs
 |some T=>
  rw[e]at hs
  injection hs with hs
  exact⟨i,p.1,T,hi.1,by rw[hi.2,e],hs.symm⟩
theorem PX {nodes:List JN}{Ts:Tabs}{i:Nat}{d:JN}{T:Tab}(hd:nodes[i]?=some d)(hT:Ts[i]?=some (some T)):(d.uid,strOf (aV (lq T)))∈aB nodes Ts:=by
 unfold aB
 refine List.mem_filterMap.2 ⟨(d,some T),List.mem_iff_getElem?.2 ⟨i,?_⟩,rfl⟩
 rw[List.getElem?_zip_eq_some]
 exact⟨hd,hT⟩
theorem Gf {a b:List JN}: ∀{l:List St},(∀s∈l,fC s.2≠[]->0<=aP b s.1/\qC a b s=false)->kG a b l=(emptyS,0)
 |[],_=>rfl
 |s::l,h=>by
  have ih:=Gf (l:=l) (fun t ht=>h t (by simp[ht]))
  unfold kG
  by_cases hT:fC s.2=[]
  ·rw[if_pos hT];exact ih
  ·obtain⟨h1,h2⟩:=h s (by simp) hT
   rw[if_neg hT,if_neg (by omega),if_neg (by rw[h2];simp)]
   exact ih
theorem QN {j k:Jb}{Ts:Tabs}(hj:dw j=true)(hk:dw k=true)(hn:k.nodes=j.nodes)(h:bY j.nodes Ts):dA j k (aB j.nodes Ts)=(emptyS,0)/\lH j k (aB j.nodes Ts)= .ok (aB j.nodes Ts):=by
 have hc:dA j k (aB j.nodes Ts)=(emptyS,0):=by
  unfold dA
  rw[wP hj h]
  simp only[hk,if_true]
  rw[hn]
  refine Gf fun s hs hne=>?_
  obtain⟨i,d,T,hd,hT,rfl⟩:=nX hs
  have hfind:=qB hj hd
  have aZ:nodeAt j.nodes ((i:Nat):Int)=d:=by unfold nodeAt;rw[Int.toNat_natCast,List.getD_eq_getElem?_getD,hd];rfl
  refine⟨by rw[hfind];omega,?_⟩
  unfold qC
  simp only[hfind,aZ]
  have hst:stateful d.kind=true:=by
   cases hs':stateful d.kind with
   |true=>rfl
   |false=>have:=h.not i d hd hs';rw[hT]at this;cases this
  obtain⟨U,hU,hok,hf⟩:=h.has i d hd hst
  rw[hT]at hU;injection hU with hU;injection hU with hU;subst hU
  simp only[pR hok]at hne⊢
  rw[Bool.or_eq_false_iff]
  refine⟨by simp,?_⟩
  rw[Bool.and_eq_false_iff]
  by_cases h7:d.kind=7
  ·right
   obtain⟨p,hp⟩:=List.exists_mem_of_ne_nil T hne
   have hall: ∀q∈T,1<=q.2.2.length/\(q.2.2.length:Int)<d.n:=fun q hq=>by
    unfold eY at hf
    rw[Bool.and_eq_true,List.all_eq_true]at hf
    have:=hf.2 q hq
    rw[h7]at this
    have:=(vw (acc:=q.2.1) (l:=q.2.2)).1 this
    omega
   have h1:=hall p hp
   have:=KT (n:=d.n.toNat) (T:=T) (by omega) (fun q hq=>by have:=hall q hq;omega)
   rw[decide_eq_false_iff_not]
   omega
  ·left;exact decide_eq_false h7
 refine⟨hc,?_⟩
 unfold lH
 rw[hc,if_neg (by simp)]
 have:dH k (eX (aB j.nodes Ts))= .ok Ts:=by
  have:=Ue (j:=k) (Ts:=Ts) hk (by rw[hn];exact h)
  rwa[hn]at this
 rw[this,hn]
theorem MF {a b:Jb}{l x:List St}(h:lH a b l= .ok x):(dA a b l).2=0/\ ∃Ts,dH b (eX l)= .ok Ts/\x=aB b.nodes Ts:=by
 unfold lH at h
 split at h
 ·cases h
 ·rename_i hc
  refine⟨Classical.not_not.1 hc,?_⟩
  cases e:dH b (eX l)with
  |error f=>rw[e]at h;cases h
  |ok Ts=>rw[e]at h;injection h with h;exact⟨Ts,rfl,h.symm⟩
section
variable {P:Program} {ops:Array Oper} {C:World->Prop} {Q:Act->World->Prop}
theorem Pq {n i k m:Nat}{listed:Array Bool}{a:Act}{w:World}{o o' o'':Oper}(hp:C9 ops listed=none)(hr:Region.ready .any ops listed=[i,k,m])(ho:ops[i]?=some o)(hw:Region.wanted o (yielded ops a.tmps)=true)
 (ho':ops[k]?=some o') (hw':Region.wanted o' (yielded ops a.tmps)=true) (aeD:ops[m]?=some o'') (hw'':Region.wanted o'' (yielded ops a.tmps)=true)
 (h: ∀K:Act->World->Prop,(∀a' w',C w'->dW P ops C Q n (listed.setIfInBounds i true) a' w'->K a' w')->o.wp P a w K (iH Q))
 (h': ∀K:Act->World->Prop,(∀a' w',C w'->dW P ops C Q n (listed.setIfInBounds k true) a' w'->K a' w')->o'.wp P a w K (iH Q))
 (h'': ∀K:Act->World->Prop,(∀a' w',C w'->dW P ops C Q n (listed.setIfInBounds m true) a' w'->K a' w')->o''.wp P a w K (iH Q)):dW P ops C Q (n+1) listed a w:=by
 unfold dW
 rw[hp,hr]
 refine⟨by simp,fun j hj=>?_⟩
 have hj:j=i\/j=k\/j=m:=by simpa using hj
 rcases hj with rfl|rfl|rfl
 ·refine⟨o,ho,?_⟩
  rw[if_pos hw]
  exact h _ fun a' w' h1 h2=>⟨h1,h2⟩
 ·refine⟨o',ho',?_⟩
  rw[if_pos hw']
  exact h' _ fun a' w' h1 h2=>⟨h1,h2⟩
 ·refine⟨o'',aeD,?_⟩
  rw[if_pos hw'']
  exact h'' _ fun a' w' h1 h2=>⟨h1,h2⟩
end
attribute [local irreducible] bU dW H2.dG
theorem Qi {T:Tab}{k:Nat}{q:Int×Cell}(h:T[k]?=some q):nY (T.take (k+1))=max (nY (T.take k)) q.2.2.length:=by
 unfold nY
 rw[List.take_add_one,h,Option.toList_some,List.foldl_append]
 rfl
theorem Xa {T:Tab}(hT:dB T)(k:Nat):nY (T.take k)<=16:=by
 have:=KT (T:=T.take k) (n:=17) (by omega) (fun p hp=>by have:=(hT.cell p (List.mem_of_mem_take hp)).2.2;omega)
 omega
theorem NH (B:Nat->Prop)(b m:Nat)(T:Tab)(w:World)(hT:TabAt w B b m T):
 Calls Tryz.prog 43 #[.pointer (some ⟨b,0,none⟩)] w (Gives w (.int .i64 (nY T:Int))):=by
 have ck:=lQ B b m T w hT
 have H:=Lib.hid hT
 clear hT
 go_enter Tryz.func43,Tryz.ntmps43
 go_wp2_with fail
 (with_reducible refine ck.mono ?_)
 clear ck
 rintro e W2 ⟨v,rfl,hown,-,k2⟩
 obtain⟨va,vc,rfl⟩:=ay hown
 have abd:T.length<=9223372036854775807:=by
  obtain⟨_,_,e1,e2,e3,_⟩:=(Reads.cO hown).at
  unfold maxLen at e3
  unfold aO at e2
  rw[List.length_map]at e2
  omega
 have hkl:(aO T).length=T.length:=by unfold aO;rw[List.length_map]
 rw[hkl]at hown
 have K2:=Lib.hid (And.intro k2 (And.intro (H.out.pure k2) hown))
 rw[hkl]
 clear hown k2
 go_wp2_with fail
 go_loopg [3,11] T.length (fun g vn vi wr=> ∃k:Nat,k<=T.length/\vi= .int .i64 (k:Int)/\vn= .int .i64 ((nY (T.take k):Nat):Int)/\T.length-k<=g/\Kept none' W2 wr)
 case atStart=>exact⟨0,by omega,rfl,rfl,by omega,Kept.refl _ _⟩
 case round=>
  obtain⟨k,hk,rfl,rfl,hg,hkp⟩:=hrel
  by_cases hlt:k<T.length
  ·obtain⟨q,hq⟩: ∃q,T[k]?=some q:=⟨_,List.getElem?_eq_getElem hlt⟩
   obtain⟨pa,pc,pe,_,_,hcell⟩:=((Reads.cO K2.out.2.2).pure hkp).at
   injection pe with pe1 Yp TQ
   subst pe1 TQ
   clear Yp
   obtain⟨bi,WS,rfl,hcell2⟩:=hcell.resolve_left (fun h=>by rw[h]at hkl;simp at hkl;omega)
   have y0:=hcell2 k q.1 (by unfold aO;rw[List.getElem?_map,hq];rfl)
   clear hcell hcell2
   have cg:=get_any B b m T q.1 wr (K2.out.2.1.pure hkp)
   have hget:=Oi K2.out.2.1.ok.rises hq
   unfold EP at cg
   rw[hget]at cg
   simp only[Option.getD_some,Option.isSome_some]at cg
   have hsn:=Qi hq
   obtain⟨key,acc,L⟩:=q
   have aeH:L.length<=16:=(K2.out.2.1.ok.cell _ (List.mem_of_getElem? hq)).2.2
   have hn16:=Xa K2.out.2.1.ok k
   obtain⟨N,hN⟩: ∃N,nY (T.take k)=N:=⟨_,rfl⟩
   rw[hN]at hsn hn16
   simp only at cg y0 hsn
   have G:=Lib.hid (And.intro hg (And.intro hkp (And.intro hsn hN)))
   clear hq hg hkp hget hkl hsn
   rw[hN]
   clear hN
   go_wp2_with fail
   (with_reducible refine cg.mono ?_)
   clear cg
   rintro e w3 ⟨lv,n',rfl,hl1,rfl,k3⟩
   obtain⟨la,lc,rfl⟩:=ay hl1
   have hmx:max (N:Int) (L.length:Int)=((max N L.length:Nat):Int):=by omega
   have F:=Lib.hid (G.out.2.1.trans (k3.alloc (.cells #[.int .i64 acc, .slice la L.length lc] 124)))
   clear k3 hl1 y0
   go_wp2_with fail
   try rw[hmx]
   go_roundg (T.length-(k+1))
   case rel=>exact⟨k+1,by omega,by go_num,by rw[G.out.2.2.1];try rw[hmx],Nat.le_refl _,F.out⟩
   case measure=>have:=G.out.1;omega
  ·have e1:k=T.length:=by omega
   subst e1
   have F:=Lib.hid hkp
   clear hkp
   go_wp2_with fail
   go_ret
   exact⟨fG (by rw[List.take_of_length_le (Nat.le_refl _)]),K2.out.1.trans F.out⟩
end
end Go.Proofs.YtopeleenlcnkkaaGreatDoor
