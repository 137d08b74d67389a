/- The document's expressions: of what kind one is. -/
import Derived.Test.YtglbkodmmogomaaGreatDoorM44
set_option linter.unusedVariables false
set_option linter.unusedSimpArgs false
set_option maxHeartbeats 4000000
set_option maxRecDepth 100000
namespace Go.Proofs.YtglbkodmmogomaaGreatDoor
open Go Go.RowKit
theorem x9 {x:Ex}{acc:Bool}{r:Int×Int}{w w':World}{a b:Int}(h:bU x acc=r)(k:Kept none' w w')(ha:a=r.1)(hb:b=r.2):nG w (bU x acc) (.returned (.tuple #[.int .u8 a, .int .i64 b])) w':=by
 rw[h,ha,hb];exact⟨rfl,k⟩
theorem MG (x:Ex)(acc:Bool)(a:Array Value)(w:World)(h:aC w a x):Calls Tryz.prog 174 #[.agg a, .bool acc] w (nG w (bU x acc)):=by
 obtain⟨p,cap,rfl,h0,h1,h2,h3,h4,h5⟩:=h.parts
 have H:=Lib.hid h
 have JD:=Lib.hid (show bU x acc=if bV 16 x=false then(0,2)else if acc=false/\eG x=true then(0,90)else if aI 16 x=0 then(0,91)else(aI 16 x,0)from rfl)
 clear h h5
 go_enter Tryz.func174,Tryz.ntmps174
 go_wp2_with fail
 have k1:Kept none' w (w.alloc (.cells #[.int .u8 x.op, .int .i64 x.n, .slice p x.args.length cap] 40)):=(Kept.refl _ _).alloc _
 (with_reducible refine(Qs x _ _ (aC.pure k1 H.out)).mono ?_)
 rintro e w2 ⟨rfl,k2⟩
 have d0:=k2.cell (p:=⟨w.heap.size,0,none⟩) (v:= .int .u8 x.op) (fun h=>h) (by simp)
 have d1:=k2.cell (p:=⟨w.heap.size,1,none⟩) (v:= .int .i64 x.n) (fun h=>h) (by simp)
 have d2:=k2.cell (p:=⟨w.heap.size,2,none⟩) (v:= .slice p x.args.length cap) (fun h=>h) (by simp)
 have K2:=Lib.hid (k1.trans k2)
 clear k1 k2
 cases hm:bV 16 x with
 |false=>
  have F:=Lib.hid (show bU x acc=(0,2) by rw[JD.out,if_pos hm])
  clear hm
  go_wp2_with fail
  go_ret2
  exact x9 F.out K2.out rfl rfl
 |true=>
  have HM:=Lib.hid hm
  clear hm
  cases acc with
  |true=>
   go_wp2_with fail
   have c:=zh 16 x _ w2 HM.out (aC.pure K2.out H.out)
   (with_reducible refine c.mono ?_)
   clear c
   rintro e w3 ⟨rfl,k3⟩
   have K3:=Lib.hid (K2.out.trans k3)
   clear k3
   have ht:=oK 16 x
   obtain⟨T,hT⟩: ∃T,aI 16 x=T:=⟨_,rfl⟩
   rw[hT]at ht
   rw[hT]
   by_cases t0:T=0
   ·have F:=Lib.hid (show bU x true=(0,91) by rw[JD.out,if_neg (by rw[HM.out];simp),if_neg (by simp),hT,if_pos t0])
    subst t0
    clear hT ht
    go_wp2_with fail
    go_ret2
    exact x9 F.out K3.out rfl rfl
   ·have F:=Lib.hid (show bU x true=(T,0) by rw[JD.out,if_neg (by rw[HM.out];simp),if_neg (by simp),hT,if_neg t0])
    have tb:(T==0)=false:=by simp[t0]
    have hr:0<=T/\T<=2:=by omega
    clear hT ht t0
    go_wp2_with fail
    go_ret2
    exact x9 F.out K3.out rfl rfl
  |false=>
   go_wp2_with fail
   have c:=Dc _ x _ w2 (Nat.le_refl _) (aC.pure K2.out H.out)
   (with_reducible refine c.mono ?_)
   clear c
   rintro e w3 ⟨rfl,k3⟩
   have d0:=k3.cell (p:=⟨w.heap.size,0,none⟩) (fun h=>h) d0
   have d1:=k3.cell (p:=⟨w.heap.size,1,none⟩) (fun h=>h) d1
   have d2:=k3.cell (p:=⟨w.heap.size,2,none⟩) (fun h=>h) d2
   have K3:=Lib.hid (K2.out.trans k3)
   clear k3
   cases hA:eG x with
   |true=>
    have F:=Lib.hid (show bU x false=(0,90) by rw[JD.out,if_neg (by rw[HM.out];simp),if_pos (by simp[hA])])
    clear hA
    go_wp2_with fail
    go_ret2
    exact x9 F.out K3.out rfl rfl
   |false=>
    have HA:=Lib.hid hA
    clear hA
    go_wp2_with fail
    have c:=zh 16 x _ w3 HM.out (aC.pure K3.out H.out)
    (with_reducible refine c.mono ?_)
    clear c
    rintro e w4 ⟨rfl,k4⟩
    have K4:=Lib.hid (K3.out.trans k4)
    clear k4
    have ht:=oK 16 x
    obtain⟨T,hT⟩: ∃T,aI 16 x=T:=⟨_,rfl⟩
    rw[hT]at ht
    rw[hT]
    by_cases t0:T=0
    ·have F:=Lib.hid (show bU x false=(0,91) by rw[JD.out,if_neg (by rw[HM.out];simp),if_neg (by rw[HA.out];simp),hT,if_pos t0])
     subst t0
     clear hT ht
     go_wp2_with fail
     go_ret2
     exact x9 F.out K4.out rfl rfl
    ·have F:=Lib.hid (show bU x false=(T,0) by rw[JD.out,if_neg (by rw[HM.out];simp),if_neg (by rw[HA.out];simp),hT,if_neg t0])
     have tb:(T==0)=false:=by simp[t0]
     have hr:0<=T/\T<=2:=by omega
     clear hT ht t0
     go_wp2_with fail
     go_ret2
     exact x9 F.out K4.out rfl rfl
theorem Iu (x:Ex)(acc:Bool):(0<=(bU x acc).1/\(bU x acc).1<=2)/\0<=(bU x acc).2/\(bU x acc).2<=91:=by
 have:=oK 16 x
 unfold bU
 split
 ·exact⟨⟨by decide,by decide⟩,by decide,by decide⟩
 ·split
  ·exact⟨⟨by decide,by decide⟩,by decide,by decide⟩
  ·split
   ·exact⟨⟨by decide,by decide⟩,by decide,by decide⟩
   ·dsimp only;omega
theorem oh (x:Ex)(acc:Bool)(ty:Int)(a:Array Value)(w:World)(h:aC w a x):Calls Tryz.prog 139 #[.agg a, .bool acc, .int .u8 ty] w (Gives w (.bool (jH x acc ty))):=by
 obtain⟨p,cap,rfl,_,_,h2,h3,h4,h5⟩:=h.parts
 have H:=Lib.hid h
 have HI:=Lib.hid (show jH x acc ty=((bU x acc).2==0&&(bU x acc).1==ty)from rfl)
 have hr:=Iu x acc
 clear h h5
 go_enter Tryz.func139,Tryz.ntmps139
 go_wp2_with fail
 have k1:Kept none' w (w.alloc (.cells #[.int .u8 x.op, .int .i64 x.n, .slice p x.args.length cap] 40)):=(Kept.refl _ _).alloc _
 have c:=MG x acc _ _ (aC.pure k1 H.out)
 (with_reducible refine c.mono ?_)
 clear c
 rintro e w2 ⟨rfl,k2⟩
 have K2:=Lib.hid (k1.trans k2)
 clear k1 k2
 obtain⟨r,hr'⟩: ∃r,bU x acc=r:=⟨_,rfl⟩
 rw[hr']at hr
 have HR:=Lib.hid hr'
 rw[hr']
 clear hr'
 obtain⟨k,e⟩:=r
 dsimp only at hr⊢
 obtain⟨⟨r1,r2⟩,r3,r4⟩:=hr
 by_cases he:e=0
 ·subst he
  have F:=Lib.hid (show jH x acc ty=(k==ty) by rw[HI.out,HR.out];rfl)
  go_wp2_with fail
  go_ret
  exact⟨aF F.out.symm,K2.out⟩
 ·have eb:(e==0)=false:=by simp[he]
  have F:=Lib.hid (show jH x acc ty=false by rw[HI.out,HR.out];simp[he])
  clear he
  go_wp2_with fail
  go_ret
  exact⟨aF F.out.symm,K2.out⟩
theorem Ny: ∃i,Tryz.prog.info? 21=some i/\i.zero=some (.int .i32 0)/\i.size=1/\i.bytes=4:=by
 have h:(Tryz.prog.info? 21).map (fun i=>(i.zero,i.size,i.bytes))=some (some (.int .i32 0),1,4):=by kernel_rfl
 obtain⟨i,h1,h2⟩:=Option.map_eq_some_iff.1 h
 injection h2 with h2 h3
 injection h3 with h3 h4
 exact⟨i,h1,h2,h3,h4⟩
def rF (l:List (Nat×Nat)):List Value:=l.map fun p=> .int .i32 (p.2:Int)
def Ls (l:List (Nat×Nat)):List Value:=l.map fun p=> .int .i64 (p.1:Int)
def Vd (w:World)(s:ByteArray)(e:Ending)(w':World):Prop:= ∃v1 v2,e= .returned (.tuple #[v1,v2])/\w'.ownsRow w.heap.size 21 1 v1 (runes s).length (rF (runes s))/\Kept none' w w'
theorem ownBlock_ne {w:World}{base E1 E2 n1 n2:Nat}{v1 v2:Value}{xs1 xs2:List Value}(h1:w.ownsRow base E1 1 v1 n1 xs1)(h2:w.ownsRow base E2 1 v2 n2 xs2)(hE:E1≠E2){k:Nat}(hk:v1.ownBlock=some k):v2.ownBlock≠some k:=by
 rcases h1.2 with⟨e1,_⟩|⟨g,cap,cur,e1,_,hg,_⟩
 ·rw[e1]at hk;cases hk
 ·rw[e1]at hk
  have:g=k:=by simpa[Value.ownBlock]using hk
  subst this
  exact row_ne h2 hg hE
theorem Md (s:ByteArray)(hs:s.size<=1000)(w:World):Calls Tryz.prog 172 #[.string s] w (Vd w s):=by
 obtain⟨w0,hrun,hit,hk0,hs0⟩:=iC (P:=Tryz.prog) w 9 s Tryz.underlying9
 have hlen:=fM s
 have H:=Lib.hid (And.intro hit (And.intro hk0 hs0))
 clear hit hk0 hs0
 go_enter Tryz.func172,Tryz.ntmps172
 go_wp2
 go_loopg [4,5] (runes s).length (fun k v1 v2 wr=> ∃left done,iK wr w.heap.size s left/\runes s=done++left/\left.length=k/\wr.ownsRow w.heap.size 21 1 v1 done.length (rF done)/\wr.ownsRow w.heap.size 3 1 v2 done.length (Ls done)/\Kept none' w wr)
 case atStart=>exact⟨runes s,[],H.out.1,rfl,rfl,World.ownsRow_nil _ _ _ _,World.ownsRow_nil _ _ _ _,H.out.2.1⟩
 case round=>
  obtain⟨left,done,hit,hall,hk,ho1,ho2,hk1⟩:=hrel
  obtain⟨a1,c1,rfl⟩:=ay ho1
  obtain⟨a2,c2,rfl⟩:=ay ho2
  rcases hit.next (P:=Tryz.prog) 0 with⟨rfl,hrun⟩|⟨p,left',w2,hp,hrun,hit2,hk2,hs2⟩
  ·clear hit
   rw[List.append_nil]at hall
   subst hall
   have F:=Lib.hid (And.intro ho1 hk1)
   clear ho1 ho2 hk1
   go_wp2_with fail
   go_ret2
   exact⟨_,_,rfl,F.out.1,F.out.2⟩
  ·have hl:runes s=done++p::left':=by rw[hall,hp]
   have hdl:done.length+1<=1000:=by
    rw[hl]at hlen;simp at hlen;omega
   have hm:left'.length<gk:=by rw[hp]at hk;simp at hk;omega
   have MR: ∀{v:Value}{E n:Nat}{xs:List Value},wr.ownsRow w.heap.size E 1 v n xs->v.ownBlock≠some w.heap.size:=fun{v E n xs} ho e=>by
    rcases ho.2 with⟨e1,_⟩|⟨g,cap,cur,e1,_,hg,_⟩
    ·rw[e1]at e;cases e
    ·rw[e1]at e
     have:g=w.heap.size:=by simpa[Value.ownBlock]using e
     subst this
     exact hit.Fb _ _ _ hg
   have o1:w2.ownsRow w.heap.size 21 1 (.slice a1 done.length c1) done.length (rF done):=hk2.owns ho1 (fun k hk hs=>MR ho1 (by rw[hk,show k=w.heap.size from hs]))
   have o2:w2.ownsRow w.heap.size 3 1 (.slice a2 done.length c2) done.length (Ls done):=hk2.owns ho2 (fun k hk hs=>MR ho2 (by rw[hk,show k=w.heap.size from hs]))
   have hb2:w.heap.size<=w2.heap.size:=by have:=hk1.size;have:=hk2.size;omega
   obtain⟨i1,hi1,hz1,hsz1,Gl⟩:=Ny
   obtain⟨g1,Xh,w3,r1,p1,q1⟩:=jZ (x:= .int .i32 (p.2:Int)) (bytes:=4) Tryz.underlying245 hi1 hz1 hsz1 Gl rfl rfl o1 (by omega) (by omega) hb2 245
   have QG:w3.ownsRow w.heap.size 3 1 (.slice a2 done.length c2) done.length (Ls done):=q1.owns o2 (fun k hk hs=>ownBlock_ne o1 o2 (by decide) hs hk)
   obtain⟨i2,hi2,hz2,hsz2,UE⟩:=nJ
   obtain⟨g2,cp2,w4,r2,p2,q2⟩:=jZ (x:= .int .i64 (p.1:Int)) (bytes:=8) Tryz.underlying37 hi2 hz2 hsz2 UE rfl rfl QG (by omega) (by omega) (by have:=q1.size;omega) 37
   have p1':w4.ownsRow w.heap.size 21 1 (.slice (some ⟨g1,0,none⟩) (done.length+1) Xh) (done.length+1) (rF done++[.int .i32 (p.2:Int)]):=q2.owns p1 (fun k hk hs=>ownBlock_ne QG p1 (by decide) hs hk)
   have hk3:Kept none' w w2:=hk1.new hk2 (fun i hi e=>by unfold one at e;omega)
   have hown: ∀{v:Value}{E n:Nat}{xs:List Value}{W:World},W.ownsRow w.heap.size E 1 v n xs-> ∀k,v.ownBlock=some k->w.heap.size<=k:=fun ho k hk=>(gG ho hk).1
   have hk4:Kept none' w w4:=(hk3.new q1 (fun i hi e=>by have:=hown o1 i e;omega)).new q2 (fun i hi e=>by have:=hown QG i e;omega)
   have FP:iK w4 w.heap.size s left':=(hit2.kept q1 (fun e=>MR ho1 e)).kept q2 (fun e=>MR ho2 e)
   have G:=Lib.hid (And.intro FP (And.intro hl (And.intro p1' (And.intro p2 (And.intro hk4 hm)))))
   clear hit hit2 hall hk ho1 ho2 hk1 hl hm MR o1 o2 QG p1 p1' p2 q1 q2 hk2 hs2 hk3 hk4 FP hown hi1 hz1 hsz1 Gl hi2 hz2 hsz2 UE hp H hlen
   go_wp2_with (first|(at_builtin;refine wpList_append_run rfl (.tmp 14) (.tmp 16) 245 rfl (.slice a1 done.length c1) (.slice (some ⟨w2.heap.size,0,none⟩) 1 1) _ rfl rfl r1 ?_)|(at_builtin;refine wpList_append_run rfl (.tmp 18) (.tmp 20) 37 rfl (.slice a2 done.length c2) (.slice (some ⟨w3.heap.size,0,none⟩) 1 1) _ rfl rfl r2 ?_))
   go_roundg left'.length
   case rel=>
    refine⟨left',done++[p],G.out.1,by rw[G.out.2.1];simp,rfl,?_,?_,G.out.2.2.2.2.1⟩
    ·have:=G.out.2.2.1;simpa[rF]using this
    ·have:=G.out.2.2.2.1;simpa[Ls]using this
   case measure=>exact G.out.2.2.2.2.2
theorem yG (r:Nat)(w:World):Calls Tryz.prog 173 #[.int .i32 (r:Int)] w fun e w'=>e= .returned (.bool (fZ r))/\w=w':=by
 go_enter Tryz.func173,Tryz.ntmps173
 go_wp2
 all_goals
  go_ret
  refine⟨mZ ?_,rfl⟩
  rw[Bool.eq_iff_iff,yM]
  simp only[Bool.or_eq_true,decide_eq_true_eq,bne_iff_ne,ne_eq,Bool.false_eq_true,true_iff,false_iff]
  omega
theorem pW {s:ByteArray}{p:Nat×Nat}{l:List (Nat×Nat)}(h:runes s=p::l):dV s=(fZ p.2&&(p::l).all (fun q=>fF q.2)&&decide ((p::l).length<=24)):=by
 unfold dV
 rw[h];rfl
theorem KC {s:ByteArray}{q:Nat×Nat}(hq:q∈runes s)(h:fF q.2=false):dV s=false:=by
 cases e:runes s with
 |nil=>rw[e]at hq;cases hq
 |cons p l=>
  rw[pW e]
  have:(p::l).all (fun q=>fF q.2)=false:=List.all_eq_false.2 ⟨q,by rw[<-e];exact hq,by simp[h]⟩
  rw[this];simp
theorem MC (s:ByteArray)(hs:s.size<=1000)(w:World):Calls Tryz.prog 138 #[.string s] w (Gives w (.bool (dV s))):=by
 have cr:=Md s hs w
 have hlen:=fM s
 go_enter Tryz.func138,Tryz.ntmps138
 go_wp2_with fail
 (with_reducible refine cr.mono ?_)
 clear cr
 rintro e w2 ⟨v1,v2,rfl,ho,k2⟩
 obtain⟨a1,c1,rfl⟩:=ay ho
 have K2:=Lib.hid k2
 have HS:=Lib.hid hs
 obtain⟨pa,n',pc,pe,_,_,_,hcell⟩:=Reads.bQ ho
 injection pe with pe1 yI wW
 subst pe1 wW
 clear ho k2 yI
 obtain⟨N,hN⟩: ∃N,(runes s).length=N:=⟨_,rfl⟩
 have hN1:N<=1000:=by omega
 rw[hN]
 by_cases h0:N<1
 ·have F:=Lib.hid (show dV s=false by
   have:runes s=[]:=List.eq_nil_of_length_eq_zero (by omega)
   unfold dV;rw[this];rfl)
  have HH:=Lib.hid hcell
  clear hcell hs hlen
  have HN:=Lib.hid hN
  clear hN
  go_wp2_with fail
  go_ret
  exact⟨aX F.out.symm,K2.out⟩
 ·obtain⟨bi,rJ,rfl,hc2⟩:=hcell.resolve_left (fun h=>by unfold rF at h;simp at h;rw[h]at hN;simp at hN;omega)
  have hcl: ∀k p,(runes s)[k]?=some p->w2.cell? ⟨bi,rJ+k,none⟩=some (.int .i32 (p.2:Int)):=fun k p hp=>hc2 k _ (by unfold rF;rw[List.getElem?_map,hp];rfl)
  have HC:=Lib.hid hcl
  have HN:=Lib.hid hN
  clear hc2 hcl hs hlen
  by_cases U4:24<N
  ·have F:=Lib.hid (show dV s=false by
    cases e:runes s with
    |nil=>rw[e]at hN;simp at hN;omega
    |cons p l=>
     rw[pW e,<-e,hN,decide_eq_false (by omega)];simp)
   clear hN
   go_wp2_with fail
   go_ret
   exact⟨aX F.out.symm,K2.out⟩
  ·obtain⟨p,l,hpl⟩: ∃p l,runes s=p::l:=by
    cases e:runes s with
    |nil=>rw[e]at hN;simp at hN;omega
    |cons p l=>exact⟨p,l,rfl⟩
   have y0:=HC.out 0 p (by rw[hpl];rfl)
   rw[Nat.add_zero]at y0
   have cl:=yG p.2 w2
   obtain⟨r0,hr0⟩: ∃r0,p.2=r0:=⟨_,rfl⟩
   rw[hr0]at y0 cl
   have HP:=Lib.hid (And.intro hpl hr0)
   clear hN hpl
   cases hlet:fZ r0 with
   |false=>
    rw[hlet]at cl
    have F:=Lib.hid (show dV s=false by
     rw[pW HP.out.1,HP.out.2,hlet];simp)
    clear hlet hr0
    go_wp2_with (go_at_call 173;refine cl.mono ?_;rintro e w' ⟨rfl,rfl⟩)
    go_ret
    exact⟨aX F.out.symm,K2.out⟩
   |true=>
    rw[hlet]at cl
    have HL:=Lib.hid hlet
    clear hlet hr0
    go_wp2_with (go_at_call 173;refine cl.mono ?_;rintro e w' ⟨rfl,rfl⟩)
    clear cl y0
    go_loopg [5] N (fun g vi wr=> ∃k:Nat,k<=N/\vi= .int .i64 (k:Int)/\N-k<=g/\wr=w2/\ ∀q∈(runes s).take k,fF q.2=true)
    case atStart=>exact⟨0,by omega,rfl,by omega,rfl,by simp⟩
    case round=>
     obtain⟨k,hk,rfl,hg,rfl,hall⟩:=hrel
     by_cases hlt:k<N
     ·obtain⟨q,hq⟩: ∃q,(runes s)[k]?=some q:=⟨_,List.getElem?_eq_getElem (by rw[HN.out];exact hlt)⟩
      have y:=HC.out k q hq
      have cl:=yG q.2 wr
      have nx:fF q.2=true-> ∀p∈(runes s).take (k+1),fF p.2=true:=fun h p hp=>by
       rw[List.take_add_one,hq]at hp
       rcases List.mem_append.1 hp with hp|hp
       ·exact hall p hp
       ·rw[show p=q by simpa using hp];exact h
      have no:fF q.2=false->dV s=false:=fun h=>KC (List.mem_of_getElem? hq) h
      have hiff:=Aj q.2
      obtain⟨r,hr⟩: ∃r,q.2=r:=⟨_,rfl⟩
      rw[hr]at y cl nx no hiff
      have G:=Lib.hid (And.intro hg (And.intro nx no))
      have HI:=Lib.hid hiff
      clear hq hg hall nx no hiff hr
      cases hlet:fZ r with
      |true=>
       rw[hlet]at cl
       have Y:=Lib.hid (G.out.2.1 (HI.out.2 (.inl hlet)))
       clear hlet
       go_wp2_with (go_at_call 173;refine cl.mono ?_;rintro e w' ⟨rfl,rfl⟩)
       go_roundg (N-(k+1))
       case rel=>exact⟨k+1,by omega,by go_num,Nat.le_refl _,rfl,Y.out⟩
       case measure=>have:=G.out.1;omega
      |false=>
       rw[hlet]at cl
       by_cases h48:(r:Int)<48
       ·by_cases h45:(r:Int)=45
        ·have Y:=Lib.hid (G.out.2.1 (HI.out.2 (.inr (.inr h45))))
         have UZ:((r:Int) !=45)=false:=by simp[h45]
         clear hlet h45
         go_wp2_with (go_at_call 173;refine cl.mono ?_;rintro e w' ⟨rfl,rfl⟩)
         go_roundg (N-(k+1))
         case rel=>exact⟨k+1,by omega,by go_num,Nat.le_refl _,rfl,Y.out⟩
         case measure=>have:=G.out.1;omega
        ·have Y:=Lib.hid (G.out.2.2 (by
          cases e:fF r with
          |false=>rfl
          |true=>have:=HI.out.1 e;rw[hlet]at this;simp at this;omega))
         have UZ:((r:Int) !=45)=true:=by simp[h45]
         clear hlet h45
         go_wp2_with (go_at_call 173;refine cl.mono ?_;rintro e w' ⟨rfl,rfl⟩)
         go_ret
         exact⟨aX Y.out.symm,K2.out⟩
       ·by_cases h57:57<(r:Int)
        ·have Y:=Lib.hid (G.out.2.2 (by
          cases e:fF r with
          |false=>rfl
          |true=>have:=HI.out.1 e;rw[hlet]at this;simp at this;omega))
         have UZ:((r:Int) !=45)=true:=by
          have:(r:Int)≠45:=by omega
          simpa using this
         clear hlet
         go_wp2_with (go_at_call 173;refine cl.mono ?_;rintro e w' ⟨rfl,rfl⟩)
         go_ret
         exact⟨aX Y.out.symm,K2.out⟩
        ·have Y:=Lib.hid (G.out.2.1 (HI.out.2 (.inr (.inl ⟨by omega,by omega⟩))))
         clear hlet
         go_wp2_with (go_at_call 173;refine cl.mono ?_;rintro e w' ⟨rfl,rfl⟩)
         go_roundg (N-(k+1))
         case rel=>exact⟨k+1,by omega,by go_num,Nat.le_refl _,rfl,Y.out⟩
         case measure=>have:=G.out.1;omega
     ·have hkN:k=N:=by omega
      subst hkN
      have F:=Lib.hid (show dV s=true by
       rw[pW HP.out.1,HP.out.2,HL.out,<-HP.out.1,HN.out,decide_eq_true (by omega),Bool.true_and,Bool.and_true,List.all_eq_true]
       intro q hq
       exact hall q (by rw[List.take_of_length_le (by rw[HN.out];exact Nat.le_refl _)];exact hq))
      clear hall hg
      go_wp2_with fail
      go_ret
      exact⟨aX F.out.symm,K2.out⟩
end Go.Proofs.YtglbkodmmogomaaGreatDoor
