/- The document's jobs: whether a node may be. -/
import Derived.Test.YtakhobfamnjnoaaGreatDoorC31
set_option linter.unusedVariables false
set_option linter.unusedSimpArgs false
set_option maxHeartbeats 8000000
set_option maxRecDepth 100000
namespace Go.Proofs.YtakhobfamnjnoaaGreatDoor
open Go Go.RowKit
theorem Uh (x:Ex):kU x (.mk 0 0 [])=jO x:=by
 rw[N9]
 unfold jO
 cases x with
 |mk o n l=>
  cases l with
  |nil=>simp[Ex.op,Ex.n,Ex.args,lU]
  |cons y l=>simp[Ex.op,Ex.n,Ex.args]
theorem aft (at_:Nat)(d:JN):bD at_ d=gy (fK d.uid) d.kind d.ins.length (iI d.ins at_) (jO d.x) (fun acc ty=>lJ d.x acc ty) d.n:=by
 unfold bD;rw[Zt]
theorem Fe {name:Bool}{k:Int}{ins:Nat}{good none:Bool}{ty:Bool->Int->Bool}{n:Int}(h:name=false\/good=false):gy name k ins good none ty n=false:=by
 unfold gy
 rcases h with h|h<;>simp[h]
theorem JO {l:List Int}{at_ k:Nat}{x:Int}(hx:l[k]?=some x)(h:x<0\/(at_:Int)<=x):iI l at_=false:=by
 unfold iI
 have:l.all (fun k=>decide (0<=k)&&decide (k<(at_:Int)))=false:=List.all_eq_false.2 ⟨x,List.mem_of_getElem? hx,by
  simp only[Bool.and_eq_true,decide_eq_true_eq];omega⟩
 rw[this,Bool.and_false]
theorem Ug {l:List Int}{at_ k m:Nat}{x:Int}(hx:l[k]?=some x)(hy:l[m]?=some x)(h:m<k):iI l at_=false:=by
 unfold iI
 have: ¬l.Nodup:=fun hn=>by
  have h1:=List.getElem?_eq_some_iff.1 hx
  have h2:=List.getElem?_eq_some_iff.1 hy
  obtain⟨k1,e1⟩:=h1
  obtain⟨m1,e2⟩:=h2
  exact(List.pairwise_iff_getElem.1 hn) m k m1 k1 h (e2.trans e1.symm)
 rw[decide_eq_false this,Bool.false_and]
theorem Uf {l:List Int}{at_:Nat}(h1:l.Nodup)(h2: ∀x∈l,0<=x/\x<(at_:Int)):iI l at_=true:=by
 unfold iI
 rw[decide_eq_true h1,Bool.true_and,List.all_eq_true]
 intro x hx
 have:=h2 x hx
 rw[decide_eq_true this.1,decide_eq_true this.2];rfl
theorem TL {l:List Int}{k:Nat}{x:Int}(hx:l[k]?=some x)(h:(l.take k).Nodup)(hn: ∀m y,m<k->l[m]?=some y->y≠x):(l.take (k+1)).Nodup:=by
 rw[List.take_add_one,hx,Option.toList_some,List.nodup_append]
 refine⟨h,by simp,fun a ha b hb e=>?_⟩
 obtain⟨m,hm⟩:=List.getElem?_of_mem ha
 rw[List.getElem?_take]at hm
 split at hm
 ·rename_i hmk
  exact hn m a hmk hm (by rw[e];simpa using hb)
 ·cases hm
theorem qE (n:Int):decide (n=0)=(n==0):=by rw[Bool.eq_iff_iff];simp
theorem aaf (w:World):bg w #[.int .u8 0, .int .i64 0, .slice none 0 0] (.mk 0 0 []):= .mk (by decide) (by decide) ⟨by decide,by decide⟩ (Reads.nil w 3) rfl (fun i x h=>by cases h)
theorem YK (d:JN)(a:Array Value)(at_:Nat)(w:World)(h:yP w a d)(hu:d.uid.size<=70000):Calls Tryz.prog 63 #[.agg a, .int .i64 (at_:Int)] w (Gives w (.bool (bD at_ d))):=by
 obtain⟨pi,ci,p,cap,rfl,hx,hin,hi64,hk0,hk1,afP,hul⟩:=h
 have H:=Lib.hid hx
 have HD:=Lib.hid (aft at_ d)
 have hB0:(w.alloc (.cells (o7 d pi ci p cap) 79)).heap[w.heap.size]?=some (.cells (o7 d pi ci p cap) 79 (0,0)):=heap_alloc_new _ _
 have k0:Kept none' w (w.alloc (.cells (o7 d pi ci p cap) 79)):=(Kept.refl _ _).alloc _
 have cn:=YJ d.uid hu (w.alloc (.cells (o7 d pi ci p cap) 79))
 have K0:=Lib.hid (And.intro k0 hB0)
 obtain⟨ia,il,ic,ie,i1,i2,_,NV⟩:=hin
 injection ie with ZO ZN ZM
 subst ZO ZN ZM
 unfold maxLen at i2
 have I3:=Lib.hid (show∀(m:Nat)(x:Int),d.ins[m]?=some x->aO x/\ ∃b off,pi=some ⟨b,off,none⟩/\w.cell? ⟨b,off+m,none⟩=some (.int .i64 x) by
  intro m x hx
  have hne:ints d.ins≠[]:=fun e=>by unfold ints at e;rw[List.map_eq_nil_iff]at e;rw[e]at hx;cases hx
  obtain⟨b,off,e,hc⟩:=NV.resolve_left hne
  exact⟨hi64 x (List.mem_of_getElem? hx),b,off,e,hc m _ (by unfold ints;rw[List.getElem?_map,hx];rfl)⟩)
 clear NV hx hi64 hul hu k0 hB0
 unfold aO at afP
 go_enter Tryz.func63,Tryz.ntmps63
 go_wp2_with fail
 (with_reducible refine cn.mono ?_)
 clear cn
 rintro e W1 ⟨rfl,k1⟩
 have hB:=k1.heap K0.out.2 (fun h=>h)
 have x0:W1.cell? ⟨w.heap.size,0,none⟩=some (.string d.uid):=cells_at (j:=0) hB rfl
 have x1:W1.cell? ⟨w.heap.size,1,none⟩=some (.int .u8 d.kind):=cells_at (j:=1) hB rfl
 have x2:W1.cell? ⟨w.heap.size,2,none⟩=some (.slice pi d.ins.length ci):=cells_at (j:=2) hB rfl
 have x3:W1.cell? ⟨w.heap.size,3,none⟩=some (.int .u8 d.x.op):=cells_at (j:=3) hB rfl
 have x4:W1.cell? ⟨w.heap.size,4,none⟩=some (.int .i64 d.x.n):=cells_at (j:=4) hB rfl
 have x5:W1.cell? ⟨w.heap.size,5,none⟩=some (.slice p d.x.args.length cap):=cells_at (j:=5) hB rfl
 have x6:W1.cell? ⟨w.heap.size,6,none⟩=some (.int .i64 d.n):=cells_at (j:=6) hB rfl
 have K1:=Lib.hid (K0.out.1.trans k1)
 clear k1
 obtain⟨nm,hnm⟩: ∃nm,fK d.uid=nm:=⟨_,rfl⟩
 rw[hnm]at HD
 rw[hnm]
 clear hnm
 cases nm with
 |false=>
  have F:=Lib.hid (show bD at_ d=false by rw[HD.out,Fe (.inl rfl)])
  go_wp2_with fail
  go_ret
  exact⟨aU F.out.symm,K1.out⟩
 |true=>
  obtain⟨L,hL⟩: ∃L,d.ins.length=L:=⟨_,rfl⟩
  have hB':=hB
  rw[hL]at x2 i1
  have HL:=Lib.hid hL
  have HB:=Lib.hid hB'
  clear hL hB' hB
  go_wp2_with fail
  go_loopg [5] L (fun g vi W=> ∃k:Nat,k<=L/\vi= .int .i64 (k:Int)/\L-k<=g/\Kept none' W1 W/\(d.ins.take k).Nodup/\ ∀x∈d.ins.take k,0<=x/\x<(at_:Int))
  case atStart=>exact⟨0,by omega,rfl,by omega,Kept.refl _ _,by simp,by simp⟩
  case round=>
   obtain⟨k,hkl,rfl,hg,hkp,hnd,hall⟩:=hrel
   have x2:wr.cell? ⟨w.heap.size,2,none⟩=some (.slice pi L ci):=by rw[<-HL.out];exact cells_at (j:=2) (hkp.heap HB.out (fun h=>h)) rfl
   have KR:=Lib.hid (And.intro (K1.out.trans hkp) hkp)
   clear hkp
   by_cases hlt:k<L
   ·obtain⟨x,hx⟩: ∃x,d.ins[k]?=some x:=⟨_,List.getElem?_eq_getElem (by rw[HL.out];exact hlt)⟩
    obtain⟨hr,bi,oi,rfl,y0⟩:=I3.out k x hx
    have y:=KR.out.1.cell (p:=⟨bi,oi+k,none⟩) (fun h=>h) y0
    have Y0:=Lib.hid y0
    have G:=Lib.hid (And.intro hg (And.intro hnd (And.intro hall hx)))
    unfold aO at hr
    clear hg hnd hall hx y0
    by_cases c1:x<0
    ·have F:=Lib.hid (show bD at_ d=false by rw[HD.out,Fe (.inr (JO G.out.2.2.2 (.inl c1)))])
     go_wp2_with fail
     go_ret
     exact⟨aU F.out.symm,KR.out.1⟩
    by_cases c2:(at_:Int)<=x
    ·have F:=Lib.hid (show bD at_ d=false by rw[HD.out,Fe (.inr (JO G.out.2.2.2 (.inr c2)))])
     go_wp2_with fail
     go_ret
     exact⟨aU F.out.symm,KR.out.1⟩
    go_wp2_with fail
    clear x2 y
    generalize wr=WA at*
    go_loopg [6] k (fun g vi W=> ∃m:Nat,m<=k/\vi= .int .i64 (m:Int)/\k-m<=g/\Kept none' W1 W/\ ∀j y,j<m->d.ins[j]?=some y->y≠x)
    case atStart=>exact⟨0,by omega,rfl,by omega,KR.out.2,fun j y hj=>by omega⟩
    case round=>
     obtain⟨m,hmk,rfl,hgm,hkp,hne⟩:=hrel
     have x2:wr.cell? ⟨w.heap.size,2,none⟩=some (.slice (some ⟨bi,oi,none⟩) L ci):=by rw[<-HL.out];exact cells_at (j:=2) (hkp.heap HB.out (fun h=>h)) rfl
     have KS:=Lib.hid (And.intro (K1.out.trans hkp) hkp)
     have y:=KS.out.1.cell (p:=⟨bi,oi+k,none⟩) (fun h=>h) Y0.out
     clear hkp
     by_cases hmt:m<k
     ·obtain⟨u,hu⟩: ∃u,d.ins[m]?=some u:=⟨_,List.getElem?_eq_getElem (by rw[HL.out];omega)⟩
      obtain⟨hr2,bi',oi',e',z0⟩:=I3.out m u hu
      injection e' with e'
      injection e' with e1 e2
      subst e1 e2
      have z:=KS.out.1.cell (p:=⟨bi,oi+m,none⟩) (fun h=>h) z0
      have G2:=Lib.hid (And.intro hgm (And.intro hne hu))
      have hmL:m<L:=by omega
      clear hgm hne hu z0 hr2
      by_cases ce:x=u
      ·have be:(x==u)=true:=by simp[ce]
       have F:=Lib.hid (show bD at_ d=false by rw[HD.out,Fe (.inr (Ug G.out.2.2.2 (by rw[ce];exact G2.out.2.2) hmt))])
       clear ce
       go_wp2_with fail
       refine aZ [0,1,2,3,4,5,6,7,8,9,10] (fun W=>Kept none' wr W) (by kernel_rfl) (by kernel_rfl) rfl (Kept.refl _ _).drew ?_
       simp only[List.map_cons,List.map_nil,List.getElem?_toArray,List.getElem?_cons_zero,List.getElem?_cons_succ,Option.getD_some]
       iterate 11 (apply bC rfl rfl;(intro W hW;have z2:=hW.cell (fun h=>h) x2;have t0:=hW.cell (fun h=>h) y;have t1:=hW.cell (fun h=>h) z;go_simp;rfl);go_frame)
       refine fU (fun _=>(Kept.refl _ _).drew) ?_
       go_wp2_with fail
       go_ret
       exact⟨aU F.out.symm,KS.out.1.trans (Kept.refl _ _).drew⟩
      ·have be:(x==u)=false:=by simp[ce]
       have F:=Lib.hid (show∀j y,j<m+1->d.ins[j]?=some y->y≠x from fun j y hj hy=>by
        by_cases h:j<m
        ·exact G2.out.2.1 j y h hy
        ·have e1:j=m:=by omega
         subst e1
         rw[G2.out.2.2]at hy
         injection hy with hy
         rw[<-hy];exact fun e=>ce e.symm)
       clear ce
       go_wp2_with fail
       refine aZ [0,1,2,3,4,5,6,7,8,9,10] (fun W=>Kept none' wr W) (by kernel_rfl) (by kernel_rfl) rfl (Kept.refl _ _).drew ?_
       simp only[List.map_cons,List.map_nil,List.getElem?_toArray,List.getElem?_cons_zero,List.getElem?_cons_succ,Option.getD_some]
       iterate 11 (apply bC rfl rfl;(intro W hW;have z2:=hW.cell (fun h=>h) x2;have t0:=hW.cell (fun h=>h) y;have t1:=hW.cell (fun h=>h) z;go_simp;rfl);go_frame)
       refine fU (fun _=>(Kept.refl _ _).drew) ?_
       go_wp2_with fail
       go_roundg (k-(m+1))
       case rel=>exact⟨m+1,by omega,by go_num,Nat.le_refl _,KS.out.2.trans (Kept.refl _ _).drew,F.out⟩
       case measure=>have:=G2.out.1;omega
     ·obtain rfl:m=k:=by omega
      have N1:=Lib.hid (TL G.out.2.2.2 G.out.2.1 hne)
      have N2:=Lib.hid (show∀z∈d.ins.take (m+1),0<=z/\z<(at_:Int) by
       intro z hz
       rw[List.take_add_one,G.out.2.2.2]at hz
       rcases List.mem_append.1 hz with hz|hz
       ·exact G.out.2.2.1 z hz
       ·rw[show z=x by simpa using hz];omega)
      clear hne hgm
      go_wp2_with fail
      go_roundg (L-(m+1))
      case rel=>exact⟨m+1,by omega,by go_num,Nat.le_refl _,KS.out.2,N1.out,N2.out⟩
      case measure=>have:=G.out.1;omega
   ·obtain rfl:k=L:=by omega
    rw[List.take_of_length_le (by rw[HL.out];exact Nat.le_refl _)]at hnd hall
    obtain⟨n,hn⟩: ∃n,d.n=n:=⟨_,rfl⟩
    obtain⟨kd,hkd⟩: ∃kd,d.kind=kd:=⟨_,rfl⟩
    obtain⟨B,hBn⟩: ∃B,jO d.x=B:=⟨_,rfl⟩
    have HM:=Lib.hid (show bD at_ d=gy true kd k true B (fun acc ty=>lJ d.x acc ty) n by
     rw[HD.out,Uf hnd hall,HL.out,hn,hkd,hBn])
    have hBr:=KR.out.2.heap HB.out (fun h=>h)
    have HN:=Lib.hid (And.intro hn (And.intro hkd (And.intro hBn hBr)))
    rw[hkd]at hk0 hk1
    rw[hn]at afP
    have hB:=hBr
    dsimp only[o7]at hB
    rw[HL.out,hn,hkd]at hB
    have x1:wr.cell? ⟨w.heap.size,1,none⟩=some (.int .u8 kd):=cells_at (j:=1) hB rfl
    have x2:wr.cell? ⟨w.heap.size,2,none⟩=some (.slice pi k ci):=cells_at (j:=2) hB rfl
    have x3:wr.cell? ⟨w.heap.size,3,none⟩=some (.int .u8 d.x.op):=cells_at (j:=3) hB rfl
    have x4:wr.cell? ⟨w.heap.size,4,none⟩=some (.int .i64 d.x.n):=cells_at (j:=4) hB rfl
    have x5:wr.cell? ⟨w.heap.size,5,none⟩=some (.slice p d.x.args.length cap):=cells_at (j:=5) hB rfl
    have x6:wr.cell? ⟨w.heap.size,6,none⟩=some (.int .i64 n):=cells_at (j:=6) hB rfl
    clear hnd hall hg hn hkd hBr hB
    go_wp2_with fail
    have c:=Na _ d.x (.mk 0 0 []) _ _ wr (Nat.le_refl _) (bg.pure KR.out.1 H.out) (aaf wr)
    (with_reducible refine c.mono ?_)
    clear c
    rintro e W4 ⟨rfl,k4⟩
    rw[Uh,HN.out.2.2.1]
    have hB:=k4.heap HN.out.2.2.2 (fun h=>h)
    dsimp only[o7]at hB
    rw[HL.out,HN.out.1,HN.out.2.1]at hB
    have x0:W4.cell? ⟨w.heap.size,0,none⟩=some (.string d.uid):=cells_at (j:=0) hB rfl
    have x1:W4.cell? ⟨w.heap.size,1,none⟩=some (.int .u8 kd):=cells_at (j:=1) hB rfl
    have x2:W4.cell? ⟨w.heap.size,2,none⟩=some (.slice pi k ci):=cells_at (j:=2) hB rfl
    have x3:W4.cell? ⟨w.heap.size,3,none⟩=some (.int .u8 d.x.op):=cells_at (j:=3) hB rfl
    have x4:W4.cell? ⟨w.heap.size,4,none⟩=some (.int .i64 d.x.n):=cells_at (j:=4) hB rfl
    have x5:W4.cell? ⟨w.heap.size,5,none⟩=some (.slice p d.x.args.length cap):=cells_at (j:=5) hB rfl
    have x6:W4.cell? ⟨w.heap.size,6,none⟩=some (.int .i64 n):=cells_at (j:=6) hB rfl
    have K4:=Lib.hid (KR.out.1.trans k4)
    clear k4
    by_cases hk:1<=kd/\kd<=9
    ·obtain rfl|rfl|rfl|rfl|rfl|rfl|rfl|rfl|rfl:kd=1\/kd=2\/kd=3\/kd=4\/kd=5\/kd=6\/kd=7\/kd=8\/kd=9:=by omega
     ·by_cases cl:k=0
      ·have bl:((k:Int)==0)=true:=by simp[cl]
       cases B with
       |true=>
        have F:=Lib.hid (show bD at_ d=(n==0) by rw[HM.out];simp[gy,qE,cl])
        clear cl
        go_wp2_with fail
        go_ret
        exact⟨aU F.out.symm,K4.out⟩
       |false=>
        have F:=Lib.hid (show bD at_ d=false by rw[HM.out];simp[gy])
        clear cl
        go_wp2_with fail
        go_ret
        exact⟨aU F.out.symm,K4.out⟩
      ·have bl:((k:Int)==0)=false:=by
        have:(k:Int)≠0:=by omega
        simpa using this
       have F:=Lib.hid (show bD at_ d=false by rw[HM.out];simp[gy,cl])
       clear cl
       go_wp2_with fail
       go_ret
       exact⟨aU F.out.symm,K4.out⟩
     ·by_cases cl:k=1
      ·have bl:((k:Int)==1)=true:=by simp[cl]
       go_wp2_with fail
       have c:=sZ d.x false 1 _ W4 (bg.pure K4.out H.out)
       (with_reducible refine c.mono ?_)
       clear c
       rintro e W5 ⟨rfl,k5⟩
       have hB:=k5.heap hB (fun h=>h)
       have x0:W5.cell? ⟨w.heap.size,0,none⟩=some (.string d.uid):=cells_at (j:=0) hB rfl
       have x1:W5.cell? ⟨w.heap.size,1,none⟩=some (.int .u8 2):=cells_at (j:=1) hB rfl
       have x2:W5.cell? ⟨w.heap.size,2,none⟩=some (.slice pi k ci):=cells_at (j:=2) hB rfl
       have x3:W5.cell? ⟨w.heap.size,3,none⟩=some (.int .u8 d.x.op):=cells_at (j:=3) hB rfl
       have x4:W5.cell? ⟨w.heap.size,4,none⟩=some (.int .i64 d.x.n):=cells_at (j:=4) hB rfl
       have x5:W5.cell? ⟨w.heap.size,5,none⟩=some (.slice p d.x.args.length cap):=cells_at (j:=5) hB rfl
       have x6:W5.cell? ⟨w.heap.size,6,none⟩=some (.int .i64 n):=cells_at (j:=6) hB rfl
       have K5:=Lib.hid (K4.out.trans k5)
       clear k5
       obtain⟨B2,hB2⟩: ∃B2,lJ d.x false 1=B2:=⟨_,rfl⟩
       rw[hB2]
       cases B2 with
       |true=>
        have F:=Lib.hid (show bD at_ d=(n==0) by rw[HM.out];simp[gy,qE,cl,hB2])
        clear cl hB2
        go_wp2_with fail
        go_ret
        exact⟨aU F.out.symm,K5.out⟩
       |false=>
        have F:=Lib.hid (show bD at_ d=false by rw[HM.out];simp[gy,hB2])
        clear cl hB2
        go_wp2_with fail
        go_ret
        exact⟨aU F.out.symm,K5.out⟩
      ·have bl:((k:Int)==1)=false:=by
        have:(k:Int)≠1:=by omega
        simpa using this
       have F:=Lib.hid (show bD at_ d=false by rw[HM.out];simp[gy,cl])
       clear cl
       go_wp2_with fail
       go_ret
       exact⟨aU F.out.symm,K4.out⟩
     ·by_cases cl:k=1
      ·have bl:((k:Int)==1)=true:=by simp[cl]
       go_wp2_with fail
       have c:=sZ d.x false 2 _ W4 (bg.pure K4.out H.out)
       (with_reducible refine c.mono ?_)
       clear c
       rintro e W5 ⟨rfl,k5⟩
       have hB:=k5.heap hB (fun h=>h)
       have x0:W5.cell? ⟨w.heap.size,0,none⟩=some (.string d.uid):=cells_at (j:=0) hB rfl
       have x1:W5.cell? ⟨w.heap.size,1,none⟩=some (.int .u8 3):=cells_at (j:=1) hB rfl
       have x2:W5.cell? ⟨w.heap.size,2,none⟩=some (.slice pi k ci):=cells_at (j:=2) hB rfl
       have x3:W5.cell? ⟨w.heap.size,3,none⟩=some (.int .u8 d.x.op):=cells_at (j:=3) hB rfl
       have x4:W5.cell? ⟨w.heap.size,4,none⟩=some (.int .i64 d.x.n):=cells_at (j:=4) hB rfl
       have x5:W5.cell? ⟨w.heap.size,5,none⟩=some (.slice p d.x.args.length cap):=cells_at (j:=5) hB rfl
       have x6:W5.cell? ⟨w.heap.size,6,none⟩=some (.int .i64 n):=cells_at (j:=6) hB rfl
       have K5:=Lib.hid (K4.out.trans k5)
       clear k5
       obtain⟨B2,hB2⟩: ∃B2,lJ d.x false 2=B2:=⟨_,rfl⟩
       rw[hB2]
       cases B2 with
       |true=>
        have F:=Lib.hid (show bD at_ d=(n==0) by rw[HM.out];simp[gy,qE,cl,hB2])
        clear cl hB2
        go_wp2_with fail
        go_ret
        exact⟨aU F.out.symm,K5.out⟩
       |false=>
        have F:=Lib.hid (show bD at_ d=false by rw[HM.out];simp[gy,hB2])
        clear cl hB2
        go_wp2_with fail
        go_ret
        exact⟨aU F.out.symm,K5.out⟩
      ·have bl:((k:Int)==1)=false:=by
        have:(k:Int)≠1:=by omega
        simpa using this
       have F:=Lib.hid (show bD at_ d=false by rw[HM.out];simp[gy,cl])
       clear cl
       go_wp2_with fail
       go_ret
       exact⟨aU F.out.symm,K4.out⟩
     ·by_cases cl:k=1
      ·have bl:((k:Int)==1)=true:=by simp[cl]
       go_wp2_with fail
       have c:=sZ d.x false 1 _ W4 (bg.pure K4.out H.out)
       (with_reducible refine c.mono ?_)
       clear c
       rintro e W5 ⟨rfl,k5⟩
       have hB:=k5.heap hB (fun h=>h)
       have x0:W5.cell? ⟨w.heap.size,0,none⟩=some (.string d.uid):=cells_at (j:=0) hB rfl
       have x1:W5.cell? ⟨w.heap.size,1,none⟩=some (.int .u8 4):=cells_at (j:=1) hB rfl
       have x2:W5.cell? ⟨w.heap.size,2,none⟩=some (.slice pi k ci):=cells_at (j:=2) hB rfl
       have x3:W5.cell? ⟨w.heap.size,3,none⟩=some (.int .u8 d.x.op):=cells_at (j:=3) hB rfl
       have x4:W5.cell? ⟨w.heap.size,4,none⟩=some (.int .i64 d.x.n):=cells_at (j:=4) hB rfl
       have x5:W5.cell? ⟨w.heap.size,5,none⟩=some (.slice p d.x.args.length cap):=cells_at (j:=5) hB rfl
       have x6:W5.cell? ⟨w.heap.size,6,none⟩=some (.int .i64 n):=cells_at (j:=6) hB rfl
       have K5:=Lib.hid (K4.out.trans k5)
       clear k5
       obtain⟨B2,hB2⟩: ∃B2,lJ d.x false 1=B2:=⟨_,rfl⟩
       rw[hB2]
       cases B2 with
       |true=>
        have F:=Lib.hid (show bD at_ d=(n==0) by rw[HM.out];simp[gy,qE,cl,hB2])
        clear cl hB2
        go_wp2_with fail
        go_ret
        exact⟨aU F.out.symm,K5.out⟩
       |false=>
        have F:=Lib.hid (show bD at_ d=false by rw[HM.out];simp[gy,hB2])
        clear cl hB2
        go_wp2_with fail
        go_ret
        exact⟨aU F.out.symm,K5.out⟩
      ·have bl:((k:Int)==1)=false:=by
        have:(k:Int)≠1:=by omega
        simpa using this
       have F:=Lib.hid (show bD at_ d=false by rw[HM.out];simp[gy,cl])
       clear cl
       go_wp2_with fail
       go_ret
       exact⟨aU F.out.symm,K4.out⟩
     ·by_cases cl:k=1
      ·have bl:((k:Int)==1)=true:=by simp[cl]
       go_wp2_with fail
       have c:=sZ d.x false 1 _ W4 (bg.pure K4.out H.out)
       (with_reducible refine c.mono ?_)
       clear c
       rintro e W5 ⟨rfl,k5⟩
       have hB:=k5.heap hB (fun h=>h)
       have x0:W5.cell? ⟨w.heap.size,0,none⟩=some (.string d.uid):=cells_at (j:=0) hB rfl
       have x1:W5.cell? ⟨w.heap.size,1,none⟩=some (.int .u8 5):=cells_at (j:=1) hB rfl
       have x2:W5.cell? ⟨w.heap.size,2,none⟩=some (.slice pi k ci):=cells_at (j:=2) hB rfl
       have x3:W5.cell? ⟨w.heap.size,3,none⟩=some (.int .u8 d.x.op):=cells_at (j:=3) hB rfl
       have x4:W5.cell? ⟨w.heap.size,4,none⟩=some (.int .i64 d.x.n):=cells_at (j:=4) hB rfl
       have x5:W5.cell? ⟨w.heap.size,5,none⟩=some (.slice p d.x.args.length cap):=cells_at (j:=5) hB rfl
       have x6:W5.cell? ⟨w.heap.size,6,none⟩=some (.int .i64 n):=cells_at (j:=6) hB rfl
       have K5:=Lib.hid (K4.out.trans k5)
       clear k5
       obtain⟨B2,hB2⟩: ∃B2,lJ d.x false 1=B2:=⟨_,rfl⟩
       rw[hB2]
       cases B2 with
       |true=>
        have F:=Lib.hid (show bD at_ d=(n==0) by rw[HM.out];simp[gy,qE,cl,hB2])
        clear cl hB2
        go_wp2_with fail
        go_ret
        exact⟨aU F.out.symm,K5.out⟩
       |false=>
        have F:=Lib.hid (show bD at_ d=false by rw[HM.out];simp[gy,hB2])
        clear cl hB2
        go_wp2_with fail
        go_ret
        exact⟨aU F.out.symm,K5.out⟩
      ·have bl:((k:Int)==1)=false:=by
        have:(k:Int)≠1:=by omega
        simpa using this
       have F:=Lib.hid (show bD at_ d=false by rw[HM.out];simp[gy,cl])
       clear cl
       go_wp2_with fail
       go_ret
       exact⟨aU F.out.symm,K4.out⟩
     ·by_cases cl:k=1
      ·have bl:((k:Int)==1)=true:=by simp[cl]
       go_wp2_with fail
       have c:=sZ d.x true 1 _ W4 (bg.pure K4.out H.out)
       (with_reducible refine c.mono ?_)
       clear c
       rintro e W5 ⟨rfl,k5⟩
       have hB:=k5.heap hB (fun h=>h)
       have x0:W5.cell? ⟨w.heap.size,0,none⟩=some (.string d.uid):=cells_at (j:=0) hB rfl
       have x1:W5.cell? ⟨w.heap.size,1,none⟩=some (.int .u8 6):=cells_at (j:=1) hB rfl
       have x2:W5.cell? ⟨w.heap.size,2,none⟩=some (.slice pi k ci):=cells_at (j:=2) hB rfl
       have x3:W5.cell? ⟨w.heap.size,3,none⟩=some (.int .u8 d.x.op):=cells_at (j:=3) hB rfl
       have x4:W5.cell? ⟨w.heap.size,4,none⟩=some (.int .i64 d.x.n):=cells_at (j:=4) hB rfl
       have x5:W5.cell? ⟨w.heap.size,5,none⟩=some (.slice p d.x.args.length cap):=cells_at (j:=5) hB rfl
       have x6:W5.cell? ⟨w.heap.size,6,none⟩=some (.int .i64 n):=cells_at (j:=6) hB rfl
       have K5:=Lib.hid (K4.out.trans k5)
       clear k5
       obtain⟨B2,hB2⟩: ∃B2,lJ d.x true 1=B2:=⟨_,rfl⟩
       rw[hB2]
       cases B2 with
       |true=>
        have F:=Lib.hid (show bD at_ d=(n==0) by rw[HM.out];simp[gy,qE,cl,hB2])
        clear cl hB2
        go_wp2_with fail
        go_ret
        exact⟨aU F.out.symm,K5.out⟩
       |false=>
        have F:=Lib.hid (show bD at_ d=false by rw[HM.out];simp[gy,hB2])
        clear cl hB2
        go_wp2_with fail
        go_ret
        exact⟨aU F.out.symm,K5.out⟩
      ·have bl:((k:Int)==1)=false:=by
        have:(k:Int)≠1:=by omega
        simpa using this
       have F:=Lib.hid (show bD at_ d=false by rw[HM.out];simp[gy,cl])
       clear cl
       go_wp2_with fail
       go_ret
       exact⟨aU F.out.symm,K4.out⟩
     ·by_cases cl:k=1
      ·have bl:((k:Int)==1)=true:=by simp[cl]
       cases B with
       |true=>
        by_cases cn:1<=n
        ·have F:=Lib.hid (show bD at_ d=decide (n<=16) by rw[HM.out];simp[gy,cl,cn])
         clear cl
         go_wp2_with fail
         go_ret
         exact⟨aU F.out.symm,K4.out⟩
        ·have F:=Lib.hid (show bD at_ d=false by rw[HM.out];simp[gy,cn])
         clear cl
         go_wp2_with fail
         go_ret
         exact⟨aU F.out.symm,K4.out⟩
       |false=>
        have F:=Lib.hid (show bD at_ d=false by rw[HM.out];simp[gy])
        clear cl
        go_wp2_with fail
        go_ret
        exact⟨aU F.out.symm,K4.out⟩
      ·have bl:((k:Int)==1)=false:=by
        have:(k:Int)≠1:=by omega
        simpa using this
       have F:=Lib.hid (show bD at_ d=false by rw[HM.out];simp[gy,cl])
       clear cl
       go_wp2_with fail
       go_ret
       exact⟨aU F.out.symm,K4.out⟩
     ·by_cases cl:k=2
      ·have bl:((k:Int)==2)=true:=by simp[cl]
       cases B with
       |true=>
        have F:=Lib.hid (show bD at_ d=(n==0) by rw[HM.out];simp[gy,qE,cl])
        clear cl
        go_wp2_with fail
        go_ret
        exact⟨aU F.out.symm,K4.out⟩
       |false=>
        have F:=Lib.hid (show bD at_ d=false by rw[HM.out];simp[gy])
        clear cl
        go_wp2_with fail
        go_ret
        exact⟨aU F.out.symm,K4.out⟩
      ·have bl:((k:Int)==2)=false:=by
        have:(k:Int)≠2:=by omega
        simpa using this
       by_cases VO:k=3
       ·have bl3:((k:Int)==3)=true:=by simp[VO]
        cases B with
        |true=>
         have F:=Lib.hid (show bD at_ d=(n==0) by rw[HM.out];simp[gy,qE,VO])
         clear VO
         go_wp2_with fail
         go_ret
         exact⟨aU F.out.symm,K4.out⟩
        |false=>
         have F:=Lib.hid (show bD at_ d=false by rw[HM.out];simp[gy])
         clear VO
         go_wp2_with fail
         go_ret
         exact⟨aU F.out.symm,K4.out⟩
       ·have bl3:((k:Int)==3)=false:=by
         have:(k:Int)≠3:=by omega
         simpa using this
        have F:=Lib.hid (show bD at_ d=false by rw[HM.out];simp[gy,cl,VO])
        clear cl VO
        go_wp2_with fail
        go_ret
        exact⟨aU F.out.symm,K4.out⟩
     ·by_cases cl:k=1
      ·have bl:((k:Int)==1)=true:=by simp[cl]
       cases B with
       |true=>
        have F:=Lib.hid (show bD at_ d=(n==0) by rw[HM.out];simp[gy,qE,cl])
        clear cl
        go_wp2_with fail
        go_ret
        exact⟨aU F.out.symm,K4.out⟩
       |false=>
        have F:=Lib.hid (show bD at_ d=false by rw[HM.out];simp[gy])
        clear cl
        go_wp2_with fail
        go_ret
        exact⟨aU F.out.symm,K4.out⟩
      ·have bl:((k:Int)==1)=false:=by
        have:(k:Int)≠1:=by omega
        simpa using this
       have F:=Lib.hid (show bD at_ d=false by rw[HM.out];simp[gy,cl])
       clear cl
       go_wp2_with fail
       go_ret
       exact⟨aU F.out.symm,K4.out⟩
    ·have F:=Lib.hid (show bD at_ d=false by
      rw[HM.out];unfold gy
      rw[if_neg (by simp),if_neg (by simp),if_neg (by omega),if_neg (by omega),if_neg (by omega),if_neg (by omega),if_neg (by omega),if_neg (by omega),if_neg (by omega)])
     have b1:(kd==1)=false:=by simp;omega
     have b2:(kd==2)=false:=by simp;omega
     have b3:(kd==3)=false:=by simp;omega
     have b4:(kd==4)=false:=by simp;omega
     have b5:(kd==5)=false:=by simp;omega
     have b6:(kd==6)=false:=by simp;omega
     have b7:(kd==7)=false:=by simp;omega
     have b8:(kd==8)=false:=by simp;omega
     have b9:(kd==9)=false:=by simp;omega
     clear hk
     go_wp2_with fail
     go_ret
     exact⟨aU F.out.symm,K4.out⟩
end Go.Proofs.YtakhobfamnjnoaaGreatDoor
