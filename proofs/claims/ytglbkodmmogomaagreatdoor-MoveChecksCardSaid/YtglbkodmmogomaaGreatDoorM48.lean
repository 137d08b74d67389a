/- Heavy: what it tells of a job, states and records, if it says no. -/
import Derived.Test.YtglbkodmmogomaaGreatDoorM29
import Derived.Test.YtglbkodmmogomaaGreatDoorM20
set_option linter.unusedVariables false
set_option linter.unusedSimpArgs false
set_option maxHeartbeats 1000000
set_option maxRecDepth 100000
namespace Go.Proofs.YtglbkodmmogomaaGreatDoor
open Go Go.RowKit
attribute [local irreducible] bH dP H2.bW
def vY (j:Jb):Prop:=j.nodes.length<=40/\ ∀d∈j.nodes,d.uid.size<=1000
def VJ (w:World)(j:Jb)(e:Ending)(w':World):Prop:= ∃b:Bool,e= .returned (.bool b)/\Kept none' w w'/\(b=false->vY j)
def VK (w:World)(j:Jb)(n r:Nat)(e:Ending)(w':World):Prop:= ∃b:Bool,e= .returned (.bool b)/\Kept none' w w'/\(b=false->vY j/\n<=40/\r<=60)
theorem Gi (j:Jb)(a:Array Value)(w:World)(h:fA w a j):Calls Tryz.prog 38 #[.agg a] w (VJ w j):=by
 obtain⟨v,rfl,hn,hp⟩:=h
 obtain⟨na,cap,rfl,h1,h2,h3⟩:=hn.at
 unfold maxLen at h2
 have kA:Kept none' w (w.alloc (.cells #[.int .i64 j.par, .slice na j.nodes.length cap] 24)):=(Kept.refl _ _).alloc _
 have b1:(w.alloc (.cells #[.int .i64 j.par, .slice na j.nodes.length cap] 24)).cell? ⟨w.heap.size,1,none⟩=some (.slice na j.nodes.length cap):=by simp
 have H3:=Lib.hid h3
 have KA:=Lib.hid kA
 clear h3 hn hp kA
 by_cases hl:40<j.nodes.length
 ·go_enter Tryz.func38,Tryz.ntmps38
  go_wp2_with fail
  go_ret
  exact⟨true,rfl,KA.out,fun h=>by cases h⟩
 ·go_enter Tryz.func38,Tryz.ntmps38
  go_wp2_with fail
  obtain⟨W0,hW0⟩: ∃W0,w.alloc (.cells #[.int .i64 j.par, .slice na j.nodes.length cap] 24)=W0:=⟨_,rfl⟩
  rw[hW0]at KA b1⊢
  have B1:=Lib.hid b1
  clear hW0 b1
  go_loopg [3,13] j.nodes.length (fun g vn vi wr=> ∃(k:Nat)(n:Int),k<=j.nodes.length/\vi= .int .i64 (k:Int)/\vn= .int .i64 n/\j.nodes.length-k<=g/\0<=n/\n<=3000/\Kept none' w wr/\ ∀(m:Nat)(d:JN),m<k->j.nodes[m]?=some d->d.uid.size<=1000)
  case atStart=>exact⟨0,0,by omega,rfl,rfl,by omega,by omega,by omega,KA.out,fun m d hm=>by omega⟩
  case round=>
   obtain⟨k,n,hkl,rfl,rfl,hg,hn1,hn2,hkp,hus⟩:=hrel
   have US:=Lib.hid hus
   clear hus
   by_cases hlt:k<j.nodes.length
   ·obtain⟨d,hd⟩: ∃d,j.nodes[k]?=some d:=⟨_,List.getElem?_eq_getElem hlt⟩
    obtain⟨b,off,pi,ci,p,cap',rfl,hc,hj⟩:=H3.out k d hd
    obtain⟨c0,c1,c2,c3,c4,c5,c6⟩:=hc.kept hkp (fun h=>h)
    have kA:Kept none' wr (wr.alloc (.cells (aZ d pi ci p cap') 42)):=(Kept.refl _ _).alloc _
    have hx:aC (wr.alloc (.cells (aZ d pi ci p cap') 42)) #[.int .u8 d.x.op, .int .i64 d.x.n, .slice p d.x.args.length cap'] d.x:=by
     have hx0:aC w #[.int .u8 d.x.op, .int .i64 d.x.n, .slice p d.x.args.length cap'] d.x:=by
      obtain⟨_,_,_,_,e,hx,_⟩:=hj
      simp only[Array.mk.injEq,List.cons.injEq,Value.slice.injEq,and_true,true_and]at e
      obtain⟨-,e1,e2⟩:=e
      rw[e1,e2]
      exact hx
     exact aC.pure (hkp.trans kA) hx0
    have cz:=size_any (SizeOf.sizeOf d.x) d.x _ _ (Nat.le_refl _) hx
    have nB:(wr.alloc (.cells (aZ d pi ci p cap') 42)).heap[wr.heap.size]?=some (.cells (aZ d pi ci p cap') 42 (0,0)):=heap_alloc_new _ _
    have HC:=Lib.hid (And.intro hg (And.intro hkp (And.intro kA (And.intro nB hj))))
    have HD:=Lib.hid hd
    clear hg hkp kA nB hj hc hx hd
    go_wp2_with fail
    (with_reducible refine cz.mono ?_)
    clear cz
    rintro e w2 ⟨z,rfl,hz1,hz2,k2⟩
    have TF:=k2.heap HC.out.2.2.2.1 (fun h=>h)
    have z0:w2.cell? ⟨wr.heap.size,0,none⟩=some (.string d.uid):=cells_at TF rfl
    have z2:w2.cell? ⟨wr.heap.size,2,none⟩=some (.slice pi d.ins.length ci):=cells_at TF rfl
    have K2:=Lib.hid (HC.out.2.1.trans (HC.out.2.2.1.trans k2))
    have hu:d.uid.size<=2^63-1:=by have:=HC.out.2.2.2.2;obtain⟨_,_,_,_,_,_,_,_,_,_,_,h⟩:=this;unfold maxLen at h;exact h
    clear k2 TF
    by_cases q1:40<d.ins.length
    ·go_wp2_with fail
     go_ret
     exact⟨true,rfl,K2.out,fun h=>by cases h⟩
    ·by_cases q2:1000<d.uid.size
     ·go_wp2_with fail
      go_ret
      exact⟨true,rfl,K2.out,fun h=>by cases h⟩
     ·by_cases q3:3000<n+z
      ·go_wp2_with fail
       go_ret
       exact⟨true,rfl,K2.out,fun h=>by cases h⟩
      ·go_wp2_with fail
       go_roundg (j.nodes.length-(k+1))
       case rel=>exact⟨k+1,n+z,by omega,by go_num,rfl,Nat.le_refl _,by omega,by omega,K2.out,fun m e hm he=>by
        by_cases hmk:m<k
        ·exact US.out m e hmk he
        ·obtain rfl:m=k:=by omega
         rw[HD.out]at he;injection he with he;subst he;omega⟩
       case measure=>have:=HC.out.1;omega
   ·have HK:=Lib.hid hkp
    clear hkp
    go_wp2_with fail
    go_ret
    exact⟨false,rfl,HK.out,fun _=>⟨by omega,fun d hd=>by
     obtain⟨m,hm⟩:=List.mem_iff_getElem?.1 hd
     exact US.out m d (by have:=(List.getElem?_eq_some_iff.1 hm).1;omega) hm⟩⟩
theorem Au (j:Jb)(a:Array Value)(sv:Value)(l:List St)(rv:Value)(R:List Rec)(w:World)(h:fA w a j)(hs:Reads w 2 sv (dK l))(hsz: ∀s∈l,s.1.size<=maxLen/\s.2.size<=maxLen)(hr:Reads w 3 rv (recs R)):
 Calls Tryz.prog 8 #[.agg a,sv,rv] w (VK w j l.length R.length):=by
 have hJ:=h
 obtain⟨v,rfl,hn,hp⟩:=h
 obtain⟨na,cap,rfl,h1,h2,h3⟩:=hn.at
 obtain⟨sa,scap,rfl,s1,s2,s3⟩:=hs.mV
 obtain⟨ra,rcap,rfl,r1,r2,r3⟩:=hr.recAt
 unfold maxLen at h2 s2 r2
 have kA:Kept none' w (w.alloc (.cells #[.int .i64 j.par, .slice na j.nodes.length cap] 24)):=(Kept.refl _ _).alloc _
 have tA:(w.alloc (.cells #[.int .i64 j.par, .slice na j.nodes.length cap] 24)).heap[w.heap.size]?=some (.cells #[.int .i64 j.par, .slice na j.nodes.length cap] 24 (0,0)):=heap_alloc_new _ _
 have H3:=Lib.hid (And.intro hJ (And.intro s3 hsz))
 have KA:=Lib.hid (And.intro kA tA)
 clear h3 hn hp kA hJ s3 hsz hs hr r3 tA
 go_enter Tryz.func8,Tryz.ntmps8
 go_wp2_with fail
 obtain⟨W0,hW0⟩: ∃W0,w.alloc (.cells #[.int .i64 j.par, .slice na j.nodes.length cap] 24)=W0:=⟨_,rfl⟩
 rw[hW0]at KA⊢
 clear hW0
 go_loopg [11] l.length (fun g vi wr=> ∃k:Nat,k<=l.length/\vi= .int .i64 (k:Int)/\l.length-k<=g/\Kept none' W0 wr)
 case atStart=>exact⟨0,by omega,rfl,by omega,Kept.refl _ _⟩
 case round=>
  obtain⟨k,hkl,rfl,hg,hkp⟩:=hrel
  by_cases hlt:k<l.length
  ·obtain⟨s,hs⟩: ∃s,l[k]?=some s:=⟨_,List.getElem?_eq_getElem hlt⟩
   obtain⟨bs,BG,rfl,hcs⟩:=H3.out.2.1.resolve_left (fun h=>by rw[h]at hlt;simp at hlt)
   have kw:=KA.out.1.trans hkp
   have y0:=kw.cell (fun h=>h) (hcs k s hs).1
   have y1:=kw.cell (fun h=>h) (hcs k s hs).2
   obtain⟨hz0,hz1⟩:=H3.out.2.2 s (List.mem_of_getElem? hs)
   unfold maxLen at hz0 hz1
   have G:=Lib.hid (And.intro hg (And.intro hkp (And.intro kw (hkp.alloc (.cells #[.string s.1, .string s.2] 35)))))
   clear hg hkp kw hcs hs
   by_cases q1:20000<s.2.size
   ·go_wp2_with fail
    go_ret
    exact⟨true,rfl,KA.out.1.trans G.out.2.2.2,fun h=>by cases h⟩
   ·by_cases q2:1000<s.1.size
    ·go_wp2_with fail
     go_ret
     exact⟨true,rfl,KA.out.1.trans G.out.2.2.2,fun h=>by cases h⟩
    ·go_wp2_with fail
     go_roundg (l.length-(k+1))
     case rel=>exact⟨k+1,by omega,by go_num,Nat.le_refl _,G.out.2.2.2⟩
     case measure=>have:=G.out.1;omega
  ·have tw:=hkp.heap KA.out.2 (fun h=>h)
   have x0:=cells_at tw (j:=0) rfl
   have x1:=cells_at tw (j:=1) rfl
   have hB:w.heap.size<wr.heap.size:=(Array.getElem?_eq_some_iff.1 tw).1
   have ch:=Gi j _ wr (H3.out.1.pure (KA.out.1.trans hkp))
   have G:=Lib.hid (KA.out.1.trans hkp)
   clear hkp tw hg
   go_wp2_with fail
   (with_reducible refine ch.mono ?_)
   clear ch
   rintro e w2 ⟨b,rfl,k2,hjs⟩
   have JS:=Lib.hid hjs
   clear hjs
   have F:=Lib.hid (G.out.trans k2)
   clear k2
   by_cases q0:b=true
   ·subst q0
    go_wp2_with fail
    go_ret
    exact⟨true,rfl,F.out,fun h=>by cases h⟩
   ·have q0':b=false:=by simpa using q0
    subst q0'
    clear q0
    by_cases q1:40<l.length
    ·go_wp2_with fail
     go_ret
     exact⟨true,rfl,F.out,fun h=>by cases h⟩
    ·go_wp2_with fail
     go_ret
     refine⟨_,rfl,F.out,fun h=>⟨by simpa using JS.out,by omega,?_⟩⟩
     simp only[Bool.or_eq_false_iff,decide_eq_false_iff_not]at h
     omega
end Go.Proofs.YtglbkodmmogomaaGreatDoor
