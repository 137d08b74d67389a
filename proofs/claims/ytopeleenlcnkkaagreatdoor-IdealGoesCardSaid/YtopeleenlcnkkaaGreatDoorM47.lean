/- What each law of the ideals ends in: the document's job, fed twice. -/
import Derived.Test.YtopeleenlcnkkaaGreatDoorM45
import Derived.Test.YtopeleenlcnkkaaGreatDoorM46
import Derived.Test.YtopeleenlcnkkaaGreatDoorM44
set_option linter.unusedVariables false
set_option linter.unusedSimpArgs false
set_option maxHeartbeats 4000000
set_option maxRecDepth 100000
namespace Go.Proofs.YtopeleenlcnkkaaGreatDoor
section
open Go Go.RowKit
attribute [local irreducible] bU dW H2.dG
theorem bY.Om {nodes:List JN}{Ts Us:Tabs}(h:bY nodes Ts)(hu:bY nodes Us){i:Nat}{T:Tab}(hT:Ts[i]?=some (some T)): ∃U,Us[i]?=some (some U):=by
 have hi:i<nodes.length:=by rw[<-h.len];exact(List.getElem?_eq_some_iff.1 hT).1
 obtain⟨d,hd⟩: ∃d,nodes[i]?=some d:=⟨_,List.getElem?_eq_getElem hi⟩
 cases hs:stateful d.kind with
 |false=>rw[h.not i d hd hs]at hT;cases hT
 |true=>obtain⟨U,hU,_⟩:=hu.has i d hd hs;exact⟨U,hU⟩
theorem bY.newT {nodes:List JN}{Ts Us:Tabs}(h:bY nodes Ts)(hu:bY nodes Us){n:Nat}{pm:Nat->Nat×Nat}(hn:mP n Ts pm):mP n Us pm:=fun q U hU=>by
 obtain⟨T,hT⟩:=hu.Om h hU
 exact hn q T hT
theorem Kept.maps {w0 w w':World}{Ts:Tabs}{pm:Nat->Nat×Nat}(h:Kept none' w0 w)(hn:mP w0.heap.size Ts pm)(hk:Kept (jg Ts pm) w w'):Kept none' w0 w':=
 h.new hk (fun i hi hs=>by
  obtain⟨q,T,hT,rfl⟩:=hs
  have:=hn q T hT
  omega)
def uo:Jb:=⟨2,oP⟩
theorem Ej:dw uo=true:=by kernel_rfl
theorem Fe:dH uo []= .ok [none,some [],none]:=by kernel_rfl
theorem CV:iU oP [none,some [],none] 5 2=([⟨1,5,2⟩],[none,some [(5,2,[])],none]):=by kernel_rfl
theorem PS:(iU oP [none,some [(5,2,[])],none] 5 4).1=[⟨1,5,6⟩]:=by kernel_rfl
theorem dV.jr {w:World}{v:Value}{L:List JN}(h:dV w v L):JR L:=by
 obtain⟨cs,h1,h2,h3⟩:=h
 intro d hd env he
 obtain⟨i,hi⟩:=List.getElem?_of_mem hd
 obtain⟨pi,ci,p,c,_,h6,_⟩:=h3 i d hi
 exact zY h6 he
theorem sK (w:World)(m:Int)(hm:w.cell? ⟨0,0,none⟩=some (.int .i64 m)):Calls Tryz.prog 22 #[] w (Gives w (.bool true)):=by
 have c1:=BN PU 2 oP w CU m hm
 clear hm
 go_enter Tryz.func22,Tryz.ntmps22
 go_wp2_with fail
 (with_reducible refine c1.mono ?_)
 clear c1
 rintro e w1 ⟨v,J,lo,D,rfl,hj,hJ,k1⟩
 have c2:=BK uo _ w1 hj.job
 unfold iI at c2
 rw[Fe]at c2
 dsimp only at c2
 have Em:JR oP:=by obtain⟨v',_,hn,_⟩:=hj.job;exact hn.jr
 have K1:=Lib.hid k1
 clear hj hJ k1
 go_wp2_with fail
 (with_reducible refine c2.mono ?_)
 clear c2
 rintro e w2 ⟨b,mm,pm,rfl,hi,hmm,hnt,k2⟩
 have hT0:=(xH Fe).2
 have c3:=pG uo b mm _ pm 5 2 w2 hi Ej Em hT0 (.small (by simp) (by simp)) (.small (by simp) (by simp))
 unfold QV at c3
 rw[show uo.nodes=oP from rfl,CV]at c3
 dsimp only at c3
 have K2:=Lib.hid (And.intro k2 hnt)
 clear hi hmm hnt k2
 go_wp2_with fail
 (with_reducible refine c3.mono ?_)
 clear c3
 rintro e w3 ⟨v3,rfl,hr3,hb3,hi3,k3⟩
 have hT1:bY oP [none,some [(5,2,[])],none]:=by
  have:=(pI Ej (show JR uo.nodes from Em) hT0 (key:=5) (val:=2) (.small (by simp) (by simp)) (.small (by simp) (by simp))).1
  rwa[show uo.nodes=oP from rfl,CV]at this
 have ka:Kept none' w3 (w3.alloc (.cells #[.int .i64 1, .int .i64 5, .int .i64 2] 44)):=(Kept.refl _ _).alloc _
 have c4:=Cc v3 _ _ [⟨1,5,2⟩] _ (hr3.kept ka (fun _ _ h=>h)) (Reads.lit w3 [.int .i64 1, .int .i64 5, .int .i64 2] 44 3 1 rfl (by unfold maxLen;omega))
 rw[show Md [⟨1,5,2⟩] [⟨1,5,2⟩]=true by decide]at c4
 have K3:=Lib.hid (And.intro hi3 (And.intro (Kept.maps (Kept.refl none' w1|>.trans K2.out.1) K2.out.2 k3) (And.intro ka hT1)))
 clear hr3 hb3 hi3 k3 ka hT1
 go_wp2_with fail
 (with_reducible refine c4.mono ?_)
 clear c4
 rintro e w4 ⟨rfl,k4⟩
 have c5:=pG uo b mm _ pm 5 4 w4 (K3.out.1.pure (K3.out.2.2.1.trans k4)) Ej Em K3.out.2.2.2 (.small (by simp) (by simp)) (.small (by simp) (by simp))
 unfold QV at c5
 rw[show uo.nodes=oP from rfl,PS]at c5
 have K4:=Lib.hid k4
 clear k4
 go_wp2_with fail
 (with_reducible refine c5.mono ?_)
 clear c5
 rintro e w5 ⟨v5,rfl,hr5,-,-,k5⟩
 have ka:Kept none' w5 (w5.alloc (.cells #[.int .i64 1, .int .i64 5, .int .i64 6] 44)):=(Kept.refl _ _).alloc _
 have c6:=Cc v5 _ _ [⟨1,5,6⟩] _ (hr5.kept ka (fun _ _ h=>h)) (Reads.lit w5 [.int .i64 1, .int .i64 5, .int .i64 6] 44 3 1 rfl (by unfold maxLen;omega))
 rw[show Md [⟨1,5,6⟩] [⟨1,5,6⟩]=true by decide]at c6
 have K5:=Lib.hid (And.intro (Kept.maps (K3.out.2.1.trans (K3.out.2.2.1.trans K4.out)) (hT0.newT K3.out.2.2.2 K2.out.2) k5) ka)
 clear hr5 k5 ka
 go_wp2_with fail
 (with_reducible refine c6.mono ?_)
 clear c6
 rintro e w6 ⟨rfl,k6⟩
 have F:=Lib.hid (K1.out.trans (K5.out.1.trans (K5.out.2.trans k6)))
 clear k6
 go_wp2_with fail
 go_ret
 exact⟨rfl,F.out⟩
def Y6 (w:World)(e:Ending)(w':World):Prop:= ∃b:Bool,e= .returned (.bool b)/\Kept none' w w'
theorem NW (j:Jb)(a:Array Value)(w:World)(h:gI w a j):Calls Tryz.prog 39 #[.agg a] w (Y6 w):=by
 obtain⟨v,rfl,hn,hp⟩:=h
 obtain⟨na,cap,rfl,h1,h2,h3⟩:=hn.at
 unfold maxLen at h2
 have kA:Kept none' w (w.alloc (.cells #[.int .i64 j.par, .slice na j.nodes.length cap] 24)):=(Kept.refl _ _).alloc _
 have b1:(w.alloc (.cells #[.int .i64 j.par, .slice na j.nodes.length cap] 24)).cell? ⟨w.heap.size,1,none⟩=some (.slice na j.nodes.length cap):=by simp
 have H3:=Lib.hid h3
 have KA:=Lib.hid kA
 clear h3 hn hp kA
 by_cases hl:40<j.nodes.length
 ·go_enter Tryz.func39,Tryz.ntmps39
  go_wp2_with fail
  go_ret
  exact⟨true,rfl,KA.out⟩
 ·go_enter Tryz.func39,Tryz.ntmps39
  go_wp2_with fail
  obtain⟨W0,hW0⟩: ∃W0,w.alloc (.cells #[.int .i64 j.par, .slice na j.nodes.length cap] 24)=W0:=⟨_,rfl⟩
  rw[hW0]at KA b1⊢
  have B1:=Lib.hid b1
  clear hW0 b1
  go_loopg [3,13] j.nodes.length (fun g vn vi wr=> ∃(k:Nat)(n:Int),k<=j.nodes.length/\vi= .int .i64 (k:Int)/\vn= .int .i64 n/\j.nodes.length-k<=g/\0<=n/\n<=3000/\Kept none' w wr)
  case atStart=>exact⟨0,0,by omega,rfl,rfl,by omega,by omega,by omega,KA.out⟩
  case round=>
   obtain⟨k,n,hkl,rfl,rfl,hg,hn1,hn2,hkp⟩:=hrel
   by_cases hlt:k<j.nodes.length
   ·obtain⟨d,hd⟩: ∃d,j.nodes[k]?=some d:=⟨_,List.getElem?_eq_getElem hlt⟩
    obtain⟨b,off,pi,ci,p,cap',rfl,hc,hj⟩:=H3.out k d hd
    obtain⟨c0,c1,c2,c3,c4,c5,c6⟩:=hc.kept hkp (fun h=>h)
    have kA:Kept none' wr (wr.alloc (.cells (bF d pi ci p cap') 97)):=(Kept.refl _ _).alloc _
    have hx:aF (wr.alloc (.cells (bF d pi ci p cap') 97)) #[.int .u8 d.x.op, .int .i64 d.x.n, .slice p d.x.args.length cap'] d.x:=by
     have hx0:aF w #[.int .u8 d.x.op, .int .i64 d.x.n, .slice p d.x.args.length cap'] d.x:=by
      obtain⟨_,_,_,_,e,hx,_⟩:=hj
      simp only[Array.mk.injEq,List.cons.injEq,Value.slice.injEq,and_true,true_and]at e
      obtain⟨-,e1,e2⟩:=e
      rw[e1,e2]
      exact hx
     exact aF.pure (hkp.trans kA) hx0
    have cz:=size_any (SizeOf.sizeOf d.x) d.x _ _ (Nat.le_refl _) hx
    have nB:(wr.alloc (.cells (bF d pi ci p cap') 97)).heap[wr.heap.size]?=some (.cells (bF d pi ci p cap') 97 (0,0)):=heap_alloc_new _ _
    have HC:=Lib.hid (And.intro hg (And.intro hkp (And.intro kA (And.intro nB hj))))
    clear hg hkp kA nB hj hc hx hd
    go_wp2_with fail
    (with_reducible refine cz.mono ?_)
    clear cz
    rintro e w2 ⟨z,rfl,hz1,hz2,k2⟩
    have nB2:=k2.heap HC.out.2.2.2.1 (fun h=>h)
    have z0:w2.cell? ⟨wr.heap.size,0,none⟩=some (.string d.uid):=cells_at nB2 rfl
    have z2:w2.cell? ⟨wr.heap.size,2,none⟩=some (.slice pi d.ins.length ci):=cells_at nB2 rfl
    have K2:=Lib.hid (HC.out.2.1.trans (HC.out.2.2.1.trans k2))
    have hu:d.uid.size<=2^63-1:=by have:=HC.out.2.2.2.2;obtain⟨_,_,_,_,_,_,_,_,_,_,_,h⟩:=this;unfold maxLen at h;exact h
    clear k2 nB2
    by_cases q1:40<d.ins.length
    ·go_wp2_with fail
     go_ret
     exact⟨true,rfl,K2.out⟩
    ·by_cases q2:1000<d.uid.size
     ·go_wp2_with fail
      go_ret
      exact⟨true,rfl,K2.out⟩
     ·by_cases q3:3000<n+z
      ·go_wp2_with fail
       go_ret
       exact⟨true,rfl,K2.out⟩
      ·go_wp2_with fail
       go_roundg (j.nodes.length-(k+1))
       case rel=>exact⟨k+1,n+z,by omega,by go_num,rfl,Nat.le_refl _,by omega,by omega,K2.out⟩
       case measure=>have:=HC.out.1;omega
   ·have HK:=Lib.hid hkp
    clear hkp
    go_wp2_with fail
    go_ret
    exact⟨false,rfl,HK.out⟩
theorem zM (j:Jb)(a:Array Value)(sv:Value)(l:List St)(rv:Value)(R:List Rec)(w:World)(h:gI w a j)(hs:Reads w 2 sv (fU l))(hsz: ∀s∈l,s.1.size<=maxLen/\s.2.size<=maxLen)(hr:Reads w 3 rv (recs R)):
 Calls Tryz.prog 15 #[.agg a,sv,rv] w (Y6 w):=by
 have hJ:=h
 obtain⟨v,rfl,hn,hp⟩:=h
 obtain⟨na,cap,rfl,h1,h2,h3⟩:=hn.at
 obtain⟨sa,scap,rfl,s1,s2,s3⟩:=hs.jM
 obtain⟨ra,o7,rfl,r1,r2,r3⟩:=hr.recAt
 unfold maxLen at h2 s2 r2
 have kA:Kept none' w (w.alloc (.cells #[.int .i64 j.par, .slice na j.nodes.length cap] 24)):=(Kept.refl _ _).alloc _
 have tA:(w.alloc (.cells #[.int .i64 j.par, .slice na j.nodes.length cap] 24)).heap[w.heap.size]?=some (.cells #[.int .i64 j.par, .slice na j.nodes.length cap] 24 (0,0)):=heap_alloc_new _ _
 have H3:=Lib.hid (And.intro hJ (And.intro s3 hsz))
 have KA:=Lib.hid (And.intro kA tA)
 clear h3 hn hp kA hJ s3 hsz hs hr r3 tA
 go_enter Tryz.func15,Tryz.ntmps15
 go_wp2_with fail
 obtain⟨W0,hW0⟩: ∃W0,w.alloc (.cells #[.int .i64 j.par, .slice na j.nodes.length cap] 24)=W0:=⟨_,rfl⟩
 rw[hW0]at KA⊢
 clear hW0
 go_loopg [11] l.length (fun g vi wr=> ∃k:Nat,k<=l.length/\vi= .int .i64 (k:Int)/\l.length-k<=g/\Kept none' W0 wr)
 case atStart=>exact⟨0,by omega,rfl,by omega,Kept.refl _ _⟩
 case round=>
  obtain⟨k,hkl,rfl,hg,hkp⟩:=hrel
  by_cases hlt:k<l.length
  ·obtain⟨s,hs⟩: ∃s,l[k]?=some s:=⟨_,List.getElem?_eq_getElem hlt⟩
   obtain⟨bs,Ew,rfl,hcs⟩:=H3.out.2.1.resolve_left (fun h=>by rw[h]at hlt;simp at hlt)
   have kw:=KA.out.1.trans hkp
   have y0:=kw.cell (fun h=>h) (hcs k s hs).1
   have y1:=kw.cell (fun h=>h) (hcs k s hs).2
   obtain⟨hz0,hz1⟩:=H3.out.2.2 s (List.mem_of_getElem? hs)
   unfold maxLen at hz0 hz1
   have G:=Lib.hid (And.intro hg (And.intro hkp (And.intro kw (hkp.alloc (.cells #[.string s.1, .string s.2] 33)))))
   clear hg hkp kw hcs hs
   by_cases q1:20000<s.2.size
   ·go_wp2_with fail
    go_ret
    exact⟨true,rfl,KA.out.1.trans G.out.2.2.2⟩
   ·by_cases q2:1000<s.1.size
    ·go_wp2_with fail
     go_ret
     exact⟨true,rfl,KA.out.1.trans G.out.2.2.2⟩
    ·go_wp2_with fail
     go_roundg (l.length-(k+1))
     case rel=>exact⟨k+1,by omega,by go_num,Nat.le_refl _,G.out.2.2.2⟩
     case measure=>have:=G.out.1;omega
  ·have tw:=hkp.heap KA.out.2 (fun h=>h)
   have x0:=cells_at tw (j:=0) rfl
   have x1:=cells_at tw (j:=1) rfl
   have hB:w.heap.size<wr.heap.size:=(Array.getElem?_eq_some_iff.1 tw).1
   have ch:=NW j _ wr (H3.out.1.pure (KA.out.1.trans hkp))
   have G:=Lib.hid (KA.out.1.trans hkp)
   clear hkp tw hg
   go_wp2_with fail
   (with_reducible refine ch.mono ?_)
   clear ch
   rintro e w2 ⟨b,rfl,k2⟩
   have F:=Lib.hid (G.out.trans k2)
   clear k2
   by_cases q0:b=true
   ·subst q0
    go_wp2_with fail
    go_ret
    exact⟨_,rfl,F.out⟩
   ·have q0':b=false:=by simpa using q0
    subst q0'
    clear q0
    by_cases q1:40<l.length
    ·go_wp2_with fail
     go_ret
     exact⟨_,rfl,F.out⟩
    ·go_wp2_with fail
     go_ret
     exact⟨_,rfl,F.out⟩
end
section
open Go Go.RowKit
def jA (nodes:List JN):Tabs->List (Int×Int)->List Rec×Tabs
 |Ts,[]=>([],Ts)
 |Ts,y::l=>((iU nodes Ts y.1 y.2).1++(jA nodes (iU nodes Ts y.1 y.2).2 l).1,(jA nodes (iU nodes Ts y.1 y.2).2 l).2)
def vK {α:Type}(x:Rd α):Prop:= ∀f,x= .err f->f≠0
theorem vK.bind {α β:Type}{x:Rd α}{g:α->List UInt8->Rd β}(h:vK x)(k: ∀a r,vK (g a r)):vK (x.bind g):=by
 intro f e
 cases x with
 |err d=>exact h f (by simp only[Rd.bind]at e;injection e with e;rw[e])
 |ok a r=>exact k a r f e
theorem vK.ok {α:Type}(a:α)(r:List UInt8):vK (Rd.ok a r):=fun _ e=>by cases e
theorem zu (lo hi:Int)(l:List UInt8):vK (num lo hi l):=fun _ e=>OC e
theorem OB: ∀(k:Nat)(l:List UInt8),vK (nums k l)
 |0,_=> .ok _ _
 |k+1,l=>(zu _ _ l).bind fun _ r=>(OB k r).bind fun _ _=> .ok _ _
theorem aaj (l:List UInt8):vK (row l):=(zu _ _ l).bind fun _ r=>(zu _ _ r).bind fun _ r=>(zu _ _ r).bind fun _ r=>(OB _ r).bind fun _ _=> .ok _ _
theorem Kw: ∀(k:Nat)(T:Tab)(l:List UInt8),vK (fZ k T l)
 |0,_,_=> .ok _ _
 |k+1,_,l=>(aaj l).bind fun p r=>by
  split
  ·exact Kw k _ r
  ·intro f e;injection e with e;omega
theorem VZ (l:List UInt8):vK (jE l):=(zu _ _ l).bind fun _ r=>(Kw _ _ r).bind fun _ _=>by
 split
 ·exact .ok _ _
 ·intro f e;injection e with e;omega
theorem FQ {nodes:List JN}{f:Int}: ∀{l:List St}{Ts:Tabs},dI nodes l Ts= .error f->f≠0
 |[],Ts,h=>by cases h
 |s::l,Ts,h=>by
  unfold dI at h
  split at h
  ·injection h with h;omega
  ·split at h
   ·rename_i g hg
    injection h with h
    subst h
    exact VZ _ _ hg
   ·split at h
    ·exact FQ h
    ·injection h with h;omega
theorem Xc {j:Jb}{l:List St}{e:Int}(h:dH j l= .error e):e≠0:=by
 unfold dH at h
 split at h
 ·cases e':dI j.nodes l (bV j.nodes)with
  |ok Ts=>rw[e']at h;cases h
  |error f=>rw[e']at h;injection h with h;subst h;exact FQ e'
 ·injection h with h;omega
theorem aY.gU {S:Nat->Prop}{w w':World}{m:Nat}{Ts:Tabs}{pm:Nat->Nat×Nat}(h:aY w m Ts pm)(hk:Kept S w w')(hS: ∀k,S k-> ∀c E f,w.heap[k]?≠some (.cells c E f))(hm: ¬S m)
 (hd: ∀(i:Nat)(T:Tab),Ts[i]?=some (some T)-> ¬S (pm i).2):aY w' m Ts pm:=by
 obtain⟨⟨l,h1,h2,h3⟩,h4,h5⟩:=h
 exact⟨⟨l,h1.kept hk hm,h2,h3⟩,fun i T hT=>⟨(h4 i T hT).1.kept hk (fun q hq _ _=>hS q hq) (hd i T hT),(h4 i T hT).2⟩,h5⟩
theorem bK.gU {S:Nat->Prop}{w w':World}{b m:Nat}{j:Jb}{Ts:Tabs}{pm:Nat->Nat×Nat}(h:bK w b m j Ts pm)(hk:Kept S w w')(hS: ∀k,S k-> ∀c E f,w.heap[k]?≠some (.cells c E f))(hm: ¬S m)
 (hd: ∀(i:Nat)(T:Tab),Ts[i]?=some (some T)-> ¬S (pm i).2):bK w' b m j Ts pm:=by
 obtain⟨⟨v,h1,h2⟩,h3,h4⟩:=h
 exact⟨⟨v,hk.heap h1 (fun hs=>hS b hs _ _ _ h1),h2.kept hk hS⟩,h3,h4.gU hk hS hm hd⟩
structure eG (n k m:Nat)(Ts:Tabs)(pm:Nat->Nat×Nat):Prop where
 m1:n<=m
 m2:m<k
 t1:mP n Ts pm
 t2: ∀(q:Nat)(T:Tab),Ts[q]?=some (some T)->(pm q).2<k
theorem eG.of {w:World}{n b m:Nat}{j:Jb}{Ts:Tabs}{pm:Nat->Nat×Nat}(h:bK w b m j Ts pm)(h1:n<=m)(h2:mP n Ts pm):eG n w.heap.size m Ts pm:=
 ⟨h1,h.tabs.lt,h2,fun q T hT=>(h.tabs.tab q T hT).1.lt.1⟩
theorem eG.wide {n k n' k' m:Nat}{Ts:Tabs}{pm:Nat->Nat×Nat}(h:eG n k m Ts pm)(h1:n'<=n)(h2:k<=k'):eG n' k' m Ts pm:=
 ⟨Nat.le_trans h1 h.m1,Nat.lt_of_lt_of_le h.m2 h2,fun q T hT=>Nat.le_trans h1 (h.t1 q T hT),fun q T hT=>Nat.lt_of_lt_of_le (h.t2 q T hT) h2⟩
theorem eG.feed {nodes:List JN}{n k m:Nat}{Ts Us:Tabs}{pm:Nat->Nat×Nat}(h:eG n k m Ts pm)(hT:bY nodes Ts)(hU:bY nodes Us):eG n k m Us pm:=
 ⟨h.m1,h.m2,hT.newT hU h.t1,fun q U hq=>by obtain⟨T,hq'⟩:=hU.Om hT hq;exact h.t2 q T hq'⟩
theorem eG.maps {n k m:Nat}{Ts:Tabs}{pm:Nat->Nat×Nat}(h:eG n k m Ts pm){q:Nat}(hq:jg Ts pm q):n<=q/\q<k:=by
 obtain⟨i,T,hT,rfl⟩:=hq
 exact⟨h.t1 i T hT,h.t2 i T hT⟩
theorem bK.beside {w w':World}{b m b2 m2 n k n2 k2:Nat}{j j2:Jb}{Ts Us:Tabs}{pm oG:Nat->Nat×Nat}(h:bK w b m j Ts pm)(hr:eG n k m Ts pm)(h2:bK w b2 m2 j2 Us oG)(hr2:eG n2 k2 m2 Us oG)
 (hd:k<=n2\/k2<=n) (hk:Kept (jg Us oG) w w'):bK w' b m j Ts pm:=by
 refine h.gU hk (fun q hq=>h2.tabs.pX hq) (fun hs=>?_) (fun i T hT hs=>?_)
 ·have:=hr2.maps hs;have:=hr.m1;have:=hr.m2;omega
 ·have:=hr2.maps hs;have:=hr.t1 i T hT;have:=hr.t2 i T hT;omega
theorem Reads.beside {w w':World}{b2 m2 k:Nat}{j2:Jb}{Us:Tabs}{oG:Nat->Nat×Nat}{v:Value}{cs:List Value}(h:Reads w k v cs)(hk0:0<k)(h2:bK w b2 m2 j2 Us oG)(hk:Kept (jg Us oG) w w'):Reads w' k v cs:=
 h.EG hk0 hk (fun q hq=>h2.tabs.pX hq)
theorem gI.beside {w w':World}{b2 m2:Nat}{j2:Jb}{Us:Tabs}{oG:Nat->Nat×Nat}{a:Array Value}{j:Jb}(h:gI w a j)(h2:bK w b2 m2 j2 Us oG)(hk:Kept (jg Us oG) w w'):gI w' a j:=by
 obtain⟨v,h1,h3,h4⟩:=h
 exact⟨v,h1,h3.kept hk (fun q hq=>h2.tabs.pX hq),h4⟩
theorem eG.kept {w0 w w':World}{n k m:Nat}{Ts:Tabs}{pm:Nat->Nat×Nat}(h:eG n k m Ts pm)(hn:w0.heap.size<=n)(h0:Kept none' w0 w)(hk:Kept (jg Ts pm) w w'):Kept none' w0 w':=
 h0.maps (fun q T hT=>Nat.le_trans hn (h.t1 q T hT)) hk
theorem sD {j:Jb}(h:dw j=true):2<=j.nodes.length/\j.nodes.length<=12:=by
 have:=(lK h).1
 unfold fH at this
 simp only[Bool.or_eq_false_iff,decide_eq_false_iff_not]at this
 omega
theorem XZ (O:List Rec):Md O O=true:=decide_eq_true rfl
theorem zZ (O:List St):Mc O O=true:=decide_eq_true rfl
end
section
open Go Go.RowKit
attribute [local irreducible] bU dW H2.dG
theorem Qp {l:List St}{k:Nat}{s:St}(h:l[k]?=some s):eX (l.take (k+1))=eX (l.take k)++if fC s.2=[]then[]else[s]:=by
 unfold eX
 rw[List.take_add_one,h,Option.toList_some,List.filter_append]
 by_cases e:fC s.2=[]
 ·simp[e]
 ·simp[e]
theorem Xh (l:List St):(eX l).length<=l.length:=by unfold eX;exact List.length_filter_le _ _
theorem QM {a b:Jb}{l:List St}(h:(dA a b l).2=0): ∃Ts,dH a l= .ok Ts:=by
 unfold dA at h
 cases e:dH a l with
 |ok Ts=>exact⟨Ts,rfl⟩
 |error er=>rw[e]at h;exact absurd h (Xc e)
theorem PW (w:World):Calls Tryz.prog 21 #[.pointer none] w fun e w'=>e= .returned (.slice none 0 0)/\w'=w:=by
 go_enter Tryz.func21,Tryz.ntmps21
 go_wp2_with fail
 go_ret
 exact⟨rfl,rfl⟩
def xU (w:World)(r:Except Int (List St))(e:Ending)(w':World):Prop:=
 match r with
 | .ok x=> ∃v,e= .returned (.tuple #[v, .int .i64 0])/\Reads w' 2 v (fU x)/\Kept none' w w'
 | .error er=>e= .returned (.tuple #[.slice none 0 0, .int .i64 er])/\er≠0/\Kept none' w w'
theorem Gh (a b:Jb)(va vb sv:Value)(l:List St)(w:World)(ha:gI w #[.int .i64 a.par,va] a)(hb:gI w #[.int .i64 b.par,vb] b)(hs:Reads w 2 sv (fU l))(hsz: ∀s∈l,s.1.size<=maxLen/\s.2.size<=maxLen)(hl1000:l.length<=1000):
 Calls Tryz.prog 17 #[.agg #[.int .i64 a.par,va], .agg #[.int .i64 b.par,vb],sv] w (xU w (lH a b l)):=by
 obtain⟨na,lN,hva,-⟩:=ha.zy.at
 obtain⟨mb,nD,hvb,-⟩:=hb.zy.at
 obtain⟨sa,scap,hsv,s1,s2,s3⟩:=hs.jM
 subst hva hvb hsv
 unfold maxLen at s2
 have kA:Kept none' w ((w.alloc (.cells #[.int .i64 a.par, .slice na a.nodes.length lN] 24)).alloc (.cells #[.int .i64 b.par, .slice mb b.nodes.length nD] 24)):=((Kept.refl _ _).alloc _).alloc _
 have t0:((w.alloc (.cells #[.int .i64 a.par, .slice na a.nodes.length lN] 24)).alloc (.cells #[.int .i64 b.par, .slice mb b.nodes.length nD] 24)).heap[w.heap.size]?=some (.cells #[.int .i64 a.par, .slice na a.nodes.length lN] 24 (0,0)):=((Kept.refl none' _).alloc _).heap (heap_alloc_new w _) (fun h=>h)
 have t1:((w.alloc (.cells #[.int .i64 a.par, .slice na a.nodes.length lN] 24)).alloc (.cells #[.int .i64 b.par, .slice mb b.nodes.length nD] 24)).heap[w.heap.size+1]?=some (.cells #[.int .i64 b.par, .slice mb b.nodes.length nD] 24 (0,0)):=by
  have:=heap_alloc_new (w.alloc (.cells #[.int .i64 a.par, .slice na a.nodes.length lN] 24)) (.cells #[.int .i64 b.par, .slice mb b.nodes.length nD] 24)
  rwa[World.size_alloc]at this
 obtain⟨W1,hW1⟩: ∃W1,((w.alloc (.cells #[.int .i64 a.par, .slice na a.nodes.length lN] 24)).alloc (.cells #[.int .i64 b.par, .slice mb b.nodes.length nD] 24))=W1:=⟨_,rfl⟩
 rw[hW1]at kA t0 t1
 have cc:=check_any a b _ _ _ l W1 (ha.pure kA) (hb.pure kA) (hs.pure kA) hsz
 have H:=Lib.hid (And.intro hb (And.intro hsz (And.intro kA (And.intro t1 s3))))
 have HW:=Lib.hid hW1
 clear ha hb hs hsz kA t0 t1 hW1 s3
 go_enter Tryz.func17,Tryz.ntmps17
 go_wp2_with fail
 rw[HW.out]
 clear HW
 (with_reducible refine cc.mono ?_)
 clear cc
 rintro e w2 ⟨rfl,k2⟩
 by_cases hz:(dA a b l).2=0
 ·have HZ:=Lib.hid hz
  have hload:=QM hz
  obtain⟨Ts,hload⟩:=hload
  have EACH:=Lib.hid (Dk hload)
  rw[hz]
  have K2:=Lib.hid k2
  clear hload hz k2
  go_wp2_with fail
  go_loopg [10,29] l.length (fun g vo vi wr=> ∃(k:Nat),k<=l.length/\vi= .int .i64 (k:Int)/\l.length-k<=g/\wr.ownsRow W1.heap.size 33 2 vo (eX (l.take k)).length (fU (eX (l.take k)))/\Kept none' W1 wr)
  case atStart=>exact⟨0,by omega,rfl,by omega,World.ownsRow_nil _ _ _ _,K2.out⟩
  case round=>
   obtain⟨k,hkl,rfl,hg,hown,hkp⟩:=hrel
   obtain⟨wo,rfl⟩: ∃wo:World,wo=wr:=⟨_,rfl⟩
   obtain⟨oa,oc,rfl⟩:=ay hown
   by_cases hlt:k<l.length
   ·obtain⟨s,hs⟩: ∃s,l[k]?=some s:=⟨_,List.getElem?_eq_getElem hlt⟩
    obtain⟨bs,Ew,rfl,hcs⟩:=H.out.2.2.2.2.resolve_left (fun h=>by rw[h]at hlt;simp at hlt)
    have kw:=H.out.2.2.1.trans hkp
    have y0:=kw.cell (fun h=>h) (hcs k s hs).1
    have y1:=kw.cell (fun h=>h) (hcs k s hs).2
    obtain⟨_,T,rest,htk⟩:=EACH.out s (List.mem_of_getElem? hs)
    have yV:fC s.2=T:=by unfold fC;rw[htk]
    have qN:=H.out.2.1 s (List.mem_of_getElem? hs)
    have hsn:=Qp hs
    rw[yV]at hsn
    have ka:Kept none' wo (wo.alloc (.cells #[.string s.1, .string s.2] 33)):=(Kept.refl _ _).alloc _
    have sB:(wo.alloc (.cells #[.string s.1, .string s.2] 33)).heap[wo.heap.size]?=some (.cells #[.string s.1, .string s.2] 33 (0,0)):=heap_alloc_new _ _
    obtain⟨W4,fO⟩: ∃W4,wo.alloc (.cells #[.string s.1, .string s.2] 33)=W4:=⟨_,rfl⟩
    rw[fO]at ka sB
    have z0:=cells_at sB (j:=0) (v:= .string s.1) rfl
    have z1:=cells_at sB (j:=1) (v:= .string s.2) rfl
    have ct:=take_any s.2 qN.2 W4
    unfold eF at ct
    rw[htk]at ct
    dsimp only at ct
    have hle:=Xh (l.take k)
    have G:=Lib.hid (And.intro hg (And.intro (hkp.trans ka) (And.intro (ka.owns hown (fun _ _ h=>h)) (And.intro sB hsn))))
    clear hg hkp ka sB htk yV qN hsn kw hcs hs hown
    go_wp2_with fail
    try rw[fO]
    clear fO y0 y1 z0 z1
    (with_reducible refine ct.mono ?_)
    clear ct
    rintro e w5 ⟨tb,tm,rfl,tT,k5⟩
    have ck:=lQ _ tb tm T w5 tT
    have K5:=Lib.hid k5
    clear tT k5
    go_wp2_with fail
    (with_reducible refine ck.mono ?_)
    clear ck
    rintro e w6 ⟨v6,rfl,hk6,-,k6⟩
    obtain⟨Ro,Rn,rfl⟩:=ay hk6
    have hkl2:(aO T).length=T.length:=by unfold aO;rw[List.length_map]
    rw[hkl2]
    have wz:=K5.out.trans k6
    have AA:=wz.heap G.out.2.2.2.1 (fun h=>h)
    have z0:=cells_at AA (j:=0) (v:= .string s.1) rfl
    have z1:=cells_at AA (j:=1) (v:= .string s.2) rfl
    have aew:wo.heap.size<w6.heap.size:=(Array.getElem?_eq_some_iff.1 AA).1
    have hown6:=wz.owns G.out.2.2.1 (fun _ _ h=>h)
    have zC:=G.out.2.1.trans wz
    clear hk6 hkl2 k6 wz AA
    by_cases hT0:T=[]
    ·have hTl:T.length=0:=by rw[hT0];rfl
     rw[hTl]
     have F:=Lib.hid (show w6.ownsRow W1.heap.size 33 2 (.slice oa (eX (l.take k)).length oc) (eX (l.take (k+1))).length (fU (eX (l.take (k+1))))/\Kept none' W1 w6 from by
      rw[G.out.2.2.2.2,if_pos hT0,List.append_nil];exact⟨hown6,zC⟩)
     clear hT0 hTl hown6 zC z0 z1
     go_wp2_with fail
     go_roundg (l.length-(k+1))
     case rel=>exact⟨k+1,by omega,by go_num,Nat.le_refl _,F.out.1,F.out.2⟩
     case measure=>have:=G.out.1;omega
    ·have hTl:0<T.length:=Nat.pos_of_ne_zero (fun h=>hT0 (List.eq_nil_of_length_eq_zero h))
     obtain⟨v7,w7,g1,g2,g3,a7,c7,rfl⟩:=Ov hown6 s zC.size (by rw[List.length_take]at hle;omega)
     have Z:=Lib.hid (And.intro g1 (show w7.ownsRow W1.heap.size 33 2 (.slice a7 ((eX (l.take k)).length+1) c7) (eX (l.take (k+1))).length (fU (eX (l.take (k+1))))/\Kept none' W1 w7 from by
      rw[G.out.2.2.2.2,if_neg hT0,List.length_append,List.length_singleton]
      exact⟨g2,zC.new g3 (fun i hi hs=>by have:=(hown6.lt i hs).1;omega)⟩))
     clear g1 g2 g3 hown6 zC hT0
     go_wp2_with (at_builtin;refine iD rfl (.tmp 43) (.tmp 45) 25 rfl _ _ _ rfl rfl Z.out.1 ?_)
     go_roundg (l.length-(k+1))
     case rel=>exact⟨k+1,by omega,by go_num,Nat.le_refl _,Z.out.2.1,Z.out.2.2⟩
     case measure=>have:=G.out.1;omega
   ·have e1:k=l.length:=by omega
    subst e1
    rw[List.take_of_length_le (Nat.le_refl _)]at hown
    rw[List.take_of_length_le (Nat.le_refl _)]
    have kw:=H.out.2.2.1.trans hkp
    have t1:=hkp.heap H.out.2.2.2.1 (fun h=>h)
    have r0:=cells_at t1 (j:=0) (v:= .int .i64 b.par) rfl
    have r1:=cells_at t1 (j:=1) (v:= .slice mb b.nodes.length nD) rfl
    have hsz1:w.heap.size+1<wo.heap.size:=(Array.getElem?_eq_some_iff.1 t1).1
    have cl:=uQ b _ _ (eX l) wo (H.out.1.pure kw) (Reads.cO hown) (fun s hs=>H.out.2.1 s ((List.mem_filter.1 hs).1))
    have G:=Lib.hid kw
    clear hown hkp hg hlt kw t1
    go_wp2_with fail
    (with_reducible refine cl.mono ?_)
    clear cl r0 r1
    intro e w3 hq
    unfold iI at hq
    cases hl:dH b (eX l)with
    |error er=>
     rw[hl]at hq
     obtain⟨rfl,hne,k3⟩:=hq
     have cs:=PW w3
     have F:=Lib.hid (show xU w (lH a b l) (.returned (.tuple #[.slice none 0 0, .int .i64 er])) w3 from by
      unfold lH
      rw[if_neg (by rw[HZ.out];simp),hl]
      exact⟨rfl,hne,G.out.trans k3⟩)
     clear hl k3
     go_wp2_with fail
     (with_reducible refine cs.mono ?_)
     clear cs
     rintro e w4 ⟨rfl,rfl⟩
     go_wp2_with fail
     go_ret2
     exact F.out
    |ok Us=>
     rw[hl]at hq
     obtain⟨bi,mi,pm,rfl,hi,-,-,k3⟩:=hq
     obtain⟨hok,hT⟩:=xH hl
     have hsm:=sD hok
     have cs:=iE b bi mi Us pm w3 hi hT.len (by omega)
     have HL:=Lib.hid (And.intro hl (G.out.trans k3))
     clear hl k3 hi hok hT hsm
     go_wp2_with fail
     (with_reducible refine cs.mono ?_)
     clear cs
     rintro e w4 ⟨v4,rfl,hv4,-,k4⟩
     have F:=Lib.hid (show xU w (lH a b l) (.returned (.tuple #[v4, .int .i64 0])) w4 from by
      unfold lH
      rw[if_neg (by rw[HZ.out];simp),HL.out.1]
      exact⟨_,rfl,hv4,HL.out.2.trans k4⟩)
     obtain⟨v4a,v4c,rfl,-⟩:=hv4.jM
     clear hv4 k4
     go_wp2_with fail
     go_ret2
     exact F.out
 ·have F:=Lib.hid (show xU w (lH a b l) (.returned (.tuple #[.slice none 0 0, .int .i64 (dA a b l).2])) w2 from by
   unfold lH
   rw[if_pos hz]
   exact⟨rfl,hz,H.out.2.2.1.trans k2⟩)
  obtain⟨er,her⟩: ∃er,(dA a b l).2=er:=⟨_,rfl⟩
  rw[her]at hz F⊢
  clear k2 her
  go_wp2_with fail
  go_ret2
  exact F.out
end
end Go.Proofs.YtopeleenlcnkkaaGreatDoor
