/- The document's table: Keys(39), Bytes(37). -/
import Derived.Test.YtglbkodmmogomaaGreatDoorI42
import Derived.Test.YtglbkodmmogomaaGreatDoorI43
set_option linter.unusedVariables false
set_option linter.unusedSimpArgs false
set_option maxHeartbeats 2000000
set_option maxRecDepth 100000
namespace Go.Proofs.YtglbkodmmogomaaGreatDoor
section
open Go Go.RowKit
attribute [local irreducible] cZ
theorem yt {w:World}{base n:Nat}{v u:Value}{L M:List Int}(hown:w.ownsRow base 2 1 v n (ints L))(hr:Reads w 1 u (ints M))(hb:base<=w.heap.size)(hlen:L.length+M.length<=1000000):
 ∃v' n' w',(Builtin.append_ #[97,97] 97 #[v,u]).run Tryz.prog w= .ok v' w'/\w'.ownsRow base 2 1 v' n' (ints (L++M))/\w.grownBy w' v.ownBlock:=by
 obtain⟨i,hi,hz,hs,hby⟩:=info_parts Tryz.info2;have hn:=hown.1;rw[vI]at hn;obtain⟨v',n',w',g1,g2,g3,g4,g5⟩:=aW (P:=Tryz.prog) base 97 97 2 i (.int .i64 0) 1 8 Tryz.underlying97 hi hz hs hby rfl (by omega) hown hr (mQ M) (by rw[vI];omega) (by rw[vI];unfold maxLen;omega) hb;refine⟨v',n',w',g1,?_,g4⟩;unfold ints at g2⊢;rw[abM];exact g2
theorem Jh {w wr w':World}{e s n:Nat}{v:Value}{xs:List Value}(hk:ε η w wr)(ho:wr.ownsRow w.heap.size e s v n xs)(hg:wr.grownBy w' v.ownBlock):ε η w w':=
 hk.new (ε.grown (S:=fun j=>w.heap.size<=j) hg (fun j hj _=>(aU ho hj).1)) (fun j hj hs=>by omega)
theorem XW {T:Tab}{k:Nat}{p:Int×Cell}(h:T[k]?=some p)(N:Int):N::(T.take (k+1)).flatMap ku=(N::(T.take k).flatMap ku)++([p.1,p.2.1,(p.2.2.length:Int)]++p.2.2):=by rw[IY h];simp[ku]
theorem S9 {T:Tab}(h:eP T):(∀n∈uy T,aH n)/\(uy T).length<=6100:=by
 have hr:=rows_ok h.key h.cell;have hl:=h.len;refine⟨fun n hn=>?_,?_⟩
 ·unfold uy at hn
  rcases abR.1 hn with rfl|hn
  ·exact .small (by omega) (by omega)
  ·exact hr.1 n hn
 ·unfold uy;rw[φ];have:=hr.2;omega
theorem U7 (D:Nat)(T:Tab)(w:World)(h:RTabAt w D T):Calls Tryz.prog 76 #[.pointer (some ⟨D,0,none⟩)] w (Gives w (.string (strOf (dV (uy T))))):=by
 have HT:=γ h;obtain⟨⟨v,dP,hrt⟩,hok⟩:=h;obtain⟨pa,iQ,rfl,hc1,hc2,hcl⟩:=hrt.parts;have c0:w.cell? ⟨D,0,none⟩=some (.slice pa T.length iQ):=ζ dP rfl;have hD:D<w.heap.size:=block_lt_of_cell c0;have hT:=hok.len;unfold maxLen at hc2;have HC:=γ (θ hcl hok);clear dP hrt hcl hok;go_enter Tryz.func76,Tryz.ntmps76;go_wp2_with fail;have I0:ace ((w.alloc (.cells #[.int .i64 (T.length:Int)] 2)).ownsRow w.heap.size 2 1 (.slice (some ⟨w.heap.size,0,none⟩) 1 1) 1 (ints ((T.length:Int)::(T.take 0).flatMap ku))/\ε η w (w.alloc (.cells #[.int .i64 (T.length:Int)] 2))):=
  ⟨⟨by simp,.inr ⟨w.heap.size,1,#[.int .i64 (T.length:Int)],rfl,ξ _,heap_alloc_new w _,ξ _,by unfold maxLen;omega,rfl,rfl⟩⟩,δ.alloc _⟩
 go_loopg [3,4] T.length (fun g vl vi wr=> ∃k n:Nat,k<=T.length/\vi= .int .i64 (k:Int)/\wr.ownsRow w.heap.size 2 1 vl n (ints ((T.length:Int)::(T.take k).flatMap ku))/\ε η w wr/\T.length-k<=g)
 case atStart=>exact⟨0,1,by omega,rfl,I0.o.1,I0.o.2,by omega⟩
 case round=>
  obtain⟨k,n,hk,rfl,hown,hkp,hg⟩:=hrel;obtain⟨oa,oc,rfl⟩:=au hown;have c0:=hkp.cell (p:=⟨D,0,none⟩) id c0;have HI:=γ (θ hown (θ hkp hg));clear hown hkp hg I0;by_cases hlt:k<T.length
  ·obtain⟨p,hp⟩: ∃p,T[k]?=some p:=⟨_,ι hlt⟩
   obtain⟨rb,ro,rfl,hr⟩:=HC.o.1.resolve_left (fun h=>by rw[h]at hp;cases hp);obtain⟨x0,x1,lv,x2,aaW⟩:=hr k p hp;have hrbw:rb<w.heap.size:=block_lt_of_cell x0;have aep: ∀g,Value.blk lv=some g->g<w.heap.size:=fun g hg=>(by obtain⟨c,E,f,he⟩:=aaW.isCells (by omega) hg;exact(κ.1 he).1);have x0:=HI.o.2.1.cell id x0;have x1:=HI.o.2.1.cell id x1;have x2:=HI.o.2.1.cell id x2;have hlv:=aaW.pure HI.o.2.1;obtain⟨la,lc,rfl,hl1,hl2,_⟩:=hlv.at;unfold maxLen at hl2;have hpc:=HC.o.2.cell p (ς hp);have hpl:p.2.2.length<=16:=hpc.2.2;have hcl:((T.length:Int)::(T.take k).flatMap ku).length<=6100:=(by have h1:=(rows_ok (T:=T.take k) (fun q hq=>HC.o.2.key q (List.mem_of_mem_take hq)) (fun q hq=>HC.o.2.cell q (List.mem_of_mem_take hq))).2;have h2:=List.length_take_le' k T;rw[φ];omega);have Q:=γ (θ hp (θ hlv hcl));clear hr hp hlv hpc hcl aaW;go_wp2_with fail;obtain⟨W1,hW1⟩:=acf (wr.alloc (.cells #[.int .i64 p.2.1,.slice la p.2.2.length lc] 109));have kA:ε η wr W1:=(by rw[<-hW1];exact δ.alloc _);have y0:W1.cell? ⟨wr.heap.size,0,none⟩=some (.int .i64 p.2.1):=(by rw[<-hW1];simp);have y1:W1.cell? ⟨wr.heap.size,1,none⟩=some (.slice la p.2.2.length lc):=(by rw[<-hW1];simp);rw[hW1];clear hW1;have c1:=kA.cell (p:=⟨D,0,none⟩) id c0;have z0:=kA.cell id x0;have hown1:=kA.owns HI.o.1 (fun _ _ h=>h);have hob: ∀g,(Value.slice oa n oc).ownBlock=some g->w.heap.size<=g/\g<wr.heap.size:=fun g hg=>aU HI.o.1 hg;have nD:(Value.slice oa n oc).ownBlock≠some D:=fun e=>(by have:=hob D e;omega);have nR:(Value.slice oa n oc).ownBlock≠some rb:=fun e=>(by have:=hob rb e;omega);have nC:(Value.slice oa n oc).ownBlock≠some wr.heap.size:=fun e=>(by have:=hob _ e;omega);have kB:ε η W1 (W1.drew.alloc (.cells #[.int .i64 p.1,.int .i64 p.2.1,.int .i64 (p.2.2.length:Int)] 2)):=δ.drew.alloc _;obtain⟨v7,n7,w7,f1,f2,f3⟩:=yt (M:=[p.1,p.2.1,(p.2.2.length:Int)]) (kB.owns hown1 (fun _ _ h=>h)) (Reads.lit W1.drew (ints [p.1,p.2.1,(p.2.2.length:Int)]) 2 1 3 rfl (by unfold maxLen;omega)) (ω (ω HI.o.2.1.size kA.size) kB.size) (by have:=Q.o.2.2;simp only[φ,Γ]at*;omega);obtain⟨a7,c7,rfl⟩:=au f2;have k7:ε (fun g=>(Value.slice oa n oc).ownBlock=some g) W1 w7:=kB.pure.trans (ε.grown f3 (fun g hg _=>hg));have aer:Reads w7 1 (.slice la p.2.2.length lc) (ints p.2.2):=
    (Q.o.2.1.pure kA).kept k7 (fun g hg hs=>by have h1:=aep g hg;have h2:=hob g hs;omega)
   have y17:=k7.cell (p:=⟨wr.heap.size,1,none⟩) (fun e=>nC e) y1;have hown7:=γ f2;have K7:=γ (θ k7 (Jh (HI.o.2.1.trans (kA.trans kB)) (kB.owns hown1 (fun _ _ h=>h)) f3));have KB:=γ kB;have F1:=γ f1;obtain⟨v9,n9,w9,g1,g2,g3⟩:=yt (M:=p.2.2) f2 aer K7.o.2.size (by have:=Q.o.2.2;rw[ν];simp only[φ,Γ]at*;omega);rw[List.append_assoc,<-XW Q.o.1]at g2;have F:=γ (θ g2 (Jh K7.o.2 f2 g3));have G1:=γ g1;have hki0:(0:Int)<=(k:Int):=(by omega);have hki1:(k:Int)<(T.length:Int):=(by omega);have ND:=γ (θ nD (θ nR nC));clear f1 f2 f3 g1 g2 g3 aer k7 kB kA hown1 hob nD nR nC aep;refine ak [0,1,2,3,4,5,6,7,8,9,10,11,12,13,14,15,16] (fun W=>ε (fun g=>(Value.slice oa n oc).ownBlock=some g) W1 W) (by kernel_rfl) (by kernel_rfl) rfl (ε.refl _ W1).drew ?_;simp only[abU];iterate 14 (apply aj rfl rfl;(intro W hW;have e1:=hW.cell (p:=⟨D,0,none⟩) ND.o.1 c1;have e2:=hW.cell (p:=⟨rb,ro+k*3,none⟩) ND.o.2.1 z0;have e3:=hW.cell (p:=⟨wr.heap.size,0,none⟩) ND.o.2.2 y0;have e4:=hW.cell (p:=⟨wr.heap.size,1,none⟩) ND.o.2.2 y1;go_simp;rfl);go_frame)
   apply aA rfl rfl;intro K hK;go_wp2_with fail;refine hK _ _ (fun _=>KB.o.pure) ?_;clear hK;apply aA rfl rfl;intro K hK;refine wp_append_run (.tmp 29) (.tmp 43) 97 rfl (.slice oa n oc) (.slice (some ⟨W1.heap.size,0,none⟩) 3 3) _ rfl rfl F1.o ?_;refine hK _ _ (fun _=>K7.o.1) ?_;clear hK;apply aj rfl rfl
   ·intro W hW;go_simp;rfl
   go_frame;refine aG (fun _=>K7.o.1) ?_;go_wp2_with (at_builtin;refine wpList_append_run rfl (.tmp 45) (.tmp 47) 97 rfl (.slice a7 n7 c7) (.slice la p.2.2.length lc) _ rfl rfl G1.o ?_);go_roundg (T.length-(k+1))
   case rel=>exact⟨k+1,n9,by omega,by go_num,F.o.1,F.o.2,ξ _⟩
   case measure=>have:=HI.o.2.2;omega
  ·have hkT:k=T.length:=by omega
   have F:=γ (show Reads wr 1 (.slice oa n oc) (ints (uy T))from by
    have:=HI.o.1;rw[χ (by omega)]at this
    exact Reads.aN this)
   have HK:=γ hkT;clear hkT;go_wp2_with fail;(with_reducible refine(Yh (.slice oa n oc) (uy T) wr F.o (S9 HC.o.2).1 (by have:=(S9 HC.o.2).2;omega)).mono ?_);rintro e w5 ⟨rfl,k5⟩;go_wp2_with fail;go_ret;exact⟨rfl,HI.o.2.1.trans k5⟩
def GX (T:Tab)(k:Int):Cell:=(bY T k).getD (0,[])
def Au (w:World)(T:Tab)(k:Int)(e:Ending)(w':World):Prop:=
 ∃lv,e= .returned (.tuple #[.agg #[.int .i64 (GX T k).1,lv],.bool (bY T k).isSome])/\Reads w' 1 lv (ints (GX T k).2)/\ε η w w'
theorem IG {k:Int}{T:Tab}(hT:dJ T){c:Cell}(h:bY T k=some c):T[aT k T]?=some (k,c):=by
 have h1:=Ey (k:=k) hT;rw[h]at h1
 cases hx:T[aT k T]? with
 |none=>rw[hx]at h1;cases h1
 |some p=>
  rw[hx]at h1;have e:p.1=k:=(by simpa using h1);have h2:=(nS hT (k:=p.1) (c:=p.2)).2 (ς hx);rw[e,h]at h2
  injection h2 with h2
  rw[<-e,h2]
theorem OT (D:Nat)(T:Tab)(k:Int)(w:World)(h:RTabAt w D T)(hk:aH k):Calls Tryz.prog 148 #[.pointer (some ⟨D,0,none⟩),.int .i64 k] w (Au w T k):=by
 have HT:=γ h;have HK:=γ hk;obtain⟨⟨v,dP,hrt⟩,hok⟩:=h;obtain⟨pa,iQ,rfl,hc1,hc2,hcl⟩:=hrt.parts;have c0:w.cell? ⟨D,0,none⟩=some (.slice pa T.length iQ):=ζ dP rfl;have hT:=hok.len;unfold maxLen at hc2;have HC:=γ (θ hcl hok);have hfl:=wU k T;clear dP hrt hcl hok hk
 cases hg:bY T k with
 |none=>have HG:=γ hg;clear hg;go_enter Tryz.func148,Tryz.ntmps148;go_wp2_with fail;have kA:ε η w (w.alloc (.cells #[.int .i64 0,.slice none 0 0] 109)):=δ.alloc _;(with_reducible refine(xM D T k _ (HT.o.pure kA) HK.o).mono ?_);rintro e w1 ⟨rfl,k1⟩;rw[HG.o];have hE:w.heap.size<w1.heap.size:=(by have:=k1.size;simp at this;omega);have q0:=k1.cell (p:=⟨w.heap.size,0,none⟩) (v:= .int .i64 0) id (by simp);have q1:=k1.cell (p:=⟨w.heap.size,1,none⟩) (v:= .slice none 0 0) id (by simp);have f0:=k1.fq w.heap.size 0 (by simp);have f1:=k1.fq w.heap.size 1 (by simp);have F:ace (Au w T k (.returned (.tuple #[.agg #[.int .i64 0,.slice none 0 0],.bool false])) ((w1.setCell ⟨w.heap.size,0,none⟩ (.int .i64 0)).setCell ⟨w.heap.size,1,none⟩ (.slice none 0 0))):=(by show Au _ _ _ _ _;unfold Au GX;rw[HG.o];exact⟨_,rfl,Reads.nil _ _,(((kA.trans k1)).setCell (p:=⟨w.heap.size,0,none⟩) (.inr (ξ _)) _).setCell (p:=⟨w.heap.size,1,none⟩) (.inr (ξ _)) _⟩);simp only[World.frozen?_alloc_new]at f0 f1;clear k1 kA;simp only[Option.isSome_none];go_wp2_with fail;refine bodyPost_ret (v:= .tuple #[.agg #[.int .i64 0,.slice none 0 0],.bool false]) (by simp[results,Tryz.results148,go_sem,q0,q1]) rfl F.o
 |some c=>have HG:=γ (θ hg (IG HC.o.2.rises hg));have YV:=HG.o.2;obtain⟨rb,ro,rfl,hr⟩:=HC.o.1.resolve_left (fun h=>by rw[h]at YV;cases YV);obtain⟨x0,x1,lv,x2,hlv⟩:=hr _ _ YV;obtain⟨la,lc,rfl,_,_,_⟩:=hlv.at;have ahU:aT k T<T.length:=(μ.1 YV).1;have HLV:=γ hlv;clear hg YV hr hlv x0;obtain⟨i,hi⟩: ∃i,aT k T=i:=⟨_,rfl⟩;have HI:=γ hi;rw[hi]at x1 x2 ahU hfl;clear hi;go_enter Tryz.func148,Tryz.ntmps148;go_wp2_with fail;have kA:ε η w (w.alloc (.cells #[.int .i64 0,.slice none 0 0] 109)):=δ.alloc _;(with_reducible refine(xM D T k _ (HT.o.pure kA) HK.o).mono ?_);rintro e w1 ⟨rfl,k1⟩;rw[HG.o.1,HI.o];have hE:w.heap.size<w1.heap.size:=(by have:=k1.size;simp at this;omega);have q0:=k1.cell (p:=⟨w.heap.size,0,none⟩) (v:= .int .i64 0) id (by simp);have q1:=k1.cell (p:=⟨w.heap.size,1,none⟩) (v:= .slice none 0 0) id (by simp);have f0:=k1.fq w.heap.size 0 (by simp);have f1:=k1.fq w.heap.size 1 (by simp);have c0:=(kA.trans k1).cell id c0;have x1:=(kA.trans k1).cell id x1;have x2:=(kA.trans k1).cell id x2;have F:ace (Au w T k (.returned (.tuple #[.agg #[.int .i64 c.1,.slice la c.2.length lc],.bool true])) ((w1.setCell ⟨w.heap.size,0,none⟩ (.int .i64 c.1)).setCell ⟨w.heap.size,1,none⟩ (.slice la c.2.length lc))):=(by show Au _ _ _ _ _;unfold Au GX;rw[HG.o.1];have kk:ε η w ((w1.setCell ⟨w.heap.size,0,none⟩ (.int .i64 c.1)).setCell ⟨w.heap.size,1,none⟩ (.slice la c.2.length lc)):=(((kA.trans k1)).setCell (p:=⟨w.heap.size,0,none⟩) (.inr (ξ _)) _).setCell (p:=⟨w.heap.size,1,none⟩) (.inr (ξ _)) _;exact⟨_,rfl,HLV.o.pure kk,kk⟩);simp only[World.frozen?_alloc_new]at f0 f1;clear k1 kA;simp only[Option.isSome_some];go_wp2_with fail;refine bodyPost_ret (v:= .tuple #[.agg #[.int .i64 c.1,.slice la c.2.length lc],.bool true]) (by simp[results,Tryz.results148,go_sem,q0,q1]) rfl F.o
end
section
open Go Go.RowKit
attribute [local irreducible] cZ H2.dX
theorem RTabAt.afD {w:World}{b n z:Nat}{x:Option Addr}{v:Value}{cs:List Value}{T:Tab}(dP:w.heap[b]?=some (.cells #[.slice x n z] 103 (0,0)))(hr:Reads w 3 v cs)(hrows:cu w cs T)(hok:eP T):RTabAt (w.setCell ⟨b,0,none⟩ v) b T:=by
 have kb:ε (one b) w (w.setCell ⟨b,0,none⟩ v):=(ε.refl (one b) w).setCell (p:=⟨b,0,none⟩) (.inl rfl) _
 have hnot: ∀(x:Value)(l:List Int),Reads w 1 x (ints l)->Reads (w.setCell ⟨b,0,none⟩ v) 1 x (ints l):=fun x l hx=>
  hx.kept kb (fun bb hbb e=>hx.qN dP (by omega) (fun y hy=>by
   cases l with
   |nil=>cases hy
   |cons q l=>cases hy;exact⟨_,_,rfl⟩) bb hbb e)
 exact⟨⟨v,one_setCell dP,cs,hr.kept kb (fun bb hbb e=>hr.qN dP (by omega) hrows.first bb hbb e),hrows.1,fun i p hp=>by obtain⟨a,b',lv,c',d⟩:=hrows.2 i p hp;exact⟨a,b',lv,c',hnot _ _ d⟩⟩,hok⟩
section
variable {P:Program}
theorem OH {T E sz:Nat}(hT:P.underlying T=some (.slice E))(hsz: ∀w,(sizeOf E).run P w= .ok sz w){w:World}{a:Option Addr}{n cap k:Nat}{cs:List Value}(h:Reads w sz (.slice a n cap) cs)(hk:k<=n):
 (∀W,(Instr.slice T (.slice a n cap) none (some (.int .i64 (k:Int))) none).run P W= .ok (.slice a k cap) W)/\Reads w sz (.slice a k cap) (cs.take (k*sz)):=by
 have h0:=EC hT (hsz w) h hk;refine⟨fun W=>?_,h0.2⟩;obtain⟨a',n',cap',e,h1,h2,_⟩:=h;cases e;have hb:(Instr.sliceBounds true n cap none (some (.int .i64 (k:Int))) none).run P W= .ok (0,k,cap) W:=(by simp[Instr.sliceBounds,Instr.sliceBound,asIntOf];intro h;omega);simp only[Instr.slice,Sem.run_bind,run_underlying hT,Result.andThen_ok,hb,hsz,Sem.run_pure]
 cases a with
 |none=>simp
 |some a=>simp[Addr.add]
theorem OI {T E sz:Nat}(hT:P.underlying T=some (.slice E))(hsz: ∀w,(sizeOf E).run P w= .ok sz w){w:World}{a:Option Addr}{n cap k:Nat}{cs:List Value}(h:Reads w sz (.slice a n cap) cs)(hk:k<=n):
 ∃a' n' c',(∀W,(Instr.slice T (.slice a n cap) (some (.int .i64 (k:Int))) none none).run P W= .ok (.slice a' n' c') W)/\Reads w sz (.slice a' n' c') (cs.drop (k*sz)):=by
 obtain⟨v,hv,hr⟩:=ED hT (hsz w) h hk;obtain⟨a',n',cap',e,h1,h2,_⟩:=h;cases e;have hall: ∀W,(Instr.slice T (.slice a n cap) (some (.int .i64 (k:Int))) none none).run P W= .ok (.slice (if cap=k then a else a.map (·.add (k*sz))) (n-k) (cap-k)) W:=(by intro W;have hb:(Instr.sliceBounds true n cap (some (.int .i64 (k:Int))) none none).run P W= .ok (k,n,cap) W:=(by simp[Instr.sliceBounds,Instr.sliceBound,asIntOf];intro h;omega);simp only[Instr.slice,Sem.run_bind,run_underlying hT,Result.andThen_ok,hb,hsz,Sem.run_pure]);have e2:v= .slice (if cap=k then a else a.map (·.add (k*sz))) (n-k) (cap-k):=(by have:=hv.symm.trans (hall w);injection this);subst e2;exact⟨_,_,_,hall,hr⟩
end
theorem zH {k:Int}: ∀{T:Tab},dJ T->dS k T=if(bY T k).isSome then T.take (aT k T)++T.drop (aT k T+1)else T
 |[],_=>rfl
 |q::T,h=>by
  obtain⟨h1,h2⟩:=List.pairwise_cons.1 h;have ih:=zH (k:=k) h2;have e1:dS k (q::T)=if k !=q.1 then q::dS k T else dS k T:=(by unfold dS;rw[List.filter_cons]);rw[e1];unfold bY aT;rw[List.find?_cons];by_cases hl:bH q.1 k=true
  ·have hne:(k==q.1)=false:=by
    simp;intro e;subst e;rw[bM]at hl;cases hl
   have hne':(k !=q.1)=true:=(by rw[bne,hne];rfl);rw[if_pos hl,if_pos hne',hne,ih];unfold bY;by_cases hs:(Option.map (fun x=>x.snd) (List.find? (fun p=>k==p.fst) T)).isSome=true
   ·rw[if_pos hs,if_pos (by simpa using hs)];simp
   ·rw[if_neg hs,if_neg (by simpa using hs)]
  ·rw[if_neg hl]
   have hnone: ∀(hk:bH k q.1=true),T.find? (fun p=>k==p.1)=none:=fun hk=>(by rw[List.find?_eq_none];intro x hx e;have:=iI hk (h1 x hx);simp at e;rw[e,bM]at this;cases this);by_cases he:q.1=k
   ·subst he
    have hd:dS q.1 T=T:=(by unfold dS;rw[List.filter_eq_self];intro x hx;have:=h1 x hx;rw[bne_iff_ne];intro e;rw[<-e,bM]at this;cases this);simp[hd]
   ·have hkq:bH k q.1=true:=(jB (fun e=>he e.symm)).resolve_right hl
    have e1:(k==q.1)=false:=(by simp;exact fun e=>he e.symm);have e2:(k !=q.1)=true:=(by rw[bne,e1];rfl);rw[if_pos e2,e1,hnone hkq];have hd:dS k T=T:=(by unfold dS;rw[List.filter_eq_self];intro x hx;have:=iI hkq (h1 x hx);rw[bne_iff_ne];intro e;rw[<-e,bM]at this;cases this);simp[hd]
def QL (w:World)(D:Nat)(T:Tab)(k:Int)(e:Ending)(w':World):Prop:=e= .returned (.bool (bY T k).isSome)/\RTabAt w' D (dS k T)/\ε (one D) w w'/\oV w w' D T (dS k T)
theorem Ya (D:Nat)(T:Tab)(k:Int)(w:World)(h:RTabAt w D T)(hk:aH k):Calls Tryz.prog 150 #[.pointer (some ⟨D,0,none⟩),.int .i64 k] w (QL w D T k):=by
 have HT:=γ h;have HK:=γ hk;obtain⟨⟨v,dP,cs,hcs,hrr⟩,hok⟩:=h;obtain⟨pa,iQ,rfl,hc1,hc2,_⟩:=(show Aq w v T from⟨cs,hcs,hrr⟩).parts;have hT:=hok.len;unfold maxLen at hc2;have HC:=γ (θ dP (θ hcs (θ hrr hok)));have hfl:=wU k T;clear dP hcs hrr hok hk
 cases hg:(bY T k).isSome with
 |false=>have HG:=γ hg;have F:=γ (show dS k T=T by rw[zH HC.o.2.2.2.rises,if_neg (by rw[hg];decide)]);clear hg;go_enter Tryz.func150,Tryz.ntmps150;go_wp2_with fail;(with_reducible refine(xM D T k w HT.o HK.o).mono ?_);rintro e w1 ⟨rfl,k1⟩;rw[HG.o];go_wp2_with fail;go_ret;exact⟨by rw[HG.o];rfl,by rw[F.o];exact HT.o.pure k1,k1.pure,by rw[F.o];exact oV.same k1⟩
 |true=>
  have HG:=γ hg;have hil:aT k T<T.length:=(by obtain⟨c,hc⟩:=Option.isSome_iff_exists.1 hg;exact(μ.1 (IG HC.o.2.2.2.rises hc)).1);have F:=γ (show dS k T=T.take (aT k T)++T.drop (aT k T+1) by rw[zH HC.o.2.2.2.rises,if_pos hg]);clear hg;obtain⟨i,hi⟩: ∃i,aT k T=i:=⟨_,rfl⟩;rw[hi]at hil hfl F;have HI:=γ hi;clear hi;have htk:=OH (P:=Tryz.prog) Tryz.underlying101 wO HC.o.2.1 (k:=i) hfl;obtain⟨da,dn,dc,hdk,hdr⟩:=OI (P:=Tryz.prog) Tryz.underlying101 wO HC.o.2.1 (k:=i+1) (by omega);rw[show(((i+1:Nat)):Int)=(i:Int)+1 by omega]at hdk;have qJ:=γ htk;have HDK:=γ (θ hdk hdr);clear htk hdk hdr;go_enter Tryz.func150,Tryz.ntmps150;go_wp2_with fail;(with_reducible refine(xM D T k w HT.o HK.o).mono ?_);rintro e w1 ⟨rfl,k1⟩;rw[HG.o,HI.o];have K1:=γ k1;have c0:w1.cell? ⟨D,0,none⟩=some (.slice pa T.length iQ):=ζ (k1.heap HC.o.1 id) rfl;have hwi:IntKind.i64.wrap ((i:Int)+1)=(i:Int)+1:=IntWalk.i64_in _ (by omega);have kD:ε η w1 w1.drew:=δ.drew;have kN:ε η w1 (w1.drew.alloc (.cells #[] 122)):=kD.alloc _;have kw:=K1.o.trans kN;have hcl:=HC.o.2.2.1.1;obtain⟨v7,n7,w7,f1,f2,f3,f4⟩:=pJ (w:=w1.drew.alloc (.cells #[] 122)) (base:=w1.heap.size) (World.ownsRow_made w1.drew #[] 0 (ξ _) (Nat.zero_le _) rfl:(w1.drew.alloc (.cells #[] 122)).ownsRow w1.heap.size 122 3 (.slice (some ⟨w1.heap.size,0,none⟩) 0 0) 0 []) (qJ.o.2.pure kw) (HC.o.2.2.1.take i).cells kN.size (by simp;omega);obtain⟨a7,c7,rfl⟩:=au f2;have k7:ε η w1 w7:=kN.new (ε.grown (S:=fun j=>w1.heap.size<=j) f4 (fun j hj _=>by cases hj;exact ξ _)) (fun j hj hs=>by omega);obtain⟨v9,n9,w9,g1,g2,g3,g4⟩:=pJ f2 (HDK.o.2.pure (K1.o.trans k7)) (HC.o.2.2.1.drop (i+1)).cells k7.size (by simp;omega);obtain⟨a9,c9,rfl⟩:=au g2;have k9:ε η w1 w9:=k7.new (ε.grown (S:=fun j=>w1.heap.size<=j) g4 (fun j hj _=>(aU f2 hj).1)) (fun j hj hs=>by omega);have yx:=(K1.o.trans k9).heap HC.o.1 id;have c9':w9.cell? ⟨D,0,none⟩=some (.slice pa T.length iQ):=ζ yx rfl;have f9:=free_at yx 0;have hl9:=lt_of_block yx
  have FIN:=γ (show QL w D T k (.returned (.bool true)) (w9.setCell ⟨D,0,none⟩ (.slice a9 n9 c9))from by
   have Vr:cu w9 (cs.take (i*3)++cs.drop ((i+1)*3)) (T.take i++T.drop (i+1)):=((HC.o.2.2.1.take i).append (HC.o.2.2.1.drop (i+1))).pure (K1.o.trans k9);rw[List.nil_append]at g2;have ael:eP (T.take i++T.drop (i+1)):=(by rw[<-F.o];exact HC.o.2.2.2.dS k);have hRT:=RTabAt.afD yx (Reads.aN g2) Vr ael;refine⟨by rw[HG.o],by rw[F.o];exact hRT,(K1.o.trans k9).pure.trans ((ε.refl (one D) w9).setCell (p:=⟨D,0,none⟩) (.inl rfl) _),?_⟩;rw[F.o];have kb:ε (one D) w9 (w9.setCell ⟨D,0,none⟩ (.slice a9 n9 c9)):=(ε.refl (one D) w9).setCell (p:=⟨D,0,none⟩) (.inl rfl) _;have Qj:(w9.setCell ⟨D,0,none⟩ (.slice a9 n9 c9)).heap[D]?=some (.cells #[.slice a9 n9 c9] 103 (0,0)):=(by have:=bD yx 0 (.slice a9 n9 c9);simpa using this);have Qi:Reads (w9.setCell ⟨D,0,none⟩ (.slice a9 n9 c9)) 3 (.slice a9 n9 c9) (cs.take (i*3)++cs.drop ((i+1)*3)):=
    (Reads.aN g2).kept kb (fun bb hbb e=>(Reads.aN g2).qN yx (by omega) Vr.first bb hbb e)
   have hRR:cu (w9.setCell ⟨D,0,none⟩ (.slice a9 n9 c9)) (cs.take (i*3)++cs.drop ((i+1)*3)) (T.take i++T.drop (i+1)):=
    ⟨Vr.1,fun m p hp=>by
      obtain⟨a,b',lv,c',d⟩:=Vr.2 m p hp
      exact⟨a,b',lv,c',d.kept kb (fun bb hbb e=>d.qN yx (by omega) (fun y hy=>by
       obtain⟨q,ql⟩:=p
       cases hl:ql.2 with
       |nil=>rw[hl]at hy;cases hy
       |cons q l=>rw[hl]at hy;cases hy;exact⟨_,_,rfl⟩) bb hbb e)⟩⟩
   exact oV.of HC.o.1 HC.o.2.1 Qj Qi hRR ael (fun q hq=>by have:=(g2.lt q (uQ hq)).1;have:=K1.o.size;omega)
    (fun R hR hN=>gZ.append (n:=i) (by rw[υ];have:=HC.o.2.2.1.1;omega) (hR.take _) (hR.drop _)))
  have KD:=γ kD;have KN:=γ kN;have K7:=γ k7;have K9:=γ k9;have F1:=γ f1;have G1:=γ g1;clear f1 f2 f3 f4 g1 g2 g3 g4 kD kN kw k7 k9 yx k1;go_wp2_with fail;refine H2.fV [0,2,3,4,5,6,7,9,10,11,12,13,14,15,1,8,16,17,18,19] (fun W=>ε η w1 W) (by kernel_rfl) (by kernel_rfl) rfl KD.o ?_;simp only[abU];iterate 14 (first|(apply H2.eY rfl rfl;(intro W;go_simp;rfl);go_frame)|(apply H2.mM rfl rfl rfl;(intro W hW;have z0:=hW.cell (p:=⟨D,0,none⟩) id c0;have z1:=qJ.o.1 W;have z2:=HDK.o.1 W;go_simp;rfl);go_frame))
  apply H2.jP rfl rfl rfl;intro K hK;go_wp2_with fail;refine hK _ _ (fun _=>KN.o) ?_;clear hK;apply H2.jP rfl rfl rfl;intro K hK;refine wp_append_run (.tmp 15) (.tmp 21) 101 rfl (.slice (some ⟨w1.heap.size,0,none⟩) 0 0) (.slice pa i iQ) _ rfl rfl F1.o ?_;refine hK _ _ (fun _=>K7.o) ?_;clear hK;apply H2.jP rfl rfl rfl;intro K hK;refine wp_append_run (.tmp 22) (.tmp 29) 101 rfl (.slice a7 n7 c7) (.slice da dn dc) _ rfl rfl G1.o ?_;refine hK _ _ (fun _=>K9.o) ?_;clear hK;iterate 2 (apply H2.eY rfl rfl;(intro W;go_simp;rfl);go_frame)
  apply H2.jM rfl rfl rfl;intro K2 hK2;go_wp2_with fail;apply H2.oK;go_wp2_with fail;go_ret;exact FIN.o
end
section
open Go Go.RowKit
end
