/- ideal.Load: states in memory; the plain steps of loading; the walk. -/
import Derived.Test.YtglbkodmmogomaaGreatDoorI28
import Derived.Test.YtglbkodmmogomaaGreatDoorI25
set_option linter.unusedVariables false
set_option linter.unusedSimpArgs false
set_option maxHeartbeats 4000000
set_option maxRecDepth 100000
namespace Go.Proofs.YtglbkodmmogomaaGreatDoor
open Go Go.RowKit
attribute [local irreducible] cZ
def jc (l:List St):List Value:=l.flatMap fun s=>[.string s.1,.string s.2]
theorem uY: ∀l:List St,(jc l).length=l.length*2
 |[]=>rfl
 |s::l=>by have:=uY l;unfold jc at this⊢;rw[List.flatMap_cons,ν,this];simp;omega
theorem Ez: ∀{l:List St}{i:Nat}{s:St},l[i]?=some s->(jc l)[i*2]?=some (.string s.1)/\(jc l)[i*2+1]?=some (.string s.2)
 |x::l,0,s,h=>by cases h;exact⟨rfl,rfl⟩
 |x::l,i+1,s,h=>by have ih:=Ez (l:=l) (i:=i) (s:=s) (by simpa using h);rw[show(i+1)*2=i*2+1+1 by omega];unfold jc at ih⊢;rw[List.flatMap_cons];exact ih
theorem Reads.zL {w:World}{v:Value}{l:List St}(h:Reads w 2 v (jc l)): ∃a cap,v= .slice a l.length cap/\l.length<=cap/\cap<=maxLen/\
 (l=[]\/ ∃b off,a=some ⟨b,off,none⟩/\ ∀i s,l[i]?=some s->w.cell? ⟨b,off+i*2,none⟩=some (.string s.1)/\w.cell? ⟨b,off+i*2+1,none⟩=some (.string s.2)):=by
 obtain⟨a,n,cap,rfl,h1,h2,h3,h4⟩:=h;rw[uY]at h3;have hn:n=l.length:=(by omega);subst hn;refine⟨a,cap,rfl,h1,h2,?_⟩
 rcases h4 with h4|⟨b,off,hb,h4⟩
 ·left
  have:=congrArg List.length h4;rw[uY]at this;exact τ (by simp only[Γ]at this;omega)
 ·right
  refine⟨b,off,hb,fun i s hs=>?_⟩;obtain⟨q0,q1⟩:=Ez hs;have z0:=h4 _ _ q0;have z1:=h4 _ _ q1;rw[<-Nat.add_assoc]at z1;exact⟨z0,z1⟩
def rH (n:Nat)(Ts:Tabs)(pm:Nat->Nat×Nat):Prop:= ∀(q:Nat)(T:Tab),Ts[q]?=some (some T)->n<=(pm q).2
theorem rH.none (n:Nat)(nodes:List JN)(pm:Nat->Nat×Nat):rH n (dU nodes) pm:=fun q T hT=>by unfold dU at hT;rw[List.getElem?_replicate]at hT;split at hT<;>simp at hT
theorem rH.set {n:Nat}{Ts:Tabs}{pm:Nat->Nat×Nat}(h:rH n Ts pm){i b tm:Nat}{T:Tab}(ht:n<=tm):rH n (Ts.set i (some T)) (fun k=>if k=i then(b,tm)else pm k):=fun q U hU=>by
 show n<=(if q=i then(b,tm)else pm q).2;by_cases e:q=i
 ·rw[if_pos e];exact ht
 ·rw[if_neg e]
  rw[List.getElem?_set,if_neg (fun h=>e h.symm)]at hU;exact h q U hU
def qW (w:World)(j:Jb)(l:List St)(e:Ending)(w':World):Prop:=
 match og j l with
 | .ok Ts=> ∃b m pm,e= .returned (.tuple #[.pointer (some ⟨b,0,none⟩),.int .i64 0])/\vM w' b m j Ts pm/\w.heap.size<=m/\rH w.heap.size Ts pm/\ε η w w'
 | .error er=>e= .returned (.tuple #[.pointer none,.int .i64 er])/\er≠0/\ε η w w'
def ng (w:World)(v:Value)(j:Jb)(l:List St)(e:Ending)(w':World):Prop:=
 match og j l with
 | .ok Ts=> ∃b m pm,e= .returned (.tuple #[.pointer (some ⟨b,0,none⟩),.int .i64 0])/\w'.heap[b]?=some (.cells #[.int .i64 j.par,v,.map (some m)] 140 (0,0))/\w.heap.size<=b/\gI w' v j.nodes/\aH j.par/\w.heap.size<=m/\dN w' (up w.heap.size) m Ts pm/\rH w.heap.size Ts pm/\ε η w w'
 | .error er=>e= .returned (.tuple #[.pointer none,.int .i64 er])/\er≠0/\ε η w w'
theorem ng.q {w w':World}{v:Value}{j:Jb}{l:List St}{e:Ending}(h:ng w v j l e w'):qW w j l e w':=by
 unfold ng at h;unfold qW;split at h
 ·obtain⟨b,m,pm,h1,h2,_,h3,h4,h5,h6,h7,h8⟩:=h
  exact⟨b,m,pm,h1,⟨⟨v,h2,h3⟩,h4,h6.at_⟩,h5,h7,h8⟩
 ·exact h
theorem ng.bad {w w':World}{v:Value}{j:Jb}{l:List St}{er:Int}(h:og j l= .error er)(hne:er≠0)(hk:ε η w w'):ng w v j l (.returned (.tuple #[.pointer none,.int .i64 er])) w':=by unfold ng;rw[h];exact⟨rfl,hne,hk⟩
theorem Jm {j:Jb}{l:List St}(h:gu j=false):og j l= .error 2:=by unfold og;rw[if_neg (by rw[h];simp)]
theorem kG {j:Jb}{l:List St}(h:gu j=true){e:Int}(he:jg j.nodes l (dU j.nodes)= .error e):og j l= .error e:=by unfold og;rw[if_pos h,he]
theorem Pj {j:Jb}{l:List St}(h:gu j=true){Ts:Tabs}(he:jg j.nodes l (dU j.nodes)= .ok Ts):og j l= .ok (oh j.nodes Ts):=by unfold og;rw[if_pos h,he]
theorem EZ {α:Type}{l:List α}{k:Nat}{x:α}(h:l[k]?=some x):l.drop k=x::l.drop (k+1):=by obtain⟨hk,e⟩:=μ.1 h;rw[abS hk,e]
theorem rW {nodes:List JN}{l:List St}{Ts:Tabs}{s:St}(h:bP nodes s.1<0\/stateful (nodeAt nodes (bP nodes s.1)).kind=false\/(Ts.getD (bP nodes s.1).toNat none).isSome=true):jg nodes (s::l) Ts= .error 180:=by unfold jg;rw[if_pos h]
theorem FY {nodes:List JN}{l:List St}{Ts:Tabs}{s:St}{i:Nat}{d:JN}(hf:bP nodes s.1=(i:Int))(hd:nodes[i]?=some d)(hs:stateful d.kind=true)(hn:Ts.getD i none=none):
 jg nodes (s::l) Ts=match mZ s.2.data.toList with
  | .err e=> .error e
  | .ok T _=>if fD d.kind d.n T=true then jg nodes l (Ts.set i (some T))else .error 181:=by
 have hd':nodeAt nodes (bP nodes s.1)=d:=by unfold nodeAt;rw[hf];simp[σ,hd]
 rw[jg,hd',if_neg (by
  rw[hf,hs];simp only[Int.toNat_natCast,hn]
  simp),hf]
 rfl
def ig (nodes:List JN)(Ts:Tabs)(k:Nat):Tabs:=(oh nodes Ts).take k++Ts.drop k
theorem xO {nodes:List JN}{Ts:Tabs}(h:Ts.length=nodes.length):(oh nodes Ts).length=nodes.length:=by unfold oh;rw[List.length_zipWith,h,Nat.min_self]
theorem wL (nodes:List JN)(Ts:Tabs):ig nodes Ts 0=Ts:=by unfold ig;simp
theorem JD {nodes:List JN}{Ts:Tabs}(h:Ts.length=nodes.length):ig nodes Ts nodes.length=oh nodes Ts:=by unfold ig;rw[χ (by rw[xO h];exact ξ _),List.drop_of_length_le (by omega),List.append_nil]
theorem kT {nodes:List JN}{Ts:Tabs}(h:Ts.length=nodes.length){k:Nat}(hk:k<=nodes.length):(ig nodes Ts k).length=nodes.length:=by unfold ig;rw[ν,υ,List.length_drop,xO h];omega
theorem vV {nodes:List JN}{Ts:Tabs}(h:Ts.length=nodes.length){k:Nat}(hk:k<=nodes.length)(i:Nat):(ig nodes Ts k)[i]?=if i<k then(oh nodes Ts)[i]? else Ts[i]?:=by
 unfold ig;have hl:((oh nodes Ts).take k).length=k:=(by rw[υ,xO h];omega);by_cases hi:i<k
 ·rw[if_pos hi,Ω (by omega),abO,if_pos hi]
 ·rw[if_neg hi,Ψ (by omega),hl,List.getElem?_drop]
  congr 1;omega
theorem Qr {nodes:List JN}{Ts:Tabs}{k:Nat}{d:JN}(h:Ts.length=nodes.length)(hd:nodes[k]?=some d):(oh nodes Ts)[k]?=some (if(Ts.getD k none).isNone&&stateful d.kind then some []else Ts.getD k none):=by have hk:k<Ts.length:=(by rw[h];exact(μ.1 hd).1);unfold oh;rw[List.getElem?_zipWith,hd,ι hk];simp only[σ,ι hk,Δ]
theorem Af {nodes:List JN}{Ts:Tabs}(h:Ts.length=nodes.length){k:Nat}(hk:k<=nodes.length):(ig nodes Ts k).getD k none=Ts.getD k none:=by rw[σ,vV h hk,if_neg (by omega),<-σ]
theorem JC {nodes:List JN}{Ts:Tabs}(h:Ts.length=nodes.length){k:Nat}{d:JN}(hd:nodes[k]?=some d)(hn:Ts.getD k none=none)(hs:stateful d.kind=true):ig nodes Ts (k+1)=(ig nodes Ts k).set k (some []):=by
 have hk:k<nodes.length:=(μ.1 hd).1;apply List.ext_getElem?;intro i;rw[vV h (by omega),List.getElem?_set,vV h (by omega),kT h (by omega)];by_cases hik:k=i
 ·subst hik
  rw[if_pos (by omega),if_pos rfl,if_pos hk,Qr h hd,hn,hs];rfl
 ·rw[if_neg hik]
  by_cases hi:i<k
  ·rw[if_pos (by omega),if_pos hi]
  ·rw[if_neg (by omega),if_neg hi]
theorem Ae {nodes:List JN}{Ts:Tabs}(h:Ts.length=nodes.length){k:Nat}{d:JN}(hd:nodes[k]?=some d)(hn:(Ts.getD k none).isSome=true\/stateful d.kind=false):ig nodes Ts (k+1)=ig nodes Ts k:=by
 have hk:k<nodes.length:=(μ.1 hd).1;apply List.ext_getElem?;intro i;rw[vV h (by omega),vV h (by omega)];by_cases hi:i<k
 ·rw[if_pos (by omega),if_pos hi]
 ·rw[if_neg hi]
  by_cases hik:i=k
  ·subst hik
   rw[if_pos (by omega),Qr h hd];have hT:Ts[i]?=some (Ts.getD i none):=(by rw[σ,ι (by omega)];rfl);rw[hT]
   congr 1
   rcases hn with hn|hn
   ·cases e:Ts.getD i none with
    |none=>rw[e]at hn;cases hn
    |some x=>rfl
   ·rw[hn,Bool.and_false];rfl
  ·rw[if_neg (by omega)]
theorem Jl (j:Jb)(v:Value)(sv:Value)(l:List St)(w:World)(h:lK w #[.int .i64 j.par,v] j)(hs:Reads w 2 sv (jc l))(hsz: ∀s∈l,s.1.size<=maxLen/\s.2.size<=maxLen):
 Calls Tryz.prog 24 #[.agg #[.int .i64 j.par,v],sv] w (ng w v j l):=by
 have hJ:=h;obtain⟨v0,hv0,hn,hp⟩:=h
 injection hv0 with hv0
 injection hv0 with _ hv0
 injection hv0 with hv0 _
 subst hv0;obtain⟨na,cap,rfl,h1,h2,h3⟩:=hn.at;obtain⟨sa,scap,rfl,s1,s2,s3⟩:=hs.zL;unfold maxLen at h2 s2;have kA:ε η w (w.alloc (.cells #[.int .i64 j.par,.slice na j.nodes.length cap] 24)):=δ.alloc _;have H3:=γ (θ h3 (θ hJ (θ s3 (θ hsz hn))));have cm:=PE j _ _ (hJ.pure kA);have b0:(w.alloc (.cells #[.int .i64 j.par,.slice na j.nodes.length cap] 24)).cell? ⟨w.heap.size,0,none⟩=some (.int .i64 j.par):=(by simp);have b1:(w.alloc (.cells #[.int .i64 j.par,.slice na j.nodes.length cap] 24)).cell? ⟨w.heap.size,1,none⟩=some (.slice na j.nodes.length cap):=(by simp);have B0:=γ (θ b0 b1);have KA:=γ kA;have HP:=γ hp;clear b0 b1 kA h3 hn hJ s3 hs hsz hp;have HM:=γ (zX j);obtain⟨r1,hr1⟩: ∃r1,(gU j).1=r1:=⟨_,rfl⟩;obtain⟨r2,hr2⟩: ∃r2,(gU j).2=r2:=⟨_,rfl⟩;unfold ou at cm;rw[hr1,hr2]at cm;rw[hr2]at HM;clear hr1 hr2;go_enter Tryz.func24,Tryz.ntmps24;by_cases hz:r2=0
 ·have fU:=γ (show gu j=true by rw[HM.o];exact decide_eq_true hz)
  have hmm:= @run_makeMap Tryz.prog;go_wp2_with (go_at_call 41;refine cm.mono ?_;rintro e W0 ⟨rfl,k2⟩;have x0:=k2.cell id B0.o.1;have x1:=k2.cell id B0.o.2);obtain⟨W1,hW1⟩: ∃W1,((W0.alloc (.map #[] 0)).alloc (.cells #[.int .i64 j.par,.slice na j.nodes.length cap,.map (some W0.heap.size)] 140))=W1:=⟨_,rfl⟩;have Js:ε η W0 W1:=(by rw[<-hW1];exact(δ.alloc _).alloc _);have tb1:dN W1 (up w.heap.size) W0.heap.size (dU j.nodes) (fun _=>(0,0)):=(by rw[<-hW1];exact(dN.made W0 _ j.nodes _).pure ((ε.refl η _).alloc _));have ob1:W1.heap[W0.heap.size+1]?=some (.cells #[.int .i64 j.par,.slice na j.nodes.length cap,.map (some W0.heap.size)] 140 (0,0)):=(by rw[<-hW1];have:=heap_alloc_new (W0.alloc (.map #[] 0)) (.cells #[.int .i64 j.par,.slice na j.nodes.length cap,.map (some W0.heap.size)] 140);rwa[World.size_alloc]at this);rw[hW1];have hm1:W0.heap.size<W1.heap.size:=(by rw[<-hW1];simp;omega);have K1:=γ (θ ((KA.o.trans k2).trans Js) (θ (Js.cell id x0) (θ (Js.cell id x1) (θ tb1 (θ ob1 (θ (show w.heap.size<W0.heap.size by have:=block_lt_of_cell x0;simpa using this) hm1))))));clear hmm hW1 Js tb1 ob1 x0 x1 k2 B0 KA cm hm1;generalize W0.heap.size=M at*;go_loopg [33] l.length (fun g vi wr=> ∃(k:Nat)(Ts:Tabs)(pm:Nat->Nat×Nat),k<=l.length/\vi= .int .i64 (k:Int)/\l.length-k<=g/\jg j.nodes l (dU j.nodes)=jg j.nodes (l.drop k) Ts/\Ts.length=j.nodes.length/\dN wr (up w.heap.size) M Ts pm/\rH w.heap.size Ts pm/\ε (one M) W1 wr)
  case atStart=>exact⟨0,_,_,by omega,rfl,by omega,rfl,by simp[dU],K1.o.2.2.2.1,rH.none _ _ _,ε.refl _ _⟩
  case round=>
   obtain⟨k,Ts,pm,hkl,rfl,hg,hld,htl,htb,hnt,hkp⟩:=hrel;have NT:=γ hnt;clear hnt;have hMw: ¬one M w.heap.size:=fun e=>(by have h0:=K1.o.2.2.2.2.2.1;unfold one at e;omega);by_cases hlt:k<l.length
   ·obtain⟨s,hs⟩: ∃s,l[k]?=some s:=⟨_,ι hlt⟩
    obtain⟨bs,adP,rfl,hcs⟩:=H3.o.2.2.1.resolve_left (fun h=>by rw[h]at hlt;simp at hlt);have kw:ε η w wr:=K1.o.1.new hkp (fun i hi hs=>by have h0:=K1.o.2.2.2.2.2.1;unfold one at hs;omega);have y0:=kw.cell id (hcs k s hs).1;have y1:=kw.cell id (hcs k s hs).2;have x0:=hkp.cell (p:=⟨w.heap.size,0,none⟩) hMw K1.o.2.1;have x1:=hkp.cell (p:=⟨w.heap.size,1,none⟩) hMw K1.o.2.2.1;have ob:=hkp.heap K1.o.2.2.2.2.1 (fun e=>by unfold one at e;omega);have kA:ε η wr (wr.alloc (.cells #[.string s.1,.string s.2] 35)):=δ.alloc _;have stB:(wr.alloc (.cells #[.string s.1,.string s.2] 35)).heap[wr.heap.size]?=some (.cells #[.string s.1,.string s.2] 35 (0,0)):=heap_alloc_new _ _;have xlt:w.heap.size<wr.heap.size:=(by have:=block_lt_of_cell x0;simpa using this);have cc:=Qo j _ s.1 _ (H3.o.2.1.pure (kw.trans kA));have hdr:=EZ hs;rw[hdr]at hld;have PO:=H3.o.2.2.2.1 s (ς hs);have G:=γ (θ hg (θ hld (θ htl (θ htb (θ hkp (θ kw (θ kA (θ ob (θ stB PO)))))))));clear hg hld htl htb hkp kw kA ob stB PO hdr hcs hs;go_wp2_with fail;refine cc.mono ?_;clear cc;rintro e W2 ⟨rfl,k2⟩;have PD:ε η wr W2:=G.o.2.2.2.2.2.2.1.trans k2;have tbW:=G.o.2.2.2.1.pure PD;have obW:=PD.heap G.o.2.2.2.2.2.2.2.1 id;have stW:=k2.heap G.o.2.2.2.2.2.2.2.2.1 id;have x0:=PD.cell (p:=⟨w.heap.size,0,none⟩) id x0;have x1:=PD.cell (p:=⟨w.heap.size,1,none⟩) id x1;have m2:W2.cell? ⟨M+1,2,none⟩=some (.map (some M)):=ζ obW rfl;have z1:W2.cell? ⟨wr.heap.size,1,none⟩=some (.string s.2):=ζ stW rfl;have KW:=γ (θ PD (θ tbW (θ obW (θ stW (G.o.2.2.2.2.2.1.trans PD)))));clear PD tbW obW stW k2 y0 y1
    rcases vJ j.nodes s.1 with⟨hf,-⟩|⟨i,d,hf,hd,-,hna,-⟩
    ·have hlk:=KW.o.2.1.at_.Yv (-1) (.inl (by decide))
     have F:=γ (ng.bad (v:= .slice na j.nodes.length cap) (w:=w) (w':=W2) (kG fU.o (by rw[G.o.2.1];exact rW (.inl (by rw[hf];decide)))) (by decide) KW.o.2.2.2.2);rw[hf];clear hf;go_wp2_with fail;go_ret2;exact F.o
    ·have hil:i<j.nodes.length:=(μ.1 hd).1
     have hlk:=KW.o.2.1.at_.lookup i (by rw[G.o.2.2.1];exact hil);rw[hf]
     cases hno:Ts.getD i none with
     |some T0=>rw[hno]at hlk;have F:=γ (ng.bad (v:= .slice na j.nodes.length cap) (w:=w) (w':=W2) (kG fU.o (by rw[G.o.2.1];exact rW (.inr (.inr (by rw[hf,Int.toNat_natCast,hno];rfl))))) (by decide) KW.o.2.2.2.2);simp only[l7,Option.map_some,Δ,Option.isSome_some]at hlk;clear hf hno;go_wp2_with fail;go_ret2;exact F.o
     |none=>
      rw[hno]at hlk;simp only[l7,Option.map_none,Option.getD_none,Option.isSome_none]at hlk;obtain⟨b,off,pi,ci,p,cap',rfl,hc,hj⟩:=H3.o.1 i d hd;obtain⟨c0,c1,c2,c3,c4,c5,c6⟩:=hc.kept KW.o.2.2.2.2 id;have cs:=wV d.kind W2;have hNA:=γ hna;have HF:=γ (θ hf (θ hd hno));have A8:=γ hj;clear hf hd hno hna hj hc
      cases hst:stateful d.kind with
      |false=>rw[hst]at cs;have F:=γ (ng.bad (v:= .slice (some ⟨b,off,none⟩) j.nodes.length cap) (w:=w) (w':=W2) (kG fU.o (by rw[G.o.2.1];exact rW (.inr (.inl (by rw[hNA.o];exact hst))))) (by decide) KW.o.2.2.2.2);clear hst;go_wp2_with (go_at_call 59;refine cs.mono ?_;rintro e w' ⟨rfl,rfl⟩);go_ret2;exact F.o
      |true=>
       rw[hst]at cs;have HST:=γ hst;clear hst;go_wp2_with (go_at_call 59;refine cs.mono ?_;rintro e w' ⟨rfl,rfl⟩);clear cs;have ct:=take_any s.2 G.o.2.2.2.2.2.2.2.2.2.2 W2;unfold iU at ct;have hlt2:=FY (l:=l.drop (k+1)) HF.o.1 HF.o.2.1 HST.o HF.o.2.2
       cases ht:mZ s.2.data.toList with
       |err f=>rw[ht]at ct hlt2;(with_reducible refine ct.mono ?_);clear ct;rintro e W3 ⟨rfl,hf0,k3⟩;have F:=γ (ng.bad (v:= .slice (some ⟨b,off,none⟩) j.nodes.length cap) (w:=w) (w':=W3) (kG fU.o (by rw[G.o.2.1];exact hlt2)) hf0 (KW.o.2.2.2.2.trans k3));clear hlt2 ht;go_wp2_with fail;go_ret2;exact F.o
       |ok T rest=>
        rw[ht]at ct hlt2;(with_reducible refine ct.mono ?_);clear ct;rintro e W3 ⟨tb,tm,rfl,tT,k3⟩;have um:=KW.o.2.2.2.2.trans k3;have x0:=k3.cell (p:=⟨w.heap.size,0,none⟩) id x0;have x1:=k3.cell (p:=⟨w.heap.size,1,none⟩) id x1;have c0:=k3.cell id c0;have c1:=k3.cell id c1;have c2:=k3.cell id c2;have c3:=k3.cell id c3;have c4:=k3.cell id c4;have c5:=k3.cell id c5;have c6:=k3.cell id c6;have m2:=k3.cell (p:=⟨M+1,2,none⟩) id m2;have cf:=fits_any d _ _ tb tm T W3 (A8.o.pure um) tT;have QW:=γ hlt2;have T3:=γ (θ tT (θ k3 um));clear hlt2 ht tT k3 um hlk
        cases hfit:fD d.kind d.n T with
        |false=>rw[hfit]at cf;have F:=γ (fun w' hk=>ng.bad (v:= .slice (some ⟨b,off,none⟩) j.nodes.length cap) (w:=w) (w':=w') (kG fU.o (by rw[G.o.2.1,QW.o];show(if fD d.kind d.n T=true then _ else _)=_;rw[if_neg (by rw[hfit];simp)])) (show(181:Int)≠0 by decide) hk);clear hfit;go_wp2_with fail;(with_reducible refine cf.mono ?_);clear cf;rintro e W4 ⟨rfl,k4⟩;go_wp2_with fail;go_ret2;exact F.o _ (T3.o.2.2.trans k4)
        |true=>
         rw[hfit]at cf;have QX:=γ (show jg j.nodes l (dU j.nodes)=jg j.nodes (l.drop (k+1)) (Ts.set i (some T)) by rw[G.o.2.1,QW.o];show(if fD d.kind d.n T=true then _ else _)=_;rw[if_pos hfit]);clear hfit;go_wp2_with fail;(with_reducible refine cf.mono ?_);clear cf;rintro e W4 ⟨rfl,k4⟩;have m2:=k4.cell (p:=⟨M+1,2,none⟩) id m2;have hfr:=KW.o.2.1.at_.fresh T3.o.1.hm;obtain⟨w5,hup,u2,u3,u4⟩:=((KW.o.2.1.pure T3.o.2.1).pure k4).update (i:=i) (by rw[G.o.2.2.1];exact hil) HF.o.2.2 ((T3.o.1.mono (fun q hq _=>ω KW.o.2.2.2.2.size hq)).pure k4) hfr.1 hfr.2;have hnw:=NT.o.set (i:=i) (b:=tb) (T:=T) (tm:=tm) (ω (KW.o.2.2.2.2.size) T3.o.1.hm);have Z:=γ (θ u2 (θ hnw ((G.o.2.2.2.2.1.new (KW.o.1.trans (T3.o.2.1.trans k4)) (fun _ _ h=>h.elim)).new u3 (fun _ _ h=>h))));clear hnw;clear u2 u3 u4 hfr k4 x0 x1 c0 c1 c2 c3 c4 c5 c6;go_wp2_with fail;go_roundg (l.length-(k+1))
         case rel=>exact⟨k+1,_,_,by omega,by go_num,ξ _,QX.o,by rw[List.length_set];exact G.o.2.2.1,Z.o⟩
         case measure=>have:=G.o.1;omega
   ·have e1:k=l.length:=by omega
    subst e1;rw[List.drop_of_length_le (ξ _)]at hld;have QX:=γ (Pj fU.o (show jg j.nodes l (dU j.nodes)= .ok Ts by rw[hld];rfl));have x0:=hkp.cell (p:=⟨w.heap.size,0,none⟩) hMw K1.o.2.1;have x1:=hkp.cell (p:=⟨w.heap.size,1,none⟩) hMw K1.o.2.2.1;have HT:=γ (θ htl (θ htb hkp));clear hld htl htb hkp hg hlt;go_wp2_with fail;clear x0 x1;go_loopg [94] j.nodes.length (fun g vi wq=> ∃(k:Nat)(pm:Nat->Nat×Nat),k<=j.nodes.length/\vi= .int .i64 (k:Int)/\j.nodes.length-k<=g/\dN wq (up w.heap.size) M (ig j.nodes Ts k) pm/\rH w.heap.size (ig j.nodes Ts k) pm/\ε (one M) W1 wq)
    case atStart=>exact⟨0,pm,by omega,rfl,by omega,by rw[wL];exact HT.o.2.1,by rw[wL];exact NT.o,HT.o.2.2⟩
    case round=>
     obtain⟨k,BI,hkn,rfl,hg,htb,aem,hkp⟩:=hrel;have NT2:=γ aem;clear aem;have kw:ε η w wr:=K1.o.1.new hkp (fun i hi hs=>by have h0:=K1.o.2.2.2.2.2.1;unfold one at hs;omega);have ob:=hkp.heap K1.o.2.2.2.2.1 (fun e=>by unfold one at e;omega);have CS:=γ kw.size;by_cases hlt:k<j.nodes.length
     ·obtain⟨d,hd⟩: ∃d,j.nodes[k]?=some d:=⟨_,ι hlt⟩
      obtain⟨b,off,pi,ci,p,cap',rfl,hc,hj⟩:=H3.o.1 k d hd;obtain⟨c0,c1,c2,c3,c4,c5,c6⟩:=hc.kept kw id;have m2:wr.cell? ⟨M+1,2,none⟩=some (.map (some M)):=ζ ob rfl;have mlt:M+1<wr.heap.size:=(by have:=block_lt_of_cell m2;simpa using this);have kA:ε η wr (wr.alloc (.cells (bG d pi ci p cap') 42)):=δ.alloc _;have hlk:=(htb.pure kA).at_.lookup k (by rw[kT HT.o.1 hkn];exact hlt);rw[Af HT.o.1 hkn]at hlk;have m2a:=kA.cell (p:=⟨M+1,2,none⟩) id m2;have nB:(wr.alloc (.cells (bG d pi ci p cap') 42)).heap[wr.heap.size]?=some (.cells (bG d pi ci p cap') 42 (0,0)):=heap_alloc_new _ _;have n1:(wr.alloc (.cells (bG d pi ci p cap') 42)).cell? ⟨wr.heap.size,1,none⟩=some (.int .u8 d.kind):=ζ nB rfl;have G:=γ (θ hg (θ htb (θ hkp (θ hd kA))));have cs:=wV d.kind (wr.alloc (.cells (bG d pi ci p cap') 42));clear hg htb hkp hd kA hj hc nB kw ob H3
      cases hno:Ts.getD k none with
      |some T0=>
       rw[hno]at hlk;simp only[l7,Option.map_some,Δ,Option.isSome_some]at hlk;have F:=γ (Ae HT.o.1 G.o.2.2.2.1 (.inl (by rw[hno];rfl)));clear hno cs;go_wp2_with fail;go_roundg (j.nodes.length-(k+1))
       case rel=>exact⟨k+1,BI,by omega,by go_num,ξ _,by rw[F.o];exact G.o.2.1.pure G.o.2.2.2.2,by rw[F.o];exact NT2.o,G.o.2.2.1.new G.o.2.2.2.2 (fun _ _ h=>h.elim)⟩
       case measure=>have:=G.o.1;omega
      |none=>
       rw[hno]at hlk;simp only[l7,Option.map_none,Option.getD_none,Option.isSome_none]at hlk;have HN:=γ hno;clear hno
       cases hst:stateful d.kind with
       |false=>
        rw[hst]at cs;have F:=γ (Ae HT.o.1 G.o.2.2.2.1 (.inr hst));clear hst;go_wp2_with (go_at_call 59;refine cs.mono ?_;rintro e w' ⟨rfl,rfl⟩);go_roundg (j.nodes.length-(k+1))
        case rel=>exact⟨k+1,BI,by omega,by go_num,ξ _,by rw[F.o];exact G.o.2.1.pure G.o.2.2.2.2,by rw[F.o];exact NT2.o,G.o.2.2.1.new G.o.2.2.2.2 (fun _ _ h=>h.elim)⟩
        case measure=>have:=G.o.1;omega
       |true=>
        rw[hst]at cs;have F:=γ (JC HT.o.1 G.o.2.2.2.1 HN.o hst);clear hst;go_wp2_with (go_at_call 59;refine cs.mono ?_;rintro e w' ⟨rfl,rfl⟩);clear cs hlk;obtain⟨WA,zn⟩:=acf ((wr.alloc (.cells (bG d pi ci p cap') 42)));rw[zn]at G m2a;have Cj:(wr.alloc (.cells #[.string d.uid,.int .u8 d.kind,.slice pi d.ins.length ci,.int .u8 d.x.op,.int .i64 d.x.n,.slice p d.x.args.length cap',.int .i64 d.n] 42))=WA:=zn;try rw[Cj]
        clear zn Cj n1 m2 mlt c0 c1 c2 c3 c4 c5 c6;refine ak [0,1,2,3,4,5,6] (fun W=>ε η WA W) (by kernel_rfl) (by kernel_rfl) rfl δ.drew ?_;simp only[abU];iterate 5 (apply aj rfl rfl;(intro W hW;have z0:=hW.cell id m2a;go_simp;rfl);go_frame)
        apply aA rfl rfl;intro K hK;go_wp2_with fail;(with_reducible refine(new_any _).mono ?_);rintro e w5 ⟨b5,m5,rfl,t5,k5⟩;go_wp2_with fail;refine hK _ _ (fun _=>(ε.refl η WA).drew.trans k5) ?_;clear hK;have hfr:=(G.o.2.1.pure (G.o.2.2.2.2.trans ((ε.refl η WA).drew))).at_.fresh t5.hm;obtain⟨w6,hup,u2,u3,u4⟩:=(G.o.2.1.pure (G.o.2.2.2.2.trans ((ε.refl η WA).drew.trans k5))).update (i:=k) (by rw[kT HT.o.1 hkn];exact hlt) (by rw[Af HT.o.1 hkn];exact HN.o) (t5.mono (fun q hq _=>ω CS.o (ω G.o.2.2.2.2.size (ω (ε.refl η WA).drew.size hq)))) hfr.1 hfr.2;have hnw:=NT2.o.set (i:=k) (b:=b5) (T:=[]) (tm:=m5) (ω (G.o.2.2.2.2.size) (ω ((ε.refl η WA).drew.size) t5.hm)|>ω CS.o);rw[<-F.o]at u2 hnw;have Z:=γ (θ u2 (θ hnw ((G.o.2.2.1.new (G.o.2.2.2.2.trans ((ε.refl η WA).drew.trans k5)) (fun _ _ h=>h.elim)).new u3 (fun _ _ h=>h))));clear u2 u3 u4 hfr t5 k5 m2a hnw;apply aA rfl rfl;intro K2 hK2;go_wp2_with fail;refine hK2 _ _ (fun h=>absurd rfl h) (jo (by kernel_rfl) ?_);clear hK2;go_wp2_with fail;go_roundg (j.nodes.length-(k+1))
        case rel=>exact⟨k+1,_,by omega,by go_num,ξ _,Z.o⟩
        case measure=>have:=G.o.1;omega
     ·have e1:k=j.nodes.length:=by omega
      subst e1;have aaT:=NT2.o;rw[JD HT.o.1]at htb aaT
      have F:=γ (show ng w (.slice na j.nodes.length cap) j l (.returned (.tuple #[.pointer (some ⟨M+1,0,none⟩),.int .i64 0])) wr by
       unfold ng;rw[QX.o]
       exact⟨M+1,M,BI,rfl,ob,Nat.le_of_lt (Nat.lt_succ_of_lt K1.o.2.2.2.2.2.1),H3.o.2.2.2.2.pure kw,HP.o,Nat.le_of_lt K1.o.2.2.2.2.2.1,htb,aaT,kw⟩)
      clear htb hkp kw ob hg hlt aaT;go_wp2_with fail;go_ret2;exact F.o
 ·have F:=γ (fun w' hk=>ng.bad (v:= .slice na j.nodes.length cap) (w:=w) (w':=w') (Jm (l:=l) (show gu j=false by rw[HM.o];exact decide_eq_false hz)) (by decide) hk)
  go_wp2_with (go_at_call 41;refine cm.mono ?_;rintro e W0 ⟨rfl,k2⟩);go_ret2;exact F.o _ (KA.o.trans k2)
theorem aaF (j:Jb)(a:Array Value)(sv:Value)(l:List St)(w:World)(h:lK w a j)(hs:Reads w 2 sv (jc l))(hsz: ∀s∈l,s.1.size<=maxLen/\s.2.size<=maxLen):
 Calls Tryz.prog 24 #[.agg a,sv] w (qW w j l):=by
 have h':=h;obtain⟨v,rfl,_,_⟩:=h;exact(Jl j v sv l w h' hs hsz).mono (fun _ _ h=>h.q)
