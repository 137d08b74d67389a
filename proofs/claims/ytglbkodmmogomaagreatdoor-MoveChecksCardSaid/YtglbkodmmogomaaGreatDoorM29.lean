/- ideal.Load: states in memory; the plain steps of loading; the walk. -/
import Derived.Test.YtglbkodmmogomaaGreatDoorM28
import Derived.Test.YtglbkodmmogomaaGreatDoorM24
set_option linter.unusedVariables false
set_option linter.unusedSimpArgs false
set_option maxHeartbeats 4000000
set_option maxRecDepth 100000
namespace Go.Proofs.YtglbkodmmogomaaGreatDoor
open Go Go.RowKit
attribute [local irreducible] bH
def dK (l:List St):List Value:=l.flatMap fun s=>[.string s.1, .string s.2]
theorem pK: ∀l:List St,(dK l).length=l.length*2
 |[]=>rfl
 |s::l=>by
  have:=pK l
  unfold dK at this⊢
  rw[List.flatMap_cons,List.length_append,this]
  simp;omega
theorem y9: ∀{l:List St}{i:Nat}{s:St},l[i]?=some s->(dK l)[i*2]?=some (.string s.1)/\(dK l)[i*2+1]?=some (.string s.2)
 |x::l,0,s,h=>by
  cases h
  exact⟨rfl,rfl⟩
 |x::l,i+1,s,h=>by
  have ih:=y9 (l:=l) (i:=i) (s:=s) (by simpa using h)
  rw[show(i+1)*2=i*2+1+1 by omega]
  unfold dK at ih⊢
  rw[List.flatMap_cons]
  exact ih
theorem Reads.mV {w:World}{v:Value}{l:List St}(h:Reads w 2 v (dK l)): ∃a cap,v= .slice a l.length cap/\l.length<=cap/\cap<=maxLen/\
 (l=[]\/ ∃b off,a=some ⟨b,off,none⟩/\ ∀i s,l[i]?=some s->w.cell? ⟨b,off+i*2,none⟩=some (.string s.1)/\w.cell? ⟨b,off+i*2+1,none⟩=some (.string s.2)):=by
 obtain⟨a,n,cap,rfl,h1,h2,h3,h4⟩:=h
 rw[pK]at h3
 have hn:n=l.length:=by omega
 subst hn
 refine⟨a,cap,rfl,h1,h2,?_⟩
 rcases h4 with h4|⟨b,off,hb,h4⟩
 ·left
  have:=congrArg List.length h4
  rw[pK]at this
  exact List.eq_nil_of_length_eq_zero (by simp only[List.length_nil]at this;omega)
 ·right
  refine⟨b,off,hb,fun i s hs=>?_⟩
  obtain⟨q0,q1⟩:=y9 hs
  have z0:=h4 _ _ q0
  have z1:=h4 _ _ q1
  rw[<-Nat.add_assoc]at z1
  exact⟨z0,z1⟩
def um (n:Nat)(Ts:Tabs)(pm:Nat->Nat×Nat):Prop:= ∀(q:Nat)(T:Tab),Ts[q]?=some (some T)->n<=(pm q).2
theorem um.none (n:Nat)(nodes:List JN)(pm:Nat->Nat×Nat):um n (bf nodes) pm:=fun q T hT=>by
 unfold bf at hT
 rw[List.getElem?_replicate]at hT
 split at hT<;>simp at hT
theorem um.set {n:Nat}{Ts:Tabs}{pm:Nat->Nat×Nat}(h:um n Ts pm){i b tm:Nat}{T:Tab}(ht:n<=tm):um n (Ts.set i (some T)) (fun k=>if k=i then(b,tm)else pm k):=fun q U hU=>by
 show n<=(if q=i then(b,tm)else pm q).2
 by_cases e:q=i
 ·rw[if_pos e];exact ht
 ·rw[if_neg e]
  rw[List.getElem?_set,if_neg (fun h=>e h.symm)]at hU
  exact h q U hU
def kF (w:World)(j:Jb)(l:List St)(e:Ending)(w':World):Prop:=
 match dH j l with
 | .ok Ts=> ∃b m pm,e= .returned (.tuple #[.pointer (some ⟨b,0,none⟩), .int .i64 0])/\tC w' b m j Ts pm/\w.heap.size<=m/\um w.heap.size Ts pm/\Kept none' w w'
 | .error er=>e= .returned (.tuple #[.pointer none, .int .i64 er])/\er≠0/\Kept none' w w'
def kC (w:World)(v:Value)(j:Jb)(l:List St)(e:Ending)(w':World):Prop:=
 match dH j l with
 | .ok Ts=> ∃b m pm,e= .returned (.tuple #[.pointer (some ⟨b,0,none⟩), .int .i64 0])/\w'.heap[b]?=some (.cells #[.int .i64 j.par,v, .map (some m)] 140 (0,0))/\w.heap.size<=b/\fG w' v j.nodes/\bF j.par/\w.heap.size<=m/\dZ w' (up w.heap.size) m Ts pm/\um w.heap.size Ts pm/\Kept none' w w'
 | .error er=>e= .returned (.tuple #[.pointer none, .int .i64 er])/\er≠0/\Kept none' w w'
theorem kC.q {w w':World}{v:Value}{j:Jb}{l:List St}{e:Ending}(h:kC w v j l e w'):kF w j l e w':=by
 unfold kC at h
 unfold kF
 split at h
 ·obtain⟨b,m,pm,h1,h2,_,h3,h4,h5,h6,h7,h8⟩:=h
  exact⟨b,m,pm,h1,⟨⟨v,h2,h3⟩,h4,h6.at_⟩,h5,h7,h8⟩
 ·exact h
theorem kC.bad {w w':World}{v:Value}{j:Jb}{l:List St}{er:Int}(h:dH j l= .error er)(hne:er≠0)(hk:Kept none' w w'):kC w v j l (.returned (.tuple #[.pointer none, .int .i64 er])) w':=by
 unfold kC;rw[h];exact⟨rfl,hne,hk⟩
theorem kF.bad {w w':World}{j:Jb}{l:List St}{er:Int}(h:dH j l= .error er)(hne:er≠0)(hk:Kept none' w w'):kF w j l (.returned (.tuple #[.pointer none, .int .i64 er])) w':=by
 unfold kF;rw[h];exact⟨rfl,hne,hk⟩
theorem Dp {j:Jb}{l:List St}(h:fU j=false):dH j l= .error 2:=by
 unfold dH;rw[if_neg (by rw[h];simp)]
theorem iO {j:Jb}{l:List St}(h:fU j=true){e:Int}(he:bT j.nodes l (bf j.nodes)= .error e):dH j l= .error e:=by
 unfold dH;rw[if_pos h,he]
theorem vC {j:Jb}{l:List St}(h:fU j=true){Ts:Tabs}(he:bT j.nodes l (bf j.nodes)= .ok Ts):dH j l= .ok (gV j.nodes Ts):=by
 unfold dH;rw[if_pos h,he]
theorem vS {α:Type}{l:List α}{k:Nat}{x:α}(h:l[k]?=some x):l.drop k=x::l.drop (k+1):=by
 obtain⟨hk,e⟩:=List.getElem?_eq_some_iff.1 h
 rw[List.drop_eq_getElem_cons hk,e]
theorem nP {nodes:List JN}{l:List St}{Ts:Tabs}{s:St}(h:aA nodes s.1<0\/stateful (nodeAt nodes (aA nodes s.1)).kind=false\/(Ts.getD (aA nodes s.1).toNat none).isSome=true):bT nodes (s::l) Ts= .error 180:=by
 unfold bT;rw[if_pos h]
theorem vF {nodes:List JN}{l:List St}{Ts:Tabs}{s:St}{i:Nat}{d:JN}(hf:aA nodes s.1=(i:Int))(hd:nodes[i]?=some d)(hs:stateful d.kind=true)(hn:Ts.getD i none=none):
 bT nodes (s::l) Ts=match gK s.2.data.toList with
  | .err e=> .error e
  | .ok T _=>if dD d.kind d.n T=true then bT nodes l (Ts.set i (some T))else .error 181:=by
 have hd':nodeAt nodes (aA nodes s.1)=d:=by
  unfold nodeAt;rw[hf];simp[List.getD_eq_getElem?_getD,hd]
 rw[bT,hd',if_neg (by
  rw[hf,hs]
  simp only[Int.toNat_natCast,hn]
  simp),hf]
 rfl
def fB (nodes:List JN)(Ts:Tabs)(k:Nat):Tabs:=(gV nodes Ts).take k++Ts.drop k
theorem jQ {nodes:List JN}{Ts:Tabs}(h:Ts.length=nodes.length):(gV nodes Ts).length=nodes.length:=by
 unfold gV;rw[List.length_zipWith,h,Nat.min_self]
theorem qV (nodes:List JN)(Ts:Tabs):fB nodes Ts 0=Ts:=by unfold fB;simp
theorem DT {nodes:List JN}{Ts:Tabs}(h:Ts.length=nodes.length):fB nodes Ts nodes.length=gV nodes Ts:=by
 unfold fB
 rw[List.take_of_length_le (by rw[jQ h];exact Nat.le_refl _),List.drop_of_length_le (by omega),List.append_nil]
theorem iT {nodes:List JN}{Ts:Tabs}(h:Ts.length=nodes.length){k:Nat}(hk:k<=nodes.length):(fB nodes Ts k).length=nodes.length:=by
 unfold fB
 rw[List.length_append,List.length_take,List.length_drop,jQ h];omega
theorem qC {nodes:List JN}{Ts:Tabs}(h:Ts.length=nodes.length){k:Nat}(hk:k<=nodes.length)(i:Nat):(fB nodes Ts k)[i]?=if i<k then(gV nodes Ts)[i]? else Ts[i]?:=by
 unfold fB
 have hl:((gV nodes Ts).take k).length=k:=by rw[List.length_take,jQ h];omega
 by_cases hi:i<k
 ·rw[if_pos hi,List.getElem?_append_left (by omega),List.getElem?_take,if_pos hi]
 ·rw[if_neg hi,List.getElem?_append_right (by omega),hl,List.getElem?_drop]
  congr 1;omega
theorem vN {nodes:List JN}{Ts:Tabs}{k:Nat}{d:JN}(h:Ts.length=nodes.length)(hd:nodes[k]?=some d):(gV nodes Ts)[k]?=some (if(Ts.getD k none).isNone&&stateful d.kind then some []else Ts.getD k none):=by
 have hk:k<Ts.length:=by rw[h];exact(List.getElem?_eq_some_iff.1 hd).1
 unfold gV
 rw[List.getElem?_zipWith,hd,List.getElem?_eq_getElem hk]
 simp only[List.getD_eq_getElem?_getD,List.getElem?_eq_getElem hk,Option.getD_some]
theorem vP {nodes:List JN}{Ts:Tabs}(h:Ts.length=nodes.length){k:Nat}(hk:k<=nodes.length):(fB nodes Ts k).getD k none=Ts.getD k none:=by
 rw[List.getD_eq_getElem?_getD,qC h hk,if_neg (by omega),<-List.getD_eq_getElem?_getD]
theorem DN {nodes:List JN}{Ts:Tabs}(h:Ts.length=nodes.length){k:Nat}{d:JN}(hd:nodes[k]?=some d)(hn:Ts.getD k none=none)(hs:stateful d.kind=true):fB nodes Ts (k+1)=(fB nodes Ts k).set k (some []):=by
 have hk:k<nodes.length:=(List.getElem?_eq_some_iff.1 hd).1
 apply List.ext_getElem?
 intro i
 rw[qC h (by omega),List.getElem?_set,qC h (by omega),iT h (by omega)]
 by_cases hik:k=i
 ·subst hik
  rw[if_pos (by omega),if_pos rfl,if_pos hk,vN h hd,hn,hs]
  rfl
 ·rw[if_neg hik]
  by_cases hi:i<k
  ·rw[if_pos (by omega),if_pos hi]
  ·rw[if_neg (by omega),if_neg hi]
theorem vO {nodes:List JN}{Ts:Tabs}(h:Ts.length=nodes.length){k:Nat}{d:JN}(hd:nodes[k]?=some d)(hn:(Ts.getD k none).isSome=true\/stateful d.kind=false):fB nodes Ts (k+1)=fB nodes Ts k:=by
 have hk:k<nodes.length:=(List.getElem?_eq_some_iff.1 hd).1
 apply List.ext_getElem?
 intro i
 rw[qC h (by omega),qC h (by omega)]
 by_cases hi:i<k
 ·rw[if_pos (by omega),if_pos hi]
 ·rw[if_neg hi]
  by_cases hik:i=k
  ·subst hik
   rw[if_pos (by omega),vN h hd]
   have hT:Ts[i]?=some (Ts.getD i none):=by
    rw[List.getD_eq_getElem?_getD,List.getElem?_eq_getElem (by omega)];rfl
   rw[hT]
   congr 1
   rcases hn with hn|hn
   ·cases e:Ts.getD i none with
    |none=>rw[e]at hn;cases hn
    |some x=>rfl
   ·rw[hn,Bool.and_false];rfl
  ·rw[if_neg (by omega)]
theorem Na (j:Jb)(v:Value)(sv:Value)(l:List St)(w:World)(h:fA w #[.int .i64 j.par,v] j)(hs:Reads w 2 sv (dK l))(hsz: ∀s∈l,s.1.size<=maxLen/\s.2.size<=maxLen):
 Calls Tryz.prog 24 #[.agg #[.int .i64 j.par,v],sv] w (kC w v j l):=by
 have hJ:=h
 obtain⟨v0,hv0,hn,hp⟩:=h
 injection hv0 with hv0
 injection hv0 with _ hv0
 injection hv0 with hv0 _
 subst hv0
 obtain⟨na,cap,rfl,h1,h2,h3⟩:=hn.at
 obtain⟨sa,scap,rfl,s1,s2,s3⟩:=hs.mV
 unfold maxLen at h2 s2
 have kA:Kept none' w (w.alloc (.cells #[.int .i64 j.par, .slice na j.nodes.length cap] 24)):=(Kept.refl _ _).alloc _
 have H3:=Lib.hid (And.intro h3 (And.intro hJ (And.intro s3 (And.intro hsz hn))))
 have cm:=zo j _ _ (hJ.pure kA)
 have b0:(w.alloc (.cells #[.int .i64 j.par, .slice na j.nodes.length cap] 24)).cell? ⟨w.heap.size,0,none⟩=some (.int .i64 j.par):=by simp
 have b1:(w.alloc (.cells #[.int .i64 j.par, .slice na j.nodes.length cap] 24)).cell? ⟨w.heap.size,1,none⟩=some (.slice na j.nodes.length cap):=by simp
 have B0:=Lib.hid (And.intro b0 b1)
 have KA:=Lib.hid kA
 have HP:=Lib.hid hp
 clear b0 b1 kA h3 hn hJ s3 hs hsz hp
 have HM:=Lib.hid (oI j)
 obtain⟨r1,hr1⟩: ∃r1,(dM j).1=r1:=⟨_,rfl⟩
 obtain⟨r2,hr2⟩: ∃r2,(dM j).2=r2:=⟨_,rfl⟩
 unfold jI at cm
 rw[hr1,hr2]at cm
 rw[hr2]at HM
 clear hr1 hr2
 go_enter Tryz.func24,Tryz.ntmps24
 by_cases hz:r2=0
 ·have lW:=Lib.hid (show fU j=true by rw[HM.out];exact decide_eq_true hz)
  have hmm:= @run_makeMap Tryz.prog
  go_wp2_with (go_at_call 41;refine cm.mono ?_;rintro e W0 ⟨rfl,k2⟩;have x0:=k2.cell (fun h=>h) B0.out.1;have x1:=k2.cell (fun h=>h) B0.out.2)
  obtain⟨W1,hW1⟩: ∃W1,((W0.alloc (.map #[] 0)).alloc (.cells #[.int .i64 j.par, .slice na j.nodes.length cap, .map (some W0.heap.size)] 140))=W1:=⟨_,rfl⟩
  have Dw:Kept none' W0 W1:=by rw[<-hW1];exact((Kept.refl _ _).alloc _).alloc _
  have V6:dZ W1 (up w.heap.size) W0.heap.size (bf j.nodes) (fun _=>(0,0)):=by rw[<-hW1];exact(dZ.made W0 _ j.nodes _).pure ((Kept.refl none' _).alloc _)
  have Wn:W1.heap[W0.heap.size+1]?=some (.cells #[.int .i64 j.par, .slice na j.nodes.length cap, .map (some W0.heap.size)] 140 (0,0)):=by
   rw[<-hW1]
   have:=heap_alloc_new (W0.alloc (.map #[] 0)) (.cells #[.int .i64 j.par, .slice na j.nodes.length cap, .map (some W0.heap.size)] 140)
   rwa[World.size_alloc]at this
  rw[hW1]
  have hm1:W0.heap.size<W1.heap.size:=by rw[<-hW1];simp;omega
  have K1:=Lib.hid (And.intro ((KA.out.trans k2).trans Dw) (And.intro (Dw.cell (fun h=>h) x0) (And.intro (Dw.cell (fun h=>h) x1) (And.intro V6 (And.intro Wn (And.intro (show w.heap.size<W0.heap.size by have:=block_lt_of_cell x0;simpa using this) hm1))))))
  clear hmm hW1 Dw V6 Wn x0 x1 k2 B0 KA cm hm1
  generalize W0.heap.size=M at*
  go_loopg [33] l.length (fun g vi wr=> ∃(k:Nat)(Ts:Tabs)(pm:Nat->Nat×Nat),k<=l.length/\vi= .int .i64 (k:Int)/\l.length-k<=g/\bT j.nodes l (bf j.nodes)=bT j.nodes (l.drop k) Ts/\Ts.length=j.nodes.length/\dZ wr (up w.heap.size) M Ts pm/\um w.heap.size Ts pm/\Kept (one M) W1 wr)
  case atStart=>exact⟨0,_,_,by omega,rfl,by omega,rfl,by simp[bf],K1.out.2.2.2.1,um.none _ _ _,Kept.refl _ _⟩
  case round=>
   obtain⟨k,Ts,pm,hkl,rfl,hg,hld,htl,htb,hnt,hkp⟩:=hrel
   have NT:=Lib.hid hnt
   clear hnt
   have QW: ¬one M w.heap.size:=fun e=>by have h0:=K1.out.2.2.2.2.2.1;unfold one at e;omega
   by_cases hlt:k<l.length
   ·obtain⟨s,hs⟩: ∃s,l[k]?=some s:=⟨_,List.getElem?_eq_getElem hlt⟩
    obtain⟨bs,BG,rfl,hcs⟩:=H3.out.2.2.1.resolve_left (fun h=>by rw[h]at hlt;simp at hlt)
    have kw:Kept none' w wr:=K1.out.1.new hkp (fun i hi hs=>by have h0:=K1.out.2.2.2.2.2.1;unfold one at hs;omega)
    have y0:=kw.cell (fun h=>h) (hcs k s hs).1
    have y1:=kw.cell (fun h=>h) (hcs k s hs).2
    have x0:=hkp.cell (p:=⟨w.heap.size,0,none⟩) QW K1.out.2.1
    have x1:=hkp.cell (p:=⟨w.heap.size,1,none⟩) QW K1.out.2.2.1
    have ob:=hkp.heap K1.out.2.2.2.2.1 (fun e=>by unfold one at e;omega)
    have kA:Kept none' wr (wr.alloc (.cells #[.string s.1, .string s.2] 35)):=(Kept.refl _ _).alloc _
    have stB:(wr.alloc (.cells #[.string s.1, .string s.2] 35)).heap[wr.heap.size]?=some (.cells #[.string s.1, .string s.2] 35 (0,0)):=heap_alloc_new _ _
    have xlt:w.heap.size<wr.heap.size:=by have:=block_lt_of_cell x0;simpa using this
    have cc:=lS j _ s.1 _ (H3.out.2.1.pure (kw.trans kA))
    have hdr:=vS hs
    rw[hdr]at hld
    have lM:=H3.out.2.2.2.1 s (List.mem_of_getElem? hs)
    have G:=Lib.hid (And.intro hg (And.intro hld (And.intro htl (And.intro htb (And.intro hkp (And.intro kw (And.intro kA (And.intro ob (And.intro stB lM)))))))))
    clear hg hld htl htb hkp kw kA ob stB lM hdr hcs hs
    go_wp2_with fail
    refine cc.mono ?_
    clear cc
    rintro e W2 ⟨rfl,k2⟩
    have FM:Kept none' wr W2:=G.out.2.2.2.2.2.2.1.trans k2
    have VZ:=G.out.2.2.2.1.pure FM
    have TA:=FM.heap G.out.2.2.2.2.2.2.2.1 (fun h=>h)
    have SX:=k2.heap G.out.2.2.2.2.2.2.2.2.1 (fun h=>h)
    have x0:=FM.cell (p:=⟨w.heap.size,0,none⟩) (fun h=>h) x0
    have x1:=FM.cell (p:=⟨w.heap.size,1,none⟩) (fun h=>h) x1
    have m2:W2.cell? ⟨M+1,2,none⟩=some (.map (some M)):=cells_at TA rfl
    have z1:W2.cell? ⟨wr.heap.size,1,none⟩=some (.string s.2):=cells_at SX rfl
    have KW:=Lib.hid (And.intro FM (And.intro VZ (And.intro TA (And.intro SX (G.out.2.2.2.2.2.1.trans FM)))))
    clear FM VZ TA SX k2 y0 y1
    rcases dI j.nodes s.1 with⟨hf,-⟩|⟨i,d,hf,hd,-,hna,-⟩
    ·have hlk:=KW.out.2.1.at_.MX (-1) (.inl (by decide))
     have F:=Lib.hid (kC.bad (v:= .slice na j.nodes.length cap) (w:=w) (w':=W2) (iO lW.out (by rw[G.out.2.1];exact nP (.inl (by rw[hf];decide)))) (by decide) KW.out.2.2.2.2)
     rw[hf]
     clear hf
     go_wp2_with fail
     go_ret2
     exact F.out
    ·have hil:i<j.nodes.length:=(List.getElem?_eq_some_iff.1 hd).1
     have hlk:=KW.out.2.1.at_.lookup i (by rw[G.out.2.2.1];exact hil)
     rw[hf]
     cases hno:Ts.getD i none with
     |some T0=>
      rw[hno]at hlk
      have F:=Lib.hid (kC.bad (v:= .slice na j.nodes.length cap) (w:=w) (w':=W2) (iO lW.out (by rw[G.out.2.1];exact nP (.inr (.inr (by rw[hf,Int.toNat_natCast,hno];rfl))))) (by decide) KW.out.2.2.2.2)
      simp only[l9,Option.map_some,Option.getD_some,Option.isSome_some]at hlk
      clear hf hno
      go_wp2_with fail
      go_ret2
      exact F.out
     |none=>
      rw[hno]at hlk
      simp only[l9,Option.map_none,Option.getD_none,Option.isSome_none]at hlk
      obtain⟨b,off,pi,ci,p,cap',rfl,hc,hj⟩:=H3.out.1 i d hd
      obtain⟨c0,c1,c2,c3,c4,c5,c6⟩:=hc.kept KW.out.2.2.2.2 (fun h=>h)
      have cs:=rE d.kind W2
      have UU:=Lib.hid hna
      have HF:=Lib.hid (And.intro hf (And.intro hd hno))
      have Vo:=Lib.hid hj
      clear hf hd hno hna hj hc
      cases hst:stateful d.kind with
      |false=>
       rw[hst]at cs
       have F:=Lib.hid (kC.bad (v:= .slice (some ⟨b,off,none⟩) j.nodes.length cap) (w:=w) (w':=W2) (iO lW.out (by rw[G.out.2.1];exact nP (.inr (.inl (by rw[UU.out];exact hst))))) (by decide) KW.out.2.2.2.2)
       clear hst
       go_wp2_with (go_at_call 59;refine cs.mono ?_;rintro e w' ⟨rfl,rfl⟩)
       go_ret2
       exact F.out
      |true=>
       rw[hst]at cs
       have HST:=Lib.hid hst
       clear hst
       go_wp2_with (go_at_call 59;refine cs.mono ?_;rintro e w' ⟨rfl,rfl⟩)
       clear cs
       have ct:=take_any s.2 G.out.2.2.2.2.2.2.2.2.2.2 W2
       unfold fC at ct
       have hlt2:=vF (l:=l.drop (k+1)) HF.out.1 HF.out.2.1 HST.out HF.out.2.2
       cases ht:gK s.2.data.toList with
       |err f=>
        rw[ht]at ct hlt2
        (with_reducible refine ct.mono ?_)
        clear ct
        rintro e W3 ⟨rfl,hf0,k3⟩
        have F:=Lib.hid (kC.bad (v:= .slice (some ⟨b,off,none⟩) j.nodes.length cap) (w:=w) (w':=W3) (iO lW.out (by rw[G.out.2.1];exact hlt2)) hf0 (KW.out.2.2.2.2.trans k3))
        clear hlt2 ht
        go_wp2_with fail
        go_ret2
        exact F.out
       |ok T rest=>
        rw[ht]at ct hlt2
        (with_reducible refine ct.mono ?_)
        clear ct
        rintro e W3 ⟨tb,tm,rfl,tT,k3⟩
        have Du:=KW.out.2.2.2.2.trans k3
        have x0:=k3.cell (p:=⟨w.heap.size,0,none⟩) (fun h=>h) x0
        have x1:=k3.cell (p:=⟨w.heap.size,1,none⟩) (fun h=>h) x1
        have c0:=k3.cell (fun h=>h) c0
        have c1:=k3.cell (fun h=>h) c1
        have c2:=k3.cell (fun h=>h) c2
        have c3:=k3.cell (fun h=>h) c3
        have c4:=k3.cell (fun h=>h) c4
        have c5:=k3.cell (fun h=>h) c5
        have c6:=k3.cell (fun h=>h) c6
        have m2:=k3.cell (p:=⟨M+1,2,none⟩) (fun h=>h) m2
        have cf:=fits_any d _ _ tb tm T W3 (Vo.out.pure Du) tT
        have Hf:=Lib.hid hlt2
        have T3:=Lib.hid (And.intro tT (And.intro k3 Du))
        clear hlt2 ht tT k3 Du hlk
        cases hfit:dD d.kind d.n T with
        |false=>
         rw[hfit]at cf
         have F:=Lib.hid (fun w' hk=>kC.bad (v:= .slice (some ⟨b,off,none⟩) j.nodes.length cap) (w:=w) (w':=w') (iO lW.out (by rw[G.out.2.1,Hf.out];show(if dD d.kind d.n T=true then _ else _)=_;rw[if_neg (by rw[hfit];simp)])) (show(181:Int)≠0 by decide) hk)
         clear hfit
         go_wp2_with fail
         (with_reducible refine cf.mono ?_)
         clear cf
         rintro e W4 ⟨rfl,k4⟩
         go_wp2_with fail
         go_ret2
         exact F.out _ (T3.out.2.2.trans k4)
        |true=>
         rw[hfit]at cf
         have Hg:=Lib.hid (show bT j.nodes l (bf j.nodes)=bT j.nodes (l.drop (k+1)) (Ts.set i (some T)) by rw[G.out.2.1,Hf.out];show(if dD d.kind d.n T=true then _ else _)=_;rw[if_pos hfit])
         clear hfit
         go_wp2_with fail
         (with_reducible refine cf.mono ?_)
         clear cf
         rintro e W4 ⟨rfl,k4⟩
         have m2:=k4.cell (p:=⟨M+1,2,none⟩) (fun h=>h) m2
         have hfr:=KW.out.2.1.at_.fresh T3.out.1.hm
         obtain⟨w5,hup,u2,u3,u4⟩:=((KW.out.2.1.pure T3.out.2.1).pure k4).update (i:=i) (by rw[G.out.2.2.1];exact hil) HF.out.2.2 ((T3.out.1.mono (fun q hq _=>Nat.le_trans KW.out.2.2.2.2.size hq)).pure k4) hfr.1 hfr.2
         have hnw:=NT.out.set (i:=i) (b:=tb) (T:=T) (tm:=tm) (Nat.le_trans (KW.out.2.2.2.2.size) T3.out.1.hm)
         have Z:=Lib.hid (And.intro u2 (And.intro hnw ((G.out.2.2.2.2.1.new (KW.out.1.trans (T3.out.2.1.trans k4)) (fun _ _ h=>h.elim)).new u3 (fun _ _ h=>h))))
         clear hnw
         clear u2 u3 u4 hfr k4 x0 x1 c0 c1 c2 c3 c4 c5 c6
         go_wp2_with fail
         go_roundg (l.length-(k+1))
         case rel=>exact⟨k+1,_,_,by omega,by go_num,Nat.le_refl _,Hg.out,by rw[List.length_set];exact G.out.2.2.1,Z.out⟩
         case measure=>have:=G.out.1;omega
   ·have e1:k=l.length:=by omega
    subst e1
    rw[List.drop_of_length_le (Nat.le_refl _)]at hld
    have Hg:=Lib.hid (vC lW.out (show bT j.nodes l (bf j.nodes)= .ok Ts by rw[hld];rfl))
    have x0:=hkp.cell (p:=⟨w.heap.size,0,none⟩) QW K1.out.2.1
    have x1:=hkp.cell (p:=⟨w.heap.size,1,none⟩) QW K1.out.2.2.1
    have HT:=Lib.hid (And.intro htl (And.intro htb hkp))
    clear hld htl htb hkp hg hlt
    go_wp2_with fail
    clear x0 x1
    go_loopg [94] j.nodes.length (fun g vi wq=> ∃(k:Nat)(pm:Nat->Nat×Nat),k<=j.nodes.length/\vi= .int .i64 (k:Int)/\j.nodes.length-k<=g/\dZ wq (up w.heap.size) M (fB j.nodes Ts k) pm/\um w.heap.size (fB j.nodes Ts k) pm/\Kept (one M) W1 wq)
    case atStart=>exact⟨0,pm,by omega,rfl,by omega,by rw[qV];exact HT.out.2.1,by rw[qV];exact NT.out,HT.out.2.2⟩
    case round=>
     obtain⟨k,wU,hkn,rfl,hg,htb,Ui,hkp⟩:=hrel
     have Q9:=Lib.hid Ui
     clear Ui
     have kw:Kept none' w wr:=K1.out.1.new hkp (fun i hi hs=>by have h0:=K1.out.2.2.2.2.2.1;unfold one at hs;omega)
     have ob:=hkp.heap K1.out.2.2.2.2.1 (fun e=>by unfold one at e;omega)
     have xP:=Lib.hid kw.size
     by_cases hlt:k<j.nodes.length
     ·obtain⟨d,hd⟩: ∃d,j.nodes[k]?=some d:=⟨_,List.getElem?_eq_getElem hlt⟩
      obtain⟨b,off,pi,ci,p,cap',rfl,hc,hj⟩:=H3.out.1 k d hd
      obtain⟨c0,c1,c2,c3,c4,c5,c6⟩:=hc.kept kw (fun h=>h)
      have m2:wr.cell? ⟨M+1,2,none⟩=some (.map (some M)):=cells_at ob rfl
      have mlt:M+1<wr.heap.size:=by have:=block_lt_of_cell m2;simpa using this
      have kA:Kept none' wr (wr.alloc (.cells (aZ d pi ci p cap') 42)):=(Kept.refl _ _).alloc _
      have hlk:=(htb.pure kA).at_.lookup k (by rw[iT HT.out.1 hkn];exact hlt)
      rw[vP HT.out.1 hkn]at hlk
      have TJ:=kA.cell (p:=⟨M+1,2,none⟩) (fun h=>h) m2
      have nB:(wr.alloc (.cells (aZ d pi ci p cap') 42)).heap[wr.heap.size]?=some (.cells (aZ d pi ci p cap') 42 (0,0)):=heap_alloc_new _ _
      have n1:(wr.alloc (.cells (aZ d pi ci p cap') 42)).cell? ⟨wr.heap.size,1,none⟩=some (.int .u8 d.kind):=cells_at nB rfl
      have G:=Lib.hid (And.intro hg (And.intro htb (And.intro hkp (And.intro hd kA))))
      have cs:=rE d.kind (wr.alloc (.cells (aZ d pi ci p cap') 42))
      clear hg htb hkp hd kA hj hc nB kw ob H3
      cases hno:Ts.getD k none with
      |some T0=>
       rw[hno]at hlk
       simp only[l9,Option.map_some,Option.getD_some,Option.isSome_some]at hlk
       have F:=Lib.hid (vO HT.out.1 G.out.2.2.2.1 (.inl (by rw[hno];rfl)))
       clear hno cs
       go_wp2_with fail
       go_roundg (j.nodes.length-(k+1))
       case rel=>exact⟨k+1,wU,by omega,by go_num,Nat.le_refl _,by rw[F.out];exact G.out.2.1.pure G.out.2.2.2.2,by rw[F.out];exact Q9.out,G.out.2.2.1.new G.out.2.2.2.2 (fun _ _ h=>h.elim)⟩
       case measure=>have:=G.out.1;omega
      |none=>
       rw[hno]at hlk
       simp only[l9,Option.map_none,Option.getD_none,Option.isSome_none]at hlk
       have HN:=Lib.hid hno
       clear hno
       cases hst:stateful d.kind with
       |false=>
        rw[hst]at cs
        have F:=Lib.hid (vO HT.out.1 G.out.2.2.2.1 (.inr hst))
        clear hst
        go_wp2_with (go_at_call 59;refine cs.mono ?_;rintro e w' ⟨rfl,rfl⟩)
        go_roundg (j.nodes.length-(k+1))
        case rel=>exact⟨k+1,wU,by omega,by go_num,Nat.le_refl _,by rw[F.out];exact G.out.2.1.pure G.out.2.2.2.2,by rw[F.out];exact Q9.out,G.out.2.2.1.new G.out.2.2.2.2 (fun _ _ h=>h.elim)⟩
        case measure=>have:=G.out.1;omega
       |true=>
        rw[hst]at cs
        have F:=Lib.hid (DN HT.out.1 G.out.2.2.2.1 HN.out hst)
        clear hst
        go_wp2_with (go_at_call 59;refine cs.mono ?_;rintro e w' ⟨rfl,rfl⟩)
        clear cs hlk
        obtain⟨WA,Gq⟩: ∃WA,(wr.alloc (.cells (aZ d pi ci p cap') 42))=WA:=⟨_,rfl⟩
        rw[Gq]at G TJ
        have Gp:(wr.alloc (.cells #[.string d.uid, .int .u8 d.kind, .slice pi d.ins.length ci, .int .u8 d.x.op, .int .i64 d.x.n, .slice p d.x.args.length cap', .int .i64 d.n] 42))=WA:=Gq
        try rw[Gp]
        clear Gq Gp n1 m2 mlt c0 c1 c2 c3 c4 c5 c6
        refine ak [0,1,2,3,4,5,6] (fun W=>Kept none' WA W) (by kernel_rfl) (by kernel_rfl) rfl (Kept.refl _ _).drew ?_
        simp only[List.map_cons,List.map_nil,List.getElem?_toArray,List.getElem?_cons_zero,List.getElem?_cons_succ,Option.getD_some]
        iterate 5 (apply aj rfl rfl;(intro W hW;have z0:=hW.cell (fun h=>h) TJ;go_simp;rfl);go_frame)
        apply aB rfl rfl
        intro K hK
        go_wp2_with fail
        (with_reducible refine(new_any _).mono ?_)
        rintro e w5 ⟨b5,m5,rfl,t5,k5⟩
        go_wp2_with fail
        refine hK _ _ (fun _=>(Kept.refl none' WA).drew.trans k5) ?_
        clear hK
        have hfr:=(G.out.2.1.pure (G.out.2.2.2.2.trans ((Kept.refl none' WA).drew))).at_.fresh t5.hm
        obtain⟨w6,hup,u2,u3,u4⟩:=(G.out.2.1.pure (G.out.2.2.2.2.trans ((Kept.refl none' WA).drew.trans k5))).update (i:=k) (by rw[iT HT.out.1 hkn];exact hlt) (by rw[vP HT.out.1 hkn];exact HN.out) (t5.mono (fun q hq _=>Nat.le_trans xP.out (Nat.le_trans G.out.2.2.2.2.size (Nat.le_trans (Kept.refl none' WA).drew.size hq)))) hfr.1 hfr.2
        have hnw:=Q9.out.set (i:=k) (b:=b5) (T:=[]) (tm:=m5) (Nat.le_trans (G.out.2.2.2.2.size) (Nat.le_trans ((Kept.refl none' WA).drew.size) t5.hm)|>Nat.le_trans xP.out)
        rw[<-F.out]at u2 hnw
        have Z:=Lib.hid (And.intro u2 (And.intro hnw ((G.out.2.2.1.new (G.out.2.2.2.2.trans ((Kept.refl none' WA).drew.trans k5)) (fun _ _ h=>h.elim)).new u3 (fun _ _ h=>h))))
        clear u2 u3 u4 hfr t5 k5 TJ hnw
        apply aB rfl rfl
        intro K2 hK2
        go_wp2_with fail
        refine hK2 _ _ (fun h=>absurd rfl h) (nN (by kernel_rfl) ?_)
        clear hK2
        go_wp2_with fail
        go_roundg (j.nodes.length-(k+1))
        case rel=>exact⟨k+1,_,by omega,by go_num,Nat.le_refl _,Z.out⟩
        case measure=>have:=G.out.1;omega
     ·have e1:k=j.nodes.length:=by omega
      subst e1
      have P6:=Q9.out
      rw[DT HT.out.1]at htb P6
      have F:=Lib.hid (show kC w (.slice na j.nodes.length cap) j l (.returned (.tuple #[.pointer (some ⟨M+1,0,none⟩), .int .i64 0])) wr by
       unfold kC
       rw[Hg.out]
       exact⟨M+1,M,wU,rfl,ob,Nat.le_of_lt (Nat.lt_succ_of_lt K1.out.2.2.2.2.2.1),H3.out.2.2.2.2.pure kw,HP.out,Nat.le_of_lt K1.out.2.2.2.2.2.1,htb,P6,kw⟩)
      clear htb hkp kw ob hg hlt P6
      go_wp2_with fail
      go_ret2
      exact F.out
 ·have F:=Lib.hid (fun w' hk=>kC.bad (v:= .slice na j.nodes.length cap) (w:=w) (w':=w') (Dp (l:=l) (show fU j=false by rw[HM.out];exact decide_eq_false hz)) (by decide) hk)
  go_wp2_with (go_at_call 41;refine cm.mono ?_;rintro e W0 ⟨rfl,k2⟩)
  go_ret2
  exact F.out _ (KA.out.trans k2)
theorem Fz (j:Jb)(a:Array Value)(sv:Value)(l:List St)(w:World)(h:fA w a j)(hs:Reads w 2 sv (dK l))(hsz: ∀s∈l,s.1.size<=maxLen/\s.2.size<=maxLen):
 Calls Tryz.prog 24 #[.agg a,sv] w (kF w j l):=by
 have h':=h
 obtain⟨v,rfl,_,_⟩:=h
 exact(Na j v sv l w h' hs hsz).mono (fun _ _ h=>h.q)
end Go.Proofs.YtglbkodmmogomaaGreatDoor
