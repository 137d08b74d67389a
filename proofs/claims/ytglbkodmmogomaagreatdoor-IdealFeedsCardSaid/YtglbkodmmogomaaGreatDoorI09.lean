/- The rules, made: rules; the type of an expression: of, Of. -/
import Derived.Test.YtglbkodmmogomaaGreatDoorI08
set_option linter.unusedVariables false
set_option linter.unusedSimpArgs false
set_option maxHeartbeats 1000000
set_option maxRecDepth 100000
namespace Go.Proofs.YtglbkodmmogomaaGreatDoor
open Go Go.RowKit
attribute [local irreducible] cZ
def pF (l:List Int):List Value:=l.map (Value.int .u8)
theorem Reads.atU {w:World}{v:Value}{l:List Int}(h:Reads w 1 v (pF l)): ∃a cap,v= .slice a l.length cap/\l.length<=cap/\cap<=maxLen/\(l=[]\/ ∃b off,a=some ⟨b,off,none⟩/\ ∀i x,l[i]?=some x->w.cell? ⟨b,off+i,none⟩=some (.int .u8 x)):=by
 obtain⟨a,n,cap,rfl,h1,h2,h3,h4⟩:=h;have hn:n=l.length:=(by simpa[pF]using h3.symm);subst hn;refine⟨a,cap,rfl,h1,h2,?_⟩
 rcases h4 with h4|⟨b,off,rfl,h4⟩
 ·left
  have:(pF l).length=0:=(by rw[h4];rfl);simp only[pF,List.length_map]at this;exact τ this
 ·exact .inr ⟨b,off,rfl,fun i x hx=>h4 i _ (by simp[pF,hx])⟩
def bW (ty a b c:Int)(l:List Int):List xY:=l.map fun o=>((o,a,b,c),ty)
theorem yP {w:World}{b o m:Nat}{v:Value}{es:Array MapEntry}{cl:Nat}(h:w.cell? ⟨b,o,none⟩=some v)(hm:w.heap[m]?=some (.map es cl)):b≠m:=by intro e;subst e;simp[World.cell?,hm]at h
def ah8 (w:World)(m:Nat)(E:List xY)(e:Ending)(w':World):Prop:=e= .returned (.tuple #[])/\mG w' m E/\ε (one m) w w'
theorem Rq {ty a b c:Int}{l:List Int}{k:Nat}{x:Int}(h:l[k]?=some x):bW ty a b c (l.take (k+1))=bW ty a b c (l.take k)++[((x,a,b,c),ty)]:=by unfold bW;rw[ψ,h,abM];rfl
theorem UZ {ty a b c:Int}{l:List Int}{E:List xY}{k:Nat}{x:Int}(hx:l[k]?=some x)(h:((E++bW ty a b c l).map (·.1)).Nodup): ∀r∈E++bW ty a b c (l.take k),r.1≠(x,a,b,c):=by
 have e:l=l.take k++x::l.drop (k+1):=(by obtain⟨hlt,rfl⟩:=μ.1 hx;simp);rw[e]at h;unfold bW at h⊢;simp only[abM,Θ]at h;rw[<-List.append_assoc]at h;have h2:=(List.nodup_append.1 h).2.2;intro r hr he;refine h2 r.1 ?_ r.1 ?_ rfl
 ·rw[<-abM];exact abK.2 ⟨r,hr,rfl⟩
 ·rw[he];simp
theorem lZ (ty a b c:Int)(v:Value)(l:List Int)(E:List xY)(m Bm:Nat)(w:World)(hm:mG w m E)(hc:w.cell? ⟨Bm,0,none⟩=some (.map (some m)))(hr:Reads w 1 v (pF l))
 (hnd:((E++bW ty a b c l).map (·.1)).Nodup):
 Calls Tryz.prog 234 #[.int .u8 ty,.agg #[.int .u8 a,.int .u8 b,.int .u8 c],v,.pointer (some ⟨Bm,0,none⟩)] w (ah8 w m (E++bW ty a b c l)):=by
 obtain⟨p,cap,rfl,h1,h2,h3⟩:=hr.atU;unfold maxLen at h2;have hne:Bm≠m:=yP hc hm;have H3:=γ h3;have HN:=γ hnd;have HM:=γ hm;have HC:=γ hc;clear h3 hr hnd hm hc;go_enter Tryz.func234,Tryz.ntmps234;go_wp2;obtain⟨W0,hW0⟩:=acf (w.alloc (.cells #[.int .u8 a,.int .u8 b,.int .u8 c] 308));have hk0:ε η w W0:=(by rw[<-hW0];exact δ.alloc _);have d0:W0.cell? ⟨w.heap.size,0,none⟩=some (.int .u8 a):=(by rw[<-hW0];simp);have d1:W0.cell? ⟨w.heap.size,1,none⟩=some (.int .u8 b):=(by rw[<-hW0];simp);have d2:W0.cell? ⟨w.heap.size,2,none⟩=some (.int .u8 c):=(by rw[<-hW0];simp);have hsm:w.heap.size≠m:=yP d0 (HM.o.kept hk0 id);have D:=γ (θ d0 (θ d1 d2));have K0:=γ hk0;rw[hW0];clear hW0 d0 d1 d2 hk0;go_loopg [11] l.length (fun g vi wr=> ∃k:Nat,k<=l.length/\vi= .int .i64 (k:Int)/\l.length-k<=g/\mG wr m (E++bW ty a b c (l.take k))/\ε (one m) W0 wr)
 case atStart=>exact⟨0,by omega,rfl,by omega,by simpa[bW]using HM.o.kept K0.o id,ε.refl _ _⟩
 case round=>
  obtain⟨k,hkl,rfl,hg,hma,hkp⟩:=hrel;by_cases hlt:k<l.length
  ·obtain⟨x,hx⟩: ∃x,l[k]?=some x:=⟨_,ι hlt⟩
   obtain⟨b0,off,rfl,hcl⟩:=H3.o.resolve_left (fun h=>by rw[h]at hx;cases hx);have q0:=hcl k x hx;have hb0:b0≠m:=yP q0 HM.o;have r0:=hkp.cell (p:=⟨b0,off+k,none⟩) (fun h=>hb0 h) (K0.o.cell id q0);have s0:=hkp.cell (p:=⟨w.heap.size,0,none⟩) (fun h=>hsm h) D.o.1;have s1:=hkp.cell (p:=⟨w.heap.size,1,none⟩) (fun h=>hsm h) D.o.2.1;have s2:=hkp.cell (p:=⟨w.heap.size,2,none⟩) (fun h=>hsm h) D.o.2.2;have s3:=hkp.cell (p:=⟨Bm,0,none⟩) (fun h=>hne h) (K0.o.cell id HC.o);obtain⟨w2,hup,g1,g2⟩:=hma.put ((x,a,b,c),ty) (UZ hx HN.o);unfold qK at hup;simp only[]at hup;rw[List.append_assoc,<-Rq hx]at g1;have G:=γ (θ hg (θ g1 (hkp.trans g2)));clear q0 hcl hx hg hma hkp g1 g2 H3 HN HM HC D K0;go_wp2_with fail;go_roundg (l.length-(k+1))
   case rel=>exact⟨k+1,by omega,by go_num,ξ _,G.o.2.1,G.o.2.2⟩
   case measure=>have:=G.o.1;omega
  ·have hkl:k=l.length:=by omega
   subst hkl;rw[χ (ξ _)]at hma;have G:=γ (θ hma hkp);clear hma hkp hg;go_wp2_with fail
   go_end0
   exact⟨rfl,G.o.1,K0.o.pure.trans G.o.2⟩
def afm (w:World)(e:Ending)(w':World):Prop:= ∃m,e= .returned (.map (some m))/\mG w' m pG/\ε η w w'
theorem Reads.BP (w:World)(l:List Int)(E n:Nat)(h:l.length=n)(hn:n<=maxLen):Reads (w.alloc (.cells (pF l).toArray E)) 1 (.slice (some ⟨w.heap.size,0,none⟩) n n) (pF l):=
 ⟨_,n,n,rfl,ξ _,hn,by simp[pF,h],.inr ⟨_,0,rfl,fun i x hx=>by rw[World.cell?_alloc_new];simpa using hx⟩⟩
theorem IV (w:World):Calls Tryz.prog 199 #[] w (afm w):=by
 have hmm:= @run_makeMap Tryz.prog;go_enter Tryz.func199,Tryz.ntmps199;go_wp2_with fail;obtain⟨W0,hW0⟩:=acf ((w.alloc (.map #[] 0)).alloc (.cells #[.map (some w.heap.size)] 278));have hk0:ε η w W0:=(by rw[<-hW0];exact(δ.alloc _).alloc _);have hs:w.heap.size<W0.heap.size:=(by rw[<-hW0];simp;omega);have m0:mG W0 w.heap.size []:=(by have h1:mG (w.alloc (.map #[] 0)) w.heap.size []:=(by unfold mG;simpa[lg]using heap_alloc_new w (.map #[] 0));rw[<-hW0];exact h1.kept ((ε.refl η _).alloc _) id);have c0:W0.cell? ⟨w.heap.size+1,0,none⟩=some (.map (some w.heap.size)):=(by rw[<-hW0];simp);have hz0:W0.heap.size=w.heap.size+1+1:=(by rw[<-hW0];simp);rw[hW0];clear hW0 hmm;have a1:ε η W0 (W0.alloc (.cells #[.int .u8 1,.int .u8 2,.int .u8 3,.int .u8 4] 5)):=δ.alloc _;have b1:Reads (W0.alloc (.cells #[.int .u8 1,.int .u8 2,.int .u8 3,.int .u8 4] 5)) 1 (.slice (some ⟨W0.heap.size,0,none⟩) 4 4) (pF [1,2,3,4]):=Reads.BP _ [1,2,3,4] 5 4 rfl (by unfold maxLen;omega);rw[hz0]at b1;clear hz0;have q1:=lZ 1 0 0 0 _ [1,2,3,4] [] w.heap.size (w.heap.size+1) _ (m0.kept a1 id) (a1.cell id c0) b1 (by decide);refine q1.mono ?_
 trace "0"
 clear q1 b1;rintro e W1 ⟨rfl,m1,k1⟩;have c1:=k1.cell (p:=⟨w.heap.size+1,0,none⟩) (fun h=>by unfold one at h;simp at h) (a1.cell id c0);have K1:ε η w W1:=hk0.new (a1.pure.trans k1) (fun i hi e=>by unfold one at e;omega);clear a1 k1 m0 c0;go_wp2_with fail;have a2:ε η W1 (W1.alloc (.cells #[.int .u8 5] 5)):=δ.alloc _;have b2:Reads (W1.alloc (.cells #[.int .u8 5] 5)) 1 (.slice (some ⟨W1.heap.size,0,none⟩) 1 1) (pF [5]):=Reads.BP _ [5] 5 1 rfl (by unfold maxLen;omega);have q2:=lZ 1 1 0 0 _ [5] ([]++bW 1 0 0 0 [1,2,3,4]) w.heap.size (w.heap.size+1) _ (m1.kept a2 id) (a2.cell id c1) b2 (by decide);refine q2.mono ?_
 trace "1"
 clear q2 b2;rintro e W2 ⟨rfl,m2,k2⟩;have c2:=k2.cell (p:=⟨w.heap.size+1,0,none⟩) (fun h=>by unfold one at h;simp at h) (a2.cell id c1);have K2:ε η w W2:=K1.new (a2.pure.trans k2) (fun i hi e=>by unfold one at e;omega);clear a2 k2 m1 c1;go_wp2_with fail;have a3:ε η W2 (W2.alloc (.cells #[.int .u8 7,.int .u8 8,.int .u8 9,.int .u8 10,.int .u8 11] 5)):=δ.alloc _;have b3:Reads (W2.alloc (.cells #[.int .u8 7,.int .u8 8,.int .u8 9,.int .u8 10,.int .u8 11] 5)) 1 (.slice (some ⟨W2.heap.size,0,none⟩) 5 5) (pF [7,8,9,10,11]):=Reads.BP _ [7,8,9,10,11] 5 5 rfl (by unfold maxLen;omega);have q3:=lZ 1 1 1 0 _ [7,8,9,10,11] (([]++bW 1 0 0 0 [1,2,3,4])++bW 1 1 0 0 [5]) w.heap.size (w.heap.size+1) _ (m2.kept a3 id) (a3.cell id c2) b3 (by decide);refine q3.mono ?_
 trace "2"
 clear q3 b3;rintro e W3 ⟨rfl,m3,k3⟩;have c3:=k3.cell (p:=⟨w.heap.size+1,0,none⟩) (fun h=>by unfold one at h;simp at h) (a3.cell id c2);have K3:ε η w W3:=K2.new (a3.pure.trans k3) (fun i hi e=>by unfold one at e;omega);clear a3 k3 m2 c2;go_wp2_with fail;have a4:ε η W3 (W3.alloc (.cells #[.int .u8 6] 5)):=δ.alloc _;have b4:Reads (W3.alloc (.cells #[.int .u8 6] 5)) 1 (.slice (some ⟨W3.heap.size,0,none⟩) 1 1) (pF [6]):=Reads.BP _ [6] 5 1 rfl (by unfold maxLen;omega);have q4:=lZ 2 2 0 0 _ [6] ((([]++bW 1 0 0 0 [1,2,3,4])++bW 1 1 0 0 [5])++bW 1 1 1 0 [7,8,9,10,11]) w.heap.size (w.heap.size+1) _ (m3.kept a4 id) (a4.cell id c3) b4 (by decide);refine q4.mono ?_
 trace "3"
 clear q4 b4;rintro e W4 ⟨rfl,m4,k4⟩;have c4:=k4.cell (p:=⟨w.heap.size+1,0,none⟩) (fun h=>by unfold one at h;simp at h) (a4.cell id c3);have K4:ε η w W4:=K3.new (a4.pure.trans k4) (fun i hi e=>by unfold one at e;omega);clear a4 k4 m3 c3;go_wp2_with fail;have a5:ε η W4 (W4.alloc (.cells #[.int .u8 16,.int .u8 17,.int .u8 14,.int .u8 15] 5)):=δ.alloc _;have b5:Reads (W4.alloc (.cells #[.int .u8 16,.int .u8 17,.int .u8 14,.int .u8 15] 5)) 1 (.slice (some ⟨W4.heap.size,0,none⟩) 4 4) (pF [16,17,14,15]):=Reads.BP _ [16,17,14,15] 5 4 rfl (by unfold maxLen;omega);have q5:=lZ 2 2 2 0 _ [16,17,14,15] (((([]++bW 1 0 0 0 [1,2,3,4])++bW 1 1 0 0 [5])++bW 1 1 1 0 [7,8,9,10,11])++bW 2 2 0 0 [6]) w.heap.size (w.heap.size+1) _ (m4.kept a5 id) (a5.cell id c4) b5 (by decide);refine q5.mono ?_
 trace "4"
 clear q5 b5;rintro e W5 ⟨rfl,m5,k5⟩;have c5:=k5.cell (p:=⟨w.heap.size+1,0,none⟩) (fun h=>by unfold one at h;simp at h) (a5.cell id c4);have K5:ε η w W5:=K4.new (a5.pure.trans k5) (fun i hi e=>by unfold one at e;omega);clear a5 k5 m4 c4;go_wp2_with fail;have a6:ε η W5 (W5.alloc (.cells #[.int .u8 12,.int .u8 13,.int .u8 14,.int .u8 15] 5)):=δ.alloc _;have b6:Reads (W5.alloc (.cells #[.int .u8 12,.int .u8 13,.int .u8 14,.int .u8 15] 5)) 1 (.slice (some ⟨W5.heap.size,0,none⟩) 4 4) (pF [12,13,14,15]):=Reads.BP _ [12,13,14,15] 5 4 rfl (by unfold maxLen;omega);have q6:=lZ 2 1 1 0 _ [12,13,14,15] ((((([]++bW 1 0 0 0 [1,2,3,4])++bW 1 1 0 0 [5])++bW 1 1 1 0 [7,8,9,10,11])++bW 2 2 0 0 [6])++bW 2 2 2 0 [16,17,14,15]) w.heap.size (w.heap.size+1) _ (m5.kept a6 id) (a6.cell id c5) b6 (by decide);refine q6.mono ?_
 trace "5"
 clear q6 b6;rintro e W6 ⟨rfl,m6,k6⟩;have c6:=k6.cell (p:=⟨w.heap.size+1,0,none⟩) (fun h=>by unfold one at h;simp at h) (a6.cell id c5);have K6:ε η w W6:=K5.new (a6.pure.trans k6) (fun i hi e=>by unfold one at e;omega);clear a6 k6 m5 c5;go_wp2_with fail;have a7:ε η W6 (W6.alloc (.cells #[.int .u8 18] 5)):=δ.alloc _;have b7:Reads (W6.alloc (.cells #[.int .u8 18] 5)) 1 (.slice (some ⟨W6.heap.size,0,none⟩) 1 1) (pF [18]):=Reads.BP _ [18] 5 1 rfl (by unfold maxLen;omega);have q7:=lZ 1 2 1 1 _ [18] (((((([]++bW 1 0 0 0 [1,2,3,4])++bW 1 1 0 0 [5])++bW 1 1 1 0 [7,8,9,10,11])++bW 2 2 0 0 [6])++bW 2 2 2 0 [16,17,14,15])++bW 2 1 1 0 [12,13,14,15]) w.heap.size (w.heap.size+1) _ (m6.kept a7 id) (a7.cell id c6) b7 (by decide);refine q7.mono ?_
 trace "6"
 clear q7 b7;rintro e W7 ⟨rfl,m7,k7⟩;have c7:=k7.cell (p:=⟨w.heap.size+1,0,none⟩) (fun h=>by unfold one at h;simp at h) (a7.cell id c6);have K7:ε η w W7:=K6.new (a7.pure.trans k7) (fun i hi e=>by unfold one at e;omega);clear a7 k7 m6 c6;go_wp2_with fail;have a8:ε η W7 (W7.alloc (.cells #[.int .u8 18] 5)):=δ.alloc _;have b8:Reads (W7.alloc (.cells #[.int .u8 18] 5)) 1 (.slice (some ⟨W7.heap.size,0,none⟩) 1 1) (pF [18]):=Reads.BP _ [18] 5 1 rfl (by unfold maxLen;omega);have q8:=lZ 2 2 2 2 _ [18] ((((((([]++bW 1 0 0 0 [1,2,3,4])++bW 1 1 0 0 [5])++bW 1 1 1 0 [7,8,9,10,11])++bW 2 2 0 0 [6])++bW 2 2 2 0 [16,17,14,15])++bW 2 1 1 0 [12,13,14,15])++bW 1 2 1 1 [18]) w.heap.size (w.heap.size+1) _ (m7.kept a8 id) (a8.cell id c7) b8 (by decide);refine q8.mono ?_
 trace "7"
 clear q8 b8;rintro e W8 ⟨rfl,m8,k8⟩;have c8:=k8.cell (p:=⟨w.heap.size+1,0,none⟩) (fun h=>by unfold one at h;simp at h) (a8.cell id c7);have K8:ε η w W8:=K7.new (a8.pure.trans k8) (fun i hi e=>by unfold one at e;omega);clear a8 k8 m7 c7;go_wp2_with fail;go_ret;exact⟨_,rfl,m8,K8⟩
theorem jw {a b:Int}(h:a=b):Ending.returned (.int .u8 a)= .returned (.int .u8 b):=by rw[h]
def uh (f:Nat)(l:List Ex)(k j:Nat):Int:=((l.take k).map (aB f)).getD j 0
def CW (op:Int)(f:Nat)(l:List Ex)(k:Nat):Array Value:= #[.int .u8 op,.int .u8 (uh f l k 0),.int .u8 (uh f l k 1),.int .u8 (uh f l k 2)]
def acs (f:Nat):Prop:= ∀(x:Ex)(a:Array Value)(m:Nat)(w:World),aC w a x->aY f x=true->mG w m pG->Calls Tryz.prog 198 #[.map (some m),.agg a] w (Gives w (.int .u8 (aB f x)))
theorem zo (f:Nat)(x:Ex):aB (f+1) x=if(x.args.map (aB f)).contains 0 then 0 else iO (x.op,(x.args.map (aB f)).getD 0 0,(x.args.map (aB f)).getD 1 0,(x.args.map (aB f)).getD 2 0):=by cases x;rfl
theorem xX (op:Int):arity op<=3:=by unfold arity;split<;>(try split)<;>(try split)<;>(try split)<;>omega
theorem ζ {w:World}{B E:Nat}{f:Nat×Nat}{cs:Array Value}(h:w.heap[B]?=some (.cells cs E f)){j:Nat}{v:Value}(hj:cs[j]?=some v):w.cell? ⟨B,j,none⟩=some v:=by simp[World.cell?,h,hj]
theorem free_at {w:World}{B E:Nat}{cs:Array Value}(h:w.heap[B]?=some (.cells cs E (0,0)))(j:Nat):w.frozen? ⟨B,j,none⟩=false:=by simp[World.frozen?,h]
theorem bD {w:World}{B E:Nat}{f:Nat×Nat}{cs:Array Value}(h:w.heap[B]?=some (.cells cs E f))(j:Nat)(v:Value):(w.setCell ⟨B,j,none⟩ v).heap[B]?=some (.cells (cs.setIfInBounds j v) E f):=by show(w.heap.modify B _)[B]?=_;rw[Array.getElem?_modify];simp[h]
theorem Eu {f:Nat}{l:List Ex}{k:Nat}{y:Ex}(h:l[k]?=some y)(j:Nat):uh f l (k+1) j=if j=k then aB f y else uh f l k j:=by
 have hlt:=(μ.1 h).1;unfold uh;rw[σ,σ,abJ,abJ,abO,abO];by_cases h1:j=k
 ·subst h1
  rw[if_pos (by omega),if_pos rfl,h];rfl
 ·by_cases h2:j<k
  ·rw[if_pos (by omega),if_pos h2,if_neg h1]
  ·rw[if_neg (by omega),if_neg h2,if_neg h1]
theorem Ux {op:Int}{f:Nat}{l:List Ex}{k:Nat}{y:Ex}(h:l[k]?=some y)(hk:k<3):(CW op f l k).setIfInBounds (1+k) (.int .u8 (aB f y))=CW op f l (k+1):=by unfold CW;rw[Eu h,Eu h,Eu h];obtain rfl|rfl|rfl:k=0\/k=1\/k=2:=(by omega);all_goals rfl
theorem Hf {f:Nat}{l:List Ex}(j:Nat):uh f l l.length j=(l.map (aB f)).getD j 0:=by unfold uh;rw[χ (ξ _)]
theorem ac1 {f:Nat}{l:List Ex}{k:Nat}{y:Ex}(h:l[k]?=some y)(h1: ∀z∈l.take k,aB f z≠0)(h2:aB f y≠0): ∀z∈l.take (k+1),aB f z≠0:=by
 intro z hz;rw[ψ,h]at hz
 rcases abL.1 hz with hz|hz
 ·exact h1 z hz
 ·simp at hz;subst hz;exact h2
theorem Zg {f:Nat}{x y:Ex}(h:y∈x.args)(h0:aB f y=0):aB (f+1) x=0:=by rw[zo,if_pos];simp only[List.contains_eq_mem,abK,decide_eq_true_eq];exact⟨y,h,h0⟩
theorem Zh {f:Nat}{x:Ex}(h: ∀z∈x.args.take x.args.length,aB f z≠0):aB (f+1) x=iO (x.op,uh f x.args x.args.length 0,uh f x.args x.args.length 1,uh f x.args x.args.length 2):=by rw[zo,if_neg,Hf,Hf,Hf];rw[χ (ξ _)]at h;simp only[List.contains_eq_mem,abK,decide_eq_true_eq];rintro⟨z,hz,e⟩;exact h z hz e
theorem acH (f:Nat)(ih:acs f)(x:Ex)(a:Array Value)(m:Nat)(w:World)(h:aC w a x)(hmay:aY (f+1) x=true)(hm:mG w m pG):Calls Tryz.prog 198 #[.map (some m),.agg a] w (Gives w (.int .u8 (aB (f+1) x))):=by
 obtain⟨p,cap,rfl,h0,h1,h2,h3,h4,h5⟩:=h.parts;have hma:x.args.length<=3/\ ∀y∈x.args,aY f y=true:=(by obtain⟨op,n,args⟩:=x;have:=tY hmay;have h3:=xX op;refine⟨?_,this.2.2.2⟩;show args.length<=3;omega);have hl3:=hma.1;unfold maxLen at h4;have H5:=γ h5;have HM:=γ hm;have HA:=γ hma.2;have IH:=γ ih;clear h h5 hmay hm ih hma;go_enter Tryz.func198,Tryz.ntmps198;go_wp2;obtain⟨W0,hW0⟩:=acf ((w.alloc (.cells #[.int .u8 x.op,.int .i64 x.n,.slice p x.args.length cap] 40)).alloc (.cells #[.int .u8 x.op,.int .u8 0,.int .u8 0,.int .u8 0] 310));have hk0:ε η w W0:=(by rw[<-hW0];exact(δ.alloc _).alloc _);have hB:W0.heap[w.heap.size+1]?=some (.cells (CW x.op f x.args 0) 310 (0,0)):=(by rw[<-hW0];have:=heap_alloc_new (w.alloc (.cells #[.int .u8 x.op,.int .i64 x.n,.slice p x.args.length cap] 40)) (.cells #[.int .u8 x.op,.int .u8 0,.int .u8 0,.int .u8 0] 310);rw[World.size_alloc]at this;simpa[CW,uh]using this);have HB:=γ hB;have K0:=γ hk0;rw[hW0];clear hW0 hB hk0;go_loopg [14] x.args.length (fun g vi wr=> ∃k:Nat,k<=x.args.length/\vi= .int .i64 (k:Int)/\x.args.length-k<=g/\wr.heap[w.heap.size+1]?=some (.cells (CW x.op f x.args k) 310 (0,0))/\(∀y∈x.args.take k,aB f y≠0)/\ε η w wr)
 case atStart=>exact⟨0,by omega,rfl,by omega,HB.o,by simp,K0.o⟩
 case round=>
  obtain⟨k,hkl,rfl,hg,hrow,hnz,hkp⟩:=hrel;by_cases hlt:k<x.args.length
  ·obtain⟨y,hy⟩: ∃y,x.args[k]?=some y:=⟨_,ι hlt⟩
   obtain⟨b,off,p',cap',rfl,q0,q1,q2,hy2⟩:=H5.o k y hy;have r0:=hkp.cell (p:=⟨b,off+k*3,none⟩) id q0;have r1:=hkp.cell (p:=⟨b,off+k*3+1,none⟩) id q1;have r2:=hkp.cell (p:=⟨b,off+k*3+2,none⟩) id q2;have HY:=γ (θ hy (aC.pure hkp hy2));have G:=γ (θ hg (θ hrow (θ hnz hkp)));have hk3:(k:Int)<3:=(by omega);clear q0 q1 q2 hy hy2 hkp hg hrow hnz H5 HB K0;go_wp2_with fail;have ka:ε η wr (wr.alloc (.cells #[.int .u8 y.op,.int .i64 y.n,.slice p' y.args.length cap'] 40)):=δ.alloc _;have c:=IH.o y _ m _ (aC.pure ka HY.o.2) (HA.o y (ς HY.o.1)) (HM.o.kept (G.o.2.2.2.trans ka) id);(with_reducible refine c.mono ?_);clear c;rintro e w2 ⟨rfl,k2⟩;have hrow2:=(ka.trans k2).heap G.o.2.1 id;have fz:=free_at hrow2 (1+k);obtain⟨v0,hv0⟩: ∃v0,w2.cell? ⟨w.heap.size+1,1+k,none⟩=some v0:=by obtain hk|hk|hk:k=0\/k=1\/k=2:=(by omega);all_goals(subst hk;exact⟨_,ζ hrow2 rfl⟩)
   have hst:=bD hrow2 (1+k) (.int .u8 (aB f y));rw[Ux HY.o.1 (by omega)]at hst;have BQ:ε η w (w2.setCell ⟨w.heap.size+1,1+k,none⟩ (.int .u8 (aB f y))):=(G.o.2.2.2.trans (ka.trans k2)).setCell (p:=⟨w.heap.size+1,1+k,none⟩) (.inr (by simp)) _;have HR:=γ (θ hst BQ);clear k2 ka hrow2 hst BQ;by_cases hz:aB f y=0
   ·have hz':(aB f y==0)=true:=by simp[hz]
    have HZ:=γ hz;clear hz;go_wp2_with fail;go_ret;exact⟨jw (Zg (ς HY.o.1) HZ.o).symm,HR.o.2⟩
   ·have hz':(aB f y==0)=false:=by simp[hz]
    have HZ:=γ hz;clear hz;go_wp2_with fail;go_roundg (x.args.length-(k+1))
    case rel=>exact⟨k+1,by omega,by go_num,ξ _,HR.o.1,ac1 HY.o.1 G.o.2.2.1 HZ.o,HR.o.2⟩
    case measure=>have:=G.o.1;omega
  ·have hkl:k=x.args.length:=by omega
   subst hkl;have e0:wr.cell? ⟨w.heap.size+1,0,none⟩=some (.int .u8 x.op):=ζ hrow rfl;have e1:wr.cell? ⟨w.heap.size+1,1,none⟩=some (.int .u8 (uh f x.args x.args.length 0)):=ζ hrow rfl;have e2:wr.cell? ⟨w.heap.size+1,2,none⟩=some (.int .u8 (uh f x.args x.args.length 1)):=ζ hrow rfl;have e3:wr.cell? ⟨w.heap.size+1,3,none⟩=some (.int .u8 (uh f x.args x.args.length 2)):=ζ hrow rfl;have hlk:=(HM.o.kept hkp id).lookup (x.op,uh f x.args x.args.length 0,uh f x.args x.args.length 1,uh f x.args x.args.length 2);unfold qK at hlk;simp only[]at hlk;have G:=γ (θ hnz hkp);clear hnz hkp hrow hg;go_wp2_with fail;go_ret;exact⟨jw (Zh G.o.1).symm,G.o.2⟩
theorem Ou: ∀f,acs f
 |0=>fun x a m w h hm _=>by cases x;cases hm
 |f+1=>fun x a m w h hm hr=>acH f (Ou f) x a m w h hm hr
def qy (x:Ex):Int×Int:=if aY 16 x=false then(0,2)else if aB 16 x=0 then(0,91)else(aB 16 x,0)
def qX (w:World)(r:Int×Int)(e:Ending)(w':World):Prop:=e= .returned (.tuple #[.int .u8 r.1,.int .i64 r.2])/\ε η w w'
theorem Gf (x:Ex)(a:Array Value)(w:World)(h:aC w a x):Calls Tryz.prog 166 #[.agg a,.bool true] w (qX w (qy x)):=by
 obtain⟨p,cap,rfl,h0,h1,h2,h3,h4,h5⟩:=h.parts;have H:=γ h;clear h h5;have hk0:ε η w (w.alloc (.cells #[.int .u8 x.op,.int .i64 x.n,.slice p x.args.length cap] 40)):=δ.alloc _;obtain⟨W0,hW0⟩:=acf (w.alloc (.cells #[.int .u8 x.op,.int .i64 x.n,.slice p x.args.length cap] 40));have d0:W0.cell? ⟨w.heap.size,0,none⟩=some (.int .u8 x.op):=(by rw[<-hW0];simp);have d1:W0.cell? ⟨w.heap.size,1,none⟩=some (.int .i64 x.n):=(by rw[<-hW0];simp);have d2:W0.cell? ⟨w.heap.size,2,none⟩=some (.slice p x.args.length cap):=(by rw[<-hW0];simp);rw[hW0]at hk0;have HK:=γ hk0;have HW0:=γ hW0;clear hk0 hW0;go_enter Tryz.func166,Tryz.ntmps166;go_wp2_with fail;rw[HW0.o];(with_reducible refine(Ul x _ W0 (aC.pure HK.o H.o)).mono ?_);rintro e W1 ⟨rfl,k1⟩;have c0:=k1.cell (p:=⟨w.heap.size,0,none⟩) id d0;have c1:=k1.cell (p:=⟨w.heap.size,1,none⟩) id d1;have c2:=k1.cell (p:=⟨w.heap.size,2,none⟩) id d2;have nP:=γ (HK.o.trans k1);clear k1
 cases hm:aY 16 x with
 |false=>have F:qX w (qy x) (.returned (.tuple #[.int .u8 0,.int .i64 2])) W1:=⟨by unfold qy;rw[if_pos hm],nP.o⟩;have F':=γ F;clear hm F;go_wp2_with fail;go_ret2;exact F'.o
 |true=>
  have HM:=γ hm;clear hm;go_wp2_with fail;refine ak [1,0,2,3] (fun W=>ε η W1 W) (by kernel_rfl) (by kernel_rfl) rfl δ.drew ?_;simp only[abU]
  (apply aj rfl rfl;(intro W hW;have z0:=hW.cell id c0;have z1:=hW.cell id c1;have z2:=hW.cell id c2;go_simp;rfl);go_frame)
  apply aA rfl rfl;intro K hK;go_wp2_with fail;(with_reducible refine(IV _).mono ?_);rintro e W2 ⟨m,rfl,r2,k2⟩;have k2':ε η W1 W2:=k2.aZ;clear k2;go_wp2_with fail;refine hK _ _ (fun _=>k2') ?_;clear hK;apply aA rfl rfl;intro K hK;go_wp2_with fail;have c:=Ou 16 x _ m _ (aC.pure (nP.o.trans k2') H.o) HM.o r2;(with_reducible refine c.mono ?_);clear c;rintro e W3 ⟨rfl,k3⟩;have dI:ε η W1 W3:=k2'.trans k3;clear k2' k3 r2;go_wp2_with fail;refine hK _ _ (fun _=>dI) ?_;clear hK
  (apply aj rfl rfl;(intro W hW;go_simp;rfl);go_frame)
  refine aG (fun _=>dI) ?_;by_cases ht:aB 16 x=0
  ·have F:qX w (qy x) (.returned (.tuple #[.int .u8 0,.int .i64 91])) W3:=⟨by unfold qy;rw[if_neg (by rw[HM.o];simp),if_pos ht],nP.o.trans dI⟩
   have F':=γ F;have hb:(aB 16 x==0)=true:=(by simp[ht]);clear F ht dI;go_wp2_with fail;go_ret2;exact F'.o
  ·have F:qX w (qy x) (.returned (.tuple #[.int .u8 (aB 16 x),.int .i64 0])) W3:=⟨by unfold qy;rw[if_neg (by rw[HM.o];simp),if_neg ht],nP.o.trans dI⟩
   have F':=γ F;have hb:(aB 16 x==0)=false:=(by simp[ht]);clear F ht dI;go_wp2_with fail;go_ret2;exact F'.o
def oH:EV->Value
 | .num n=> .iface 2 (.int .i64 n)
 | .jm b=> .iface 4 (.bool b)
theorem qP (v:Value)(c:Bool)(w:World):(Instr.typeAssert (.iface 2 v) 20 2 c).run Tryz.prog w= .ok (if c then .tuple #[v,.bool true]else v) w:=by cases c<;>kernel_rfl
theorem CQ (v:Value)(c:Bool)(w:World):(Instr.typeAssert (.iface 4 v) 20 4 c).run Tryz.prog w= .ok (if c then .tuple #[v,.bool true]else v) w:=by cases c<;>kernel_rfl
theorem Yo (v:Value)(w:World):(Instr.typeAssert (.iface 4 v) 20 2 true).run Tryz.prog w= .ok (.tuple #[.int .i64 0,.bool false]) w:=by kernel_rfl
theorem adT (v:Value)(w:World):(Instr.typeAssert (.iface 2 v) 20 4 true).run Tryz.prog w= .ok (.tuple #[.bool false,.bool false]) w:=by kernel_rfl
def Is (w:World)(v:Value)(e:Ending)(w':World):Prop:=e= .returned v/\w=w'
theorem acJ (op a b:Int)(w:World)(ha:aH a)(hb:aH b)(hop:op=7\/op=8\/op=9\/op=12\/op=13\/op=14\/op=15):
 Calls Tryz.prog 213 #[.int .u8 op,.iface 2 (.int .i64 a),.iface 2 (.int .i64 b)] w (Is w (oH (fA op (.num a) (.num b)))):=by
 obtain⟨ha1,ha2⟩:=ha;obtain⟨hb1,hb2⟩:=hb
 rcases hop with rfl|rfl|rfl|rfl|rfl|rfl|rfl
 all_goals
  have t1:=fun v w=>qP v true w;have t2:=fun v w=>qP v false w;simp only[if_true,Bool.false_eq_true,if_false]at t1 t2;go_enter Tryz.func213,Tryz.ntmps213;go_wp2_with fail;go_ret;exact⟨rfl,rfl⟩
theorem acK (op a b:Int)(w:World)(ha:aH a)(hb:aH b)(hop:op=10\/op=11):
 Calls Tryz.prog 213 #[.int .u8 op,.iface 2 (.int .i64 a),.iface 2 (.int .i64 b)] w (Is w (oH (fA op (.num a) (.num b)))):=by
 obtain⟨ha1,ha2⟩:=ha;obtain⟨hb1,hb2⟩:=hb;by_cases h0:b=0
 ·subst h0
  rcases hop with rfl|rfl
  all_goals
   have t1:=fun v w=>qP v true w;have t2:=fun v w=>qP v false w;simp only[if_true,Bool.false_eq_true,if_false]at t1 t2;go_enter Tryz.func213,Tryz.ntmps213;go_wp2_with fail;go_ret;exact⟨rfl,rfl⟩
 ·have h1:(b==0)=false:=by simp[h0]
  have h2:fA 10 (.num a) (.num b)= .num (wrap64 (a.tdiv b)):=(by unfold fA;simp[EV.n,h0]);have h3:fA 11 (.num a) (.num b)= .num (a.tmod b):=by unfold fA;simp[EV.n,h0]
  rcases hop with rfl|rfl
  ·rw[h2]
   clear h2 h3;have t1:=fun v w=>qP v true w;have t2:=fun v w=>qP v false w;simp only[if_true,Bool.false_eq_true,if_false]at t1 t2;go_enter Tryz.func213,Tryz.ntmps213;go_wp2_with fail;go_ret;exact⟨rfl,rfl⟩
  ·rw[h3]
   clear h2 h3;have t1:=fun v w=>qP v true w;have t2:=fun v w=>qP v false w;simp only[if_true,Bool.false_eq_true,if_false]at t1 t2;go_enter Tryz.func213,Tryz.ntmps213;go_wp2_with fail;go_ret;exact⟨rfl,rfl⟩
theorem acI (op:Int)(a b:Bool)(w:World)(hop:op=16\/op=17\/op=14\/op=15):
 Calls Tryz.prog 213 #[.int .u8 op,.iface 4 (.bool a),.iface 4 (.bool b)] w fun e w'=>e= .returned (oH (fA op (.jm a) (.jm b)))/\ε η w w':=by
 have n1:=Yo;have t2:=fun v w=>CQ v false w;simp only[Bool.false_eq_true,if_false]at t2
 rcases hop with rfl|rfl|rfl|rfl<;>cases a<;>cases b
 all_goals
  go_enter Tryz.func213,Tryz.ntmps213;go_wp2_with fail;refine ak [0,1,2,3,4,5] (fun _=>True) (by kernel_rfl) (by kernel_rfl) rfl trivial ?_;simp only[abU];iterate 6 (apply aj rfl rfl;(intro W hW;go_simp;rfl);go_frame)
  refine aG (fun _=>trivial) ?_;go_wp2_with fail;go_ret;exact⟨rfl,δ.drew⟩
abbrev eU (env:Env):Value:= .agg #[.int .i64 env.key,.int .i64 env.val,.int .i64 env.acc]
theorem ZW {a b:Int}(h:aH a):aH (a.tmod b):=by
 unfold aH at*
 cases a with
 |ofNat m=>
  cases b with
  |ofNat n=>show _<=((m%n:Nat):Int)/\((m%n:Nat):Int)<=_;have:=Nat.mod_le m n;simp only[Int.ofNat_eq_natCast]at h;omega
  |negSucc n=>show _<=((m%(n+1):Nat):Int)/\((m%(n+1):Nat):Int)<=_;have:=Nat.mod_le m (n+1);simp only[Int.ofNat_eq_natCast]at h;omega
 |negSucc m=>
  cases b with
  |ofNat n=>show _<= -(((m+1)%n:Nat):Int)/\ -(((m+1)%n:Nat):Int)<=_;have:=Nat.mod_le (m+1) n;omega
  |negSucc n=>show _<= -(((m+1)%(n+1):Nat):Int)/\ -(((m+1)%(n+1):Nat):Int)<=_;have:=Nat.mod_le (m+1) (n+1);omega
theorem Zj {op a b:Int}(h:op=7\/op=8\/op=9\/op=10\/op=11)(ha:aH a):(fA op (.num a) (.num b)).ty=1/\aH (fA op (.num a) (.num b)).n:=by
 rcases h with rfl|rfl|rfl|rfl|rfl
 ·exact⟨rfl,mJ _⟩
 ·exact⟨rfl,mJ _⟩
 ·exact⟨rfl,mJ _⟩
 ·by_cases h0:b=0
  ·subst h0;exact⟨rfl,eX⟩
  ·have h2:fA 10 (.num a) (.num b)= .num (wrap64 (a.tdiv b)):=by unfold fA;simp[EV.n,h0]
   rw[h2];exact⟨rfl,mJ _⟩
 ·by_cases h0:b=0
  ·subst h0;exact⟨rfl,eX⟩
  ·have h2:fA 11 (.num a) (.num b)= .num (a.tmod b):=by unfold fA;simp[EV.n,h0]
   rw[h2];exact⟨rfl,ZW ha⟩
theorem Zk {op a b:Int}(h:op=12\/op=13\/op=14\/op=15):(fA op (.num a) (.num b)).ty=2/\aH (fA op (.num a) (.num b)).n:=by
 rcases h with rfl|rfl|rfl|rfl<;>exact⟨rfl,eX⟩
theorem Zi {op:Int}{a b:Bool}(h:op=16\/op=17\/op=14\/op=15):(fA op (.jm a) (.jm b)).ty=2/\aH (fA op (.jm a) (.jm b)).n:=by
 rcases h with rfl|rfl|rfl|rfl<;>exact⟨rfl,eX⟩
theorem EV.AP {v:EV}(h:v.ty=1): ∃n,v= .num n:=by cases v with|num n=>exact⟨n,rfl⟩|jm b=>cases h
theorem EV.DW {v:EV}(h:v.ty=2): ∃b,v= .jm b:=by cases v with|num n=>cases h|jm b=>exact⟨b,rfl⟩
theorem EX {f:Nat}{x:Ex}(hm:aY (f+1) x=true)(ht:aB (f+1) x≠0):
 (aB (f+1) x=1/\(x.op=1\/x.op=2\/x.op=3\/x.op=4))\/
 (∃a,x.args=[a]/\aY f a=true/\(x.op=5/\aB f a=1/\aB (f+1) x=1\/x.op=6/\aB f a=2/\aB (f+1) x=2))\/
 (∃a b,x.args=[a,b]/\aY f a=true/\aY f b=true/\(((x.op=7\/x.op=8\/x.op=9\/x.op=10\/x.op=11)/\aB f a=1/\aB f b=1/\aB (f+1) x=1)\/
   ((x.op=12\/x.op=13\/x.op=14\/x.op=15)/\aB f a=1/\aB f b=1/\aB (f+1) x=2)\/((x.op=16\/x.op=17\/x.op=14\/x.op=15)/\aB f a=2/\aB f b=2/\aB (f+1) x=2)))\/
 (∃a b c,x.args=[a,b,c]/\aY f a=true/\aY f b=true/\aY f c=true/\x.op=18/\aB f a=2/\aB f b=aB (f+1) x/\aB f c=aB (f+1) x):=by
 obtain⟨op,n,args⟩:=x;obtain⟨m1,_,_,m4⟩:=tY hm;obtain⟨_,t2⟩:=JF ht;rw[t2]at ht⊢;simp only[Ex.op,Ex.args]
 match args,m1,m4 with
 |[],m1,m4=>
  simp only[Ξ,List.getD_nil]at ht⊢
  rcases pI ht with⟨e,h|h|h|h⟩|⟨e,h|h|h|h⟩
  ·exact .inl ⟨e,h⟩
  all_goals(exfalso;first|omega|(unfold arity at m1;simp at m1;omega))
 |[a],m1,m4=>
  right;left;simp only[Θ,Ξ,List.getD_cons_zero,List.getD_cons_succ,List.getD_nil]at ht⊢;refine⟨a,rfl,m4 a (by simp),?_⟩
  rcases pI ht with⟨e,h|h|h|h⟩|⟨e,h|h|h|h⟩
  all_goals first|omega|(exfalso;unfold arity at m1;simp at m1;omega)
 |[a,b],m1,m4=>
  right;right;left;simp only[Θ,Ξ,List.getD_cons_zero,List.getD_cons_succ,List.getD_nil]at ht⊢;refine⟨a,b,rfl,m4 a (by simp),m4 b (by simp),?_⟩
  rcases pI ht with⟨e,h|h|h|h⟩|⟨e,h|h|h|h⟩
  all_goals first|omega|(exfalso;unfold arity at m1;simp at m1;omega)
 |[a,b,c],m1,m4=>
  right;right;right;simp only[Θ,Ξ,List.getD_cons_zero,List.getD_cons_succ]at ht⊢;refine⟨a,b,c,rfl,m4 a (by simp),m4 b (by simp),m4 c (by simp),?_⟩
  rcases pI ht with⟨e,h|h|h|h⟩|⟨e,h|h|h|h⟩
  all_goals first|omega|(exfalso;unfold arity at m1;simp at m1;omega)
 |a::b::c::d::l,m1,m4=>exfalso;have:=xX op;simp only[φ]at m1;omega
theorem zq {w:World}{env:Env}(he:iq env): ∀(f:Nat)(x:Ex)(a:Array Value),aC w a x->aY f x=true->aB f x≠0->(aK f env x).ty=aB f x/\aH (aK f env x).n
 |0,x,_,_,hm,_=>by cases x;cases hm
 |f+1,x,a,h,hm,ht=>by
  obtain⟨p,cap,_,_,_,h2,_,_,h5⟩:=h.parts;have sub: ∀(i:Nat)(y:Ex),x.args[i]?=some y->aY f y=true->aB f y≠0->(aK f env y).ty=aB f y/\aH (aK f env y).n:=fun i y hy hm hz=>by obtain⟨b,off,p',cap',_,_,_,_,hq⟩:=h5 i y hy;exact zq he f y _ hq hm hz
  rcases EX hm ht with⟨e,h⟩|⟨a,ha,m1,h⟩|⟨a,b,ha,m1,m2,h⟩|⟨a,b,c,ha,m1,m2,m3,e,t1,t2,t3⟩
  ·rw[e]
   obtain⟨op,n,args⟩:=x;simp only[Ex.op,Ex.n]at h h2
   rcases h with rfl|rfl|rfl|rfl
   ·exact⟨rfl,h2⟩
   ·exact⟨rfl,he.key⟩
   ·exact⟨rfl,he.val⟩
   ·exact⟨rfl,he.acc⟩
  ·have s1:=sub 0 a (by rw[ha];rfl) m1 (by omega)
   obtain⟨op,n,args⟩:=x;simp only[Ex.op,Ex.args]at h ha;subst ha
   rcases h with⟨rfl,t1,e⟩|⟨rfl,t1,e⟩
   ·rw[e];exact⟨rfl,mJ _⟩
   ·rw[e];exact⟨rfl,eX⟩
  ·have s1:=sub 0 a (by rw[ha];rfl) m1 (by omega)
   have s2:=sub 1 b (by rw[ha];rfl) m2 (by omega);obtain⟨op,n,args⟩:=x;simp only[Ex.op,Ex.args]at h ha;subst ha
   rcases h with⟨hop,t1,t2,e⟩|⟨hop,t1,t2,e⟩|⟨hop,t1,t2,e⟩
   ·rw[t1]at s1;rw[t2]at s2
    obtain⟨u,hu⟩:=EV.AP s1.1;obtain⟨v,hv⟩:=EV.AP s2.1;have e2:aK (f+1) env (.mk op n [a,b])=fA op (.num u) (.num v):=by
     rw[<-hu,<-hv]
     rcases hop with rfl|rfl|rfl|rfl|rfl<;>rfl
    rw[e,e2];refine Zj hop ?_;rw[hu]at s1;exact s1.2
   ·rw[t1]at s1;rw[t2]at s2
    obtain⟨u,hu⟩:=EV.AP s1.1;obtain⟨v,hv⟩:=EV.AP s2.1;have e2:aK (f+1) env (.mk op n [a,b])=fA op (.num u) (.num v):=by
     rw[<-hu,<-hv]
     rcases hop with rfl|rfl|rfl|rfl<;>rfl
    rw[e,e2];exact Zk hop
   ·rw[t1]at s1;rw[t2]at s2
    obtain⟨u,hu⟩:=EV.DW s1.1;obtain⟨v,hv⟩:=EV.DW s2.1;have e2:aK (f+1) env (.mk op n [a,b])=fA op (.jm u) (.jm v):=by
     rw[<-hu,<-hv]
     rcases hop with rfl|rfl|rfl|rfl<;>rfl
    rw[e,e2];exact Zi hop
  ·have s1:=sub 0 a (by rw[ha];rfl) m1 (by omega)
   have s2:=sub 1 b (by rw[ha];rfl) m2 (by omega);have s3:=sub 2 c (by rw[ha];rfl) m3 (by omega);obtain⟨op,n,args⟩:=x;simp only[Ex.op,Ex.args]at e ha;subst ha e;have e2:aK (f+1) env (.mk 18 n [a,b,c])=if(aK f env a).b then aK f env b else aK f env c:=rfl;rw[e2]
   cases(aK f env a).b with
   |true=>rw[if_pos rfl,<-t2];exact s2
   |false=>rw[if_neg (by simp),<-t3];exact s3
theorem aC.sub {w:World}{a:Array Value}{x y:Ex}{i:Nat}(h:aC w a x)(hy:x.args[i]?=some y): ∃a',aC w a' y:=by obtain⟨_,_,_,_,_,_,_,_,h5⟩:=h.parts;obtain⟨_,_,_,_,_,_,_,_,q⟩:=h5 i y hy;exact⟨_,q⟩
theorem aC.uX {w:World}{env:Env}(he:iq env){f:Nat}{a:Array Value}{x y:Ex}{i:Nat}(h:aC w a x)(hy:x.args[i]?=some y)(hm:aY f y=true)(ht:aB f y≠0):(aK f env y).ty=aB f y/\aH (aK f env y).n:=by obtain⟨a',h'⟩:=h.sub hy;exact zq he f y a' h' hm ht
def acu (op:Int)(u v:EV):Prop:=
 ((op=7\/op=8\/op=9\/op=10\/op=11\/op=12\/op=13\/op=14\/op=15)/\u.ty=1/\v.ty=1/\aH u.n/\aH v.n)\/((op=16\/op=17\/op=14\/op=15)/\u.ty=2/\v.ty=2)
theorem two_any (op:Int)(u v:EV)(w:World)(h:acu op u v):Calls Tryz.prog 213 #[.int .u8 op,oH u,oH v] w (Gives w (oH (fA op u v))):=by
 rcases h with⟨h,hu,hv,ru,rv⟩|⟨h,hu,hv⟩
 ·obtain⟨a,rfl⟩:=EV.AP hu
  obtain⟨b,rfl⟩:=EV.AP hv;by_cases h1:op=10\/op=11
  ·exact(acK op a b w ru rv h1).mono fun e w' ⟨h1,h2⟩=>by subst h2;exact⟨h1,ε.refl _ _⟩
  ·exact(acJ op a b w ru rv (by omega)).mono fun e w' ⟨h1,h2⟩=>by subst h2;exact⟨h1,ε.refl _ _⟩
 ·obtain⟨a,rfl⟩:=EV.DW hu
  obtain⟨b,rfl⟩:=EV.DW hv;exact acI op a b w h
