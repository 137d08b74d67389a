/- The rules, made: rules; the type of an expression: of, Of. -/
import Derived.Test.YtakhobfamnjnoaaGreatDoorC17
set_option linter.unusedVariables false
set_option linter.unusedSimpArgs false
set_option maxHeartbeats 1000000
set_option maxRecDepth 100000
namespace Go.Proofs.YtakhobfamnjnoaaGreatDoor
open Go Go.RowKit
attribute [local irreducible] kC
def pG (l:List Int):List Value:=l.map (Value.int .u8)
theorem Reads.atU {w:World}{v:Value}{l:List Int}(h:Reads w 1 v (pG l)): ∃a cap,v= .slice a l.length cap/\l.length<=cap/\cap<=maxLen/\(l=[]\/ ∃b off,a=some ⟨b,off,none⟩/\ ∀i x,l[i]?=some x->w.cell? ⟨b,off+i,none⟩=some (.int .u8 x)):=by
 obtain⟨a,n,cap,rfl,h1,h2,h3,h4⟩:=h
 have hn:n=l.length:=by simpa[pG]using h3.symm
 subst hn
 refine⟨a,cap,rfl,h1,h2,?_⟩
 rcases h4 with h4|⟨b,off,rfl,h4⟩
 ·left
  have:(pG l).length=0:=by rw[h4];rfl
  simp only[pG,List.length_map]at this
  exact List.eq_nil_of_length_eq_zero this
 ·exact .inr ⟨b,off,rfl,fun i x hx=>h4 i _ (by simp[pG,hx])⟩
def dh (ty a b c:Int)(l:List Int):List yN:=l.map fun o=>((o,a,b,c),ty)
theorem zL {w:World}{b o m:Nat}{v:Value}{es:Array MapEntry}{cl:Nat}(h:w.cell? ⟨b,o,none⟩=some v)(hm:w.heap[m]?=some (.map es cl)):b≠m:=by
 intro e;subst e
 simp[World.cell?,hm]at h
def aiz (w:World)(m:Nat)(E:List yN)(e:Ending)(w':World):Prop:=e= .returned (.tuple #[])/\mG w' m E/\Kept (one m) w w'
theorem TJ {ty a b c:Int}{l:List Int}{k:Nat}{x:Int}(h:l[k]?=some x):dh ty a b c (l.take (k+1))=dh ty a b c (l.take k)++[((x,a,b,c),ty)]:=by
 unfold dh;rw[List.take_add_one,h,List.map_append];rfl
theorem Wv {ty a b c:Int}{l:List Int}{E:List yN}{k:Nat}{x:Int}(hx:l[k]?=some x)(h:((E++dh ty a b c l).map (·.1)).Nodup): ∀r∈E++dh ty a b c (l.take k),r.1≠(x,a,b,c):=by
 have e:l=l.take k++x::l.drop (k+1):=by
  obtain⟨hlt,rfl⟩:=List.getElem?_eq_some_iff.1 hx
  simp
 rw[e]at h
 unfold dh at h⊢
 simp only[List.map_append,List.map_cons]at h
 rw[<-List.append_assoc]at h
 have h2:=(List.nodup_append.1 h).2.2
 intro r hr he
 refine h2 r.1 ?_ r.1 ?_ rfl
 ·rw[<-List.map_append];exact List.mem_map.2 ⟨r,hr,rfl⟩
 ·rw[he];simp
theorem lX (ty a b c:Int)(v:Value)(l:List Int)(E:List yN)(m Bm:Nat)(w:World)(hm:mG w m E)(hc:w.cell? ⟨Bm,0,none⟩=some (.map (some m)))(hr:Reads w 1 v (pG l))
 (hnd:((E++dh ty a b c l).map (·.1)).Nodup):
 Calls Tryz.prog 291 #[.int .u8 ty, .agg #[.int .u8 a, .int .u8 b, .int .u8 c],v, .pointer (some ⟨Bm,0,none⟩)] w (aiz w m (E++dh ty a b c l)):=by
 obtain⟨p,cap,rfl,h1,h2,h3⟩:=hr.atU
 unfold maxLen at h2
 have hne:Bm≠m:=zL hc hm
 have H3:=Lib.hid h3
 have HN:=Lib.hid hnd
 have HM:=Lib.hid hm
 have HC:=Lib.hid hc
 clear h3 hr hnd hm hc
 go_enter Tryz.func291,Tryz.ntmps291
 go_wp2
 obtain⟨W0,hW0⟩: ∃W0,w.alloc (.cells #[.int .u8 a, .int .u8 b, .int .u8 c] 397)=W0:=⟨_,rfl⟩
 have hk0:Kept none' w W0:=by rw[<-hW0];exact(Kept.refl _ _).alloc _
 have d0:W0.cell? ⟨w.heap.size,0,none⟩=some (.int .u8 a):=by rw[<-hW0];simp
 have d1:W0.cell? ⟨w.heap.size,1,none⟩=some (.int .u8 b):=by rw[<-hW0];simp
 have d2:W0.cell? ⟨w.heap.size,2,none⟩=some (.int .u8 c):=by rw[<-hW0];simp
 have hsm:w.heap.size≠m:=zL d0 (HM.out.kept hk0 (fun h=>h))
 have D:=Lib.hid (And.intro d0 (And.intro d1 d2))
 have K0:=Lib.hid hk0
 rw[hW0]
 clear hW0 d0 d1 d2 hk0
 go_loopg [11] l.length (fun g vi wr=> ∃k:Nat,k<=l.length/\vi= .int .i64 (k:Int)/\l.length-k<=g/\mG wr m (E++dh ty a b c (l.take k))/\Kept (one m) W0 wr)
 case atStart=>exact⟨0,by omega,rfl,by omega,by simpa[dh]using HM.out.kept K0.out (fun h=>h),Kept.refl _ _⟩
 case round=>
  obtain⟨k,hkl,rfl,hg,hma,hkp⟩:=hrel
  by_cases hlt:k<l.length
  ·obtain⟨x,hx⟩: ∃x,l[k]?=some x:=⟨_,List.getElem?_eq_getElem hlt⟩
   obtain⟨b0,off,rfl,hcl⟩:=H3.out.resolve_left (fun h=>by rw[h]at hx;cases hx)
   have q0:=hcl k x hx
   have hb0:b0≠m:=zL q0 HM.out
   have r0:=hkp.cell (p:=⟨b0,off+k,none⟩) (fun h=>hb0 h) (K0.out.cell (fun h=>h) q0)
   have s0:=hkp.cell (p:=⟨w.heap.size,0,none⟩) (fun h=>hsm h) D.out.1
   have s1:=hkp.cell (p:=⟨w.heap.size,1,none⟩) (fun h=>hsm h) D.out.2.1
   have s2:=hkp.cell (p:=⟨w.heap.size,2,none⟩) (fun h=>hsm h) D.out.2.2
   have s3:=hkp.cell (p:=⟨Bm,0,none⟩) (fun h=>hne h) (K0.out.cell (fun h=>h) HC.out)
   obtain⟨w2,hup,g1,g2⟩:=hma.put ((x,a,b,c),ty) (Wv hx HN.out)
   unfold qO at hup
   simp only[]at hup
   rw[List.append_assoc,<-TJ hx]at g1
   have G:=Lib.hid (And.intro hg (And.intro g1 (hkp.trans g2)))
   clear q0 hcl hx hg hma hkp g1 g2 H3 HN HM HC D K0
   go_wp2_with fail
   go_roundg (l.length-(k+1))
   case rel=>exact⟨k+1,by omega,by go_num,Nat.le_refl _,G.out.2.1,G.out.2.2⟩
   case measure=>have:=G.out.1;omega
  ·have hkl:k=l.length:=by omega
   subst hkl
   rw[List.take_of_length_le (Nat.le_refl _)]at hma
   have G:=Lib.hid (And.intro hma hkp)
   clear hma hkp hg
   go_wp2_with fail
   go_end0
   exact⟨rfl,G.out.1,K0.out.pure.trans G.out.2⟩
def agX (w:World)(e:Ending)(w':World):Prop:= ∃m,e= .returned (.map (some m))/\mG w' m pJ/\Kept none' w w'
theorem Reads.D7 (w:World)(l:List Int)(E n:Nat)(h:l.length=n)(hn:n<=maxLen):Reads (w.alloc (.cells (pG l).toArray E)) 1 (.slice (some ⟨w.heap.size,0,none⟩) n n) (pG l):=
 ⟨_,n,n,rfl,Nat.le_refl _,hn,by simp[pG,h], .inr ⟨_,0,rfl,fun i x hx=>by rw[World.cell?_alloc_new];simpa using hx⟩⟩
theorem MX (w:World):Calls Tryz.prog 207 #[] w (agX w):=by
 have hmm:= @run_makeMap Tryz.prog
 go_enter Tryz.func207,Tryz.ntmps207
 go_wp2_with fail
 obtain⟨W0,hW0⟩: ∃W0,(w.alloc (.map #[] 0)).alloc (.cells #[.map (some w.heap.size)] 281)=W0:=⟨_,rfl⟩
 have hk0:Kept none' w W0:=by rw[<-hW0];exact((Kept.refl _ _).alloc _).alloc _
 have hs:w.heap.size<W0.heap.size:=by rw[<-hW0];simp;omega
 have m0:mG W0 w.heap.size []:=by
  have h1:mG (w.alloc (.map #[] 0)) w.heap.size []:=by unfold mG;simpa[lC]using heap_alloc_new w (.map #[] 0)
  rw[<-hW0];exact h1.kept ((Kept.refl none' _).alloc _) (fun h=>h)
 have c0:W0.cell? ⟨w.heap.size+1,0,none⟩=some (.map (some w.heap.size)):=by rw[<-hW0];simp
 have hz0:W0.heap.size=w.heap.size+1+1:=by rw[<-hW0];simp
 rw[hW0]
 clear hW0 hmm
 have a1:Kept none' W0 (W0.alloc (.cells #[.int .u8 1, .int .u8 2, .int .u8 3, .int .u8 4] 5)):=(Kept.refl _ _).alloc _
 have b1:Reads (W0.alloc (.cells #[.int .u8 1, .int .u8 2, .int .u8 3, .int .u8 4] 5)) 1 (.slice (some ⟨W0.heap.size,0,none⟩) 4 4) (pG [1,2,3,4]):=Reads.D7 _ [1,2,3,4] 5 4 rfl (by unfold maxLen;omega)
 rw[hz0]at b1
 clear hz0
 have q1:=lX 1 0 0 0 _ [1,2,3,4] [] w.heap.size (w.heap.size+1) _ (m0.kept a1 (fun h=>h)) (a1.cell (fun h=>h) c0) b1 (by decide)
 refine q1.mono ?_
 trace "0"
 clear q1 b1
 rintro e W1 ⟨rfl,m1,k1⟩
 have c1:=k1.cell (p:=⟨w.heap.size+1,0,none⟩) (fun h=>by unfold one at h;simp at h) (a1.cell (fun h=>h) c0)
 have K1:Kept none' w W1:=hk0.new (a1.pure.trans k1) (fun i hi e=>by unfold one at e;omega)
 clear a1 k1 m0 c0
 go_wp2_with fail
 have a2:Kept none' W1 (W1.alloc (.cells #[.int .u8 5] 5)):=(Kept.refl _ _).alloc _
 have b2:Reads (W1.alloc (.cells #[.int .u8 5] 5)) 1 (.slice (some ⟨W1.heap.size,0,none⟩) 1 1) (pG [5]):=Reads.D7 _ [5] 5 1 rfl (by unfold maxLen;omega)
 have q2:=lX 1 1 0 0 _ [5] ([]++dh 1 0 0 0 [1,2,3,4]) w.heap.size (w.heap.size+1) _ (m1.kept a2 (fun h=>h)) (a2.cell (fun h=>h) c1) b2 (by decide)
 refine q2.mono ?_
 trace "1"
 clear q2 b2
 rintro e W2 ⟨rfl,m2,k2⟩
 have c2:=k2.cell (p:=⟨w.heap.size+1,0,none⟩) (fun h=>by unfold one at h;simp at h) (a2.cell (fun h=>h) c1)
 have K2:Kept none' w W2:=K1.new (a2.pure.trans k2) (fun i hi e=>by unfold one at e;omega)
 clear a2 k2 m1 c1
 go_wp2_with fail
 have a3:Kept none' W2 (W2.alloc (.cells #[.int .u8 7, .int .u8 8, .int .u8 9, .int .u8 10, .int .u8 11] 5)):=(Kept.refl _ _).alloc _
 have b3:Reads (W2.alloc (.cells #[.int .u8 7, .int .u8 8, .int .u8 9, .int .u8 10, .int .u8 11] 5)) 1 (.slice (some ⟨W2.heap.size,0,none⟩) 5 5) (pG [7,8,9,10,11]):=Reads.D7 _ [7,8,9,10,11] 5 5 rfl (by unfold maxLen;omega)
 have q3:=lX 1 1 1 0 _ [7,8,9,10,11] (([]++dh 1 0 0 0 [1,2,3,4])++dh 1 1 0 0 [5]) w.heap.size (w.heap.size+1) _ (m2.kept a3 (fun h=>h)) (a3.cell (fun h=>h) c2) b3 (by decide)
 refine q3.mono ?_
 trace "2"
 clear q3 b3
 rintro e W3 ⟨rfl,m3,k3⟩
 have c3:=k3.cell (p:=⟨w.heap.size+1,0,none⟩) (fun h=>by unfold one at h;simp at h) (a3.cell (fun h=>h) c2)
 have K3:Kept none' w W3:=K2.new (a3.pure.trans k3) (fun i hi e=>by unfold one at e;omega)
 clear a3 k3 m2 c2
 go_wp2_with fail
 have a4:Kept none' W3 (W3.alloc (.cells #[.int .u8 6] 5)):=(Kept.refl _ _).alloc _
 have b4:Reads (W3.alloc (.cells #[.int .u8 6] 5)) 1 (.slice (some ⟨W3.heap.size,0,none⟩) 1 1) (pG [6]):=Reads.D7 _ [6] 5 1 rfl (by unfold maxLen;omega)
 have q4:=lX 2 2 0 0 _ [6] ((([]++dh 1 0 0 0 [1,2,3,4])++dh 1 1 0 0 [5])++dh 1 1 1 0 [7,8,9,10,11]) w.heap.size (w.heap.size+1) _ (m3.kept a4 (fun h=>h)) (a4.cell (fun h=>h) c3) b4 (by decide)
 refine q4.mono ?_
 trace "3"
 clear q4 b4
 rintro e W4 ⟨rfl,m4,k4⟩
 have c4:=k4.cell (p:=⟨w.heap.size+1,0,none⟩) (fun h=>by unfold one at h;simp at h) (a4.cell (fun h=>h) c3)
 have K4:Kept none' w W4:=K3.new (a4.pure.trans k4) (fun i hi e=>by unfold one at e;omega)
 clear a4 k4 m3 c3
 go_wp2_with fail
 have a5:Kept none' W4 (W4.alloc (.cells #[.int .u8 16, .int .u8 17, .int .u8 14, .int .u8 15] 5)):=(Kept.refl _ _).alloc _
 have b5:Reads (W4.alloc (.cells #[.int .u8 16, .int .u8 17, .int .u8 14, .int .u8 15] 5)) 1 (.slice (some ⟨W4.heap.size,0,none⟩) 4 4) (pG [16,17,14,15]):=Reads.D7 _ [16,17,14,15] 5 4 rfl (by unfold maxLen;omega)
 have q5:=lX 2 2 2 0 _ [16,17,14,15] (((([]++dh 1 0 0 0 [1,2,3,4])++dh 1 1 0 0 [5])++dh 1 1 1 0 [7,8,9,10,11])++dh 2 2 0 0 [6]) w.heap.size (w.heap.size+1) _ (m4.kept a5 (fun h=>h)) (a5.cell (fun h=>h) c4) b5 (by decide)
 refine q5.mono ?_
 trace "4"
 clear q5 b5
 rintro e W5 ⟨rfl,m5,k5⟩
 have c5:=k5.cell (p:=⟨w.heap.size+1,0,none⟩) (fun h=>by unfold one at h;simp at h) (a5.cell (fun h=>h) c4)
 have K5:Kept none' w W5:=K4.new (a5.pure.trans k5) (fun i hi e=>by unfold one at e;omega)
 clear a5 k5 m4 c4
 go_wp2_with fail
 have a6:Kept none' W5 (W5.alloc (.cells #[.int .u8 12, .int .u8 13, .int .u8 14, .int .u8 15] 5)):=(Kept.refl _ _).alloc _
 have b6:Reads (W5.alloc (.cells #[.int .u8 12, .int .u8 13, .int .u8 14, .int .u8 15] 5)) 1 (.slice (some ⟨W5.heap.size,0,none⟩) 4 4) (pG [12,13,14,15]):=Reads.D7 _ [12,13,14,15] 5 4 rfl (by unfold maxLen;omega)
 have q6:=lX 2 1 1 0 _ [12,13,14,15] ((((([]++dh 1 0 0 0 [1,2,3,4])++dh 1 1 0 0 [5])++dh 1 1 1 0 [7,8,9,10,11])++dh 2 2 0 0 [6])++dh 2 2 2 0 [16,17,14,15]) w.heap.size (w.heap.size+1) _ (m5.kept a6 (fun h=>h)) (a6.cell (fun h=>h) c5) b6 (by decide)
 refine q6.mono ?_
 trace "5"
 clear q6 b6
 rintro e W6 ⟨rfl,m6,k6⟩
 have c6:=k6.cell (p:=⟨w.heap.size+1,0,none⟩) (fun h=>by unfold one at h;simp at h) (a6.cell (fun h=>h) c5)
 have K6:Kept none' w W6:=K5.new (a6.pure.trans k6) (fun i hi e=>by unfold one at e;omega)
 clear a6 k6 m5 c5
 go_wp2_with fail
 have a7:Kept none' W6 (W6.alloc (.cells #[.int .u8 18] 5)):=(Kept.refl _ _).alloc _
 have b7:Reads (W6.alloc (.cells #[.int .u8 18] 5)) 1 (.slice (some ⟨W6.heap.size,0,none⟩) 1 1) (pG [18]):=Reads.D7 _ [18] 5 1 rfl (by unfold maxLen;omega)
 have q7:=lX 1 2 1 1 _ [18] (((((([]++dh 1 0 0 0 [1,2,3,4])++dh 1 1 0 0 [5])++dh 1 1 1 0 [7,8,9,10,11])++dh 2 2 0 0 [6])++dh 2 2 2 0 [16,17,14,15])++dh 2 1 1 0 [12,13,14,15]) w.heap.size (w.heap.size+1) _ (m6.kept a7 (fun h=>h)) (a7.cell (fun h=>h) c6) b7 (by decide)
 refine q7.mono ?_
 trace "6"
 clear q7 b7
 rintro e W7 ⟨rfl,m7,k7⟩
 have c7:=k7.cell (p:=⟨w.heap.size+1,0,none⟩) (fun h=>by unfold one at h;simp at h) (a7.cell (fun h=>h) c6)
 have K7:Kept none' w W7:=K6.new (a7.pure.trans k7) (fun i hi e=>by unfold one at e;omega)
 clear a7 k7 m6 c6
 go_wp2_with fail
 have a8:Kept none' W7 (W7.alloc (.cells #[.int .u8 18] 5)):=(Kept.refl _ _).alloc _
 have b8:Reads (W7.alloc (.cells #[.int .u8 18] 5)) 1 (.slice (some ⟨W7.heap.size,0,none⟩) 1 1) (pG [18]):=Reads.D7 _ [18] 5 1 rfl (by unfold maxLen;omega)
 have q8:=lX 2 2 2 2 _ [18] ((((((([]++dh 1 0 0 0 [1,2,3,4])++dh 1 1 0 0 [5])++dh 1 1 1 0 [7,8,9,10,11])++dh 2 2 0 0 [6])++dh 2 2 2 0 [16,17,14,15])++dh 2 1 1 0 [12,13,14,15])++dh 1 2 1 1 [18]) w.heap.size (w.heap.size+1) _ (m7.kept a8 (fun h=>h)) (a8.cell (fun h=>h) c7) b8 (by decide)
 refine q8.mono ?_
 trace "7"
 clear q8 b8
 rintro e W8 ⟨rfl,m8,k8⟩
 have c8:=k8.cell (p:=⟨w.heap.size+1,0,none⟩) (fun h=>by unfold one at h;simp at h) (a8.cell (fun h=>h) c7)
 have K8:Kept none' w W8:=K7.new (a8.pure.trans k8) (fun i hi e=>by unfold one at e;omega)
 clear a8 k8 m7 c7
 go_wp2_with fail
 go_ret
 exact⟨_,rfl,m8,K8⟩
theorem jD {a b:Int}(h:a=b):Ending.returned (.int .u8 a)= .returned (.int .u8 b):=by rw[h]
def uw (f:Nat)(l:List Ex)(k j:Nat):Int:=((l.take k).map (aV f)).getD j 0
def EJ (op:Int)(f:Nat)(l:List Ex)(k:Nat):Array Value:= #[.int .u8 op, .int .u8 (uw f l k 0), .int .u8 (uw f l k 1), .int .u8 (uw f l k 2)]
def adh (f:Nat):Prop:= ∀(x:Ex)(a:Array Value)(m:Nat)(w:World),bg w a x->dU f x=true->mG w m pJ->Calls Tryz.prog 206 #[.map (some m), .agg a] w (Gives w (.int .u8 (aV f x)))
theorem Ar (f:Nat)(x:Ex):aV (f+1) x=if(x.args.map (aV f)).contains 0 then 0 else jy (x.op,(x.args.map (aV f)).getD 0 0,(x.args.map (aV f)).getD 1 0,(x.args.map (aV f)).getD 2 0):=by
 cases x;rfl
theorem yJ (op:Int):arity op<=3:=by unfold arity;split<;>(try split)<;>(try split)<;>(try split)<;>omega
theorem cells_at {w:World}{B E:Nat}{f:Nat×Nat}{cs:Array Value}(h:w.heap[B]?=some (.cells cs E f)){j:Nat}{v:Value}(hj:cs[j]?=some v):w.cell? ⟨B,j,none⟩=some v:=by
 simp[World.cell?,h,hj]
theorem free_at {w:World}{B E:Nat}{cs:Array Value}(h:w.heap[B]?=some (.cells cs E (0,0)))(j:Nat):w.frozen? ⟨B,j,none⟩=false:=by
 simp[World.frozen?,h]
theorem xK {w:World}{B E:Nat}{f:Nat×Nat}{cs:Array Value}(h:w.heap[B]?=some (.cells cs E f))(j:Nat)(v:Value):(w.setCell ⟨B,j,none⟩ v).heap[B]?=some (.cells (cs.setIfInBounds j v) E f):=by
 show(w.heap.modify B _)[B]?=_
 rw[Array.getElem?_modify]
 simp[h]
theorem GI {f:Nat}{l:List Ex}{k:Nat}{y:Ex}(h:l[k]?=some y)(j:Nat):uw f l (k+1) j=if j=k then aV f y else uw f l k j:=by
 have hlt:=(List.getElem?_eq_some_iff.1 h).1
 unfold uw
 rw[List.getD_eq_getElem?_getD,List.getD_eq_getElem?_getD,List.getElem?_map,List.getElem?_map,List.getElem?_take,List.getElem?_take]
 by_cases h1:j=k
 ·subst h1
  rw[if_pos (by omega),if_pos rfl,h];rfl
 ·by_cases h2:j<k
  ·rw[if_pos (by omega),if_pos h2,if_neg h1]
  ·rw[if_neg (by omega),if_neg h2,if_neg h1]
theorem V6 {op:Int}{f:Nat}{l:List Ex}{k:Nat}{y:Ex}(h:l[k]?=some y)(hk:k<3):(EJ op f l k).setIfInBounds (1+k) (.int .u8 (aV f y))=EJ op f l (k+1):=by
 unfold EJ
 rw[GI h,GI h,GI h]
 obtain rfl|rfl|rfl:k=0\/k=1\/k=2:=by omega
 all_goals rfl
theorem KQ {f:Nat}{l:List Ex}(j:Nat):uw f l l.length j=(l.map (aV f)).getD j 0:=by unfold uw;rw[List.take_of_length_le (Nat.le_refl _)]
theorem adO {f:Nat}{l:List Ex}{k:Nat}{y:Ex}(h:l[k]?=some y)(h1: ∀z∈l.take k,aV f z≠0)(h2:aV f y≠0): ∀z∈l.take (k+1),aV f z≠0:=by
 intro z hz
 rw[List.take_add_one,h]at hz
 rcases List.mem_append.1 hz with hz|hz
 ·exact h1 z hz
 ·simp at hz;subst hz;exact h2
theorem Z9 {f:Nat}{x y:Ex}(h:y∈x.args)(h0:aV f y=0):aV (f+1) x=0:=by
 rw[Ar,if_pos]
 simp only[List.contains_eq_mem,List.mem_map,decide_eq_true_eq]
 exact⟨y,h,h0⟩
theorem aac {f:Nat}{x:Ex}(h: ∀z∈x.args.take x.args.length,aV f z≠0):aV (f+1) x=jy (x.op,uw f x.args x.args.length 0,uw f x.args x.args.length 1,uw f x.args x.args.length 2):=by
 rw[Ar,if_neg,KQ,KQ,KQ]
 rw[List.take_of_length_le (Nat.le_refl _)]at h
 simp only[List.contains_eq_mem,List.mem_map,decide_eq_true_eq]
 rintro⟨z,hz,e⟩
 exact h z hz e
theorem adr (f:Nat)(ih:adh f)(x:Ex)(a:Array Value)(m:Nat)(w:World)(h:bg w a x)(hmay:dU (f+1) x=true)(hm:mG w m pJ):Calls Tryz.prog 206 #[.map (some m), .agg a] w (Gives w (.int .u8 (aV (f+1) x))):=by
 obtain⟨p,cap,rfl,h0,h1,h2,h3,h4,h5⟩:=h.parts
 have hma:x.args.length<=3/\ ∀y∈x.args,dU f y=true:=by
  obtain⟨op,n,args⟩:=x
  have:=XI hmay
  have h3:=yJ op
  refine⟨?_,this.2.2.2⟩
  show args.length<=3
  omega
 have hl3:=hma.1
 unfold maxLen at h4
 have H5:=Lib.hid h5
 have HM:=Lib.hid hm
 have HA:=Lib.hid hma.2
 have IH:=Lib.hid ih
 clear h h5 hmay hm ih hma
 go_enter Tryz.func206,Tryz.ntmps206
 go_wp2
 obtain⟨W0,hW0⟩: ∃W0,(w.alloc (.cells #[.int .u8 x.op, .int .i64 x.n, .slice p x.args.length cap] 77)).alloc (.cells #[.int .u8 x.op, .int .u8 0, .int .u8 0, .int .u8 0] 399)=W0:=⟨_,rfl⟩
 have hk0:Kept none' w W0:=by rw[<-hW0];exact((Kept.refl _ _).alloc _).alloc _
 have hB:W0.heap[w.heap.size+1]?=some (.cells (EJ x.op f x.args 0) 399 (0,0)):=by
  rw[<-hW0]
  have:=heap_alloc_new (w.alloc (.cells #[.int .u8 x.op, .int .i64 x.n, .slice p x.args.length cap] 77)) (.cells #[.int .u8 x.op, .int .u8 0, .int .u8 0, .int .u8 0] 399)
  rw[World.size_alloc]at this
  simpa[EJ,uw]using this
 have HB:=Lib.hid hB
 have K0:=Lib.hid hk0
 rw[hW0]
 clear hW0 hB hk0
 go_loopg [14] x.args.length (fun g vi wr=> ∃k:Nat,k<=x.args.length/\vi= .int .i64 (k:Int)/\x.args.length-k<=g/\wr.heap[w.heap.size+1]?=some (.cells (EJ x.op f x.args k) 399 (0,0))/\(∀y∈x.args.take k,aV f y≠0)/\Kept none' w wr)
 case atStart=>exact⟨0,by omega,rfl,by omega,HB.out,by simp,K0.out⟩
 case round=>
  obtain⟨k,hkl,rfl,hg,hrow,hnz,hkp⟩:=hrel
  by_cases hlt:k<x.args.length
  ·obtain⟨y,hy⟩: ∃y,x.args[k]?=some y:=⟨_,List.getElem?_eq_getElem hlt⟩
   obtain⟨b,off,p',cap',rfl,q0,q1,q2,hy2⟩:=H5.out k y hy
   have r0:=hkp.cell (p:=⟨b,off+k*3,none⟩) (fun h=>h) q0
   have r1:=hkp.cell (p:=⟨b,off+k*3+1,none⟩) (fun h=>h) q1
   have r2:=hkp.cell (p:=⟨b,off+k*3+2,none⟩) (fun h=>h) q2
   have HY:=Lib.hid (And.intro hy (bg.pure hkp hy2))
   have G:=Lib.hid (And.intro hg (And.intro hrow (And.intro hnz hkp)))
   have hk3:(k:Int)<3:=by omega
   clear q0 q1 q2 hy hy2 hkp hg hrow hnz H5 HB K0
   go_wp2_with fail
   have ka:Kept none' wr (wr.alloc (.cells #[.int .u8 y.op, .int .i64 y.n, .slice p' y.args.length cap'] 77)):=(Kept.refl _ _).alloc _
   have c:=IH.out y _ m _ (bg.pure ka HY.out.2) (HA.out y (List.mem_of_getElem? HY.out.1)) (HM.out.kept (G.out.2.2.2.trans ka) (fun h=>h))
   (with_reducible refine c.mono ?_)
   clear c
   rintro e w2 ⟨rfl,k2⟩
   have hrow2:=(ka.trans k2).heap G.out.2.1 (fun h=>h)
   have fz:=free_at hrow2 (1+k)
   obtain⟨v0,hv0⟩: ∃v0,w2.cell? ⟨w.heap.size+1,1+k,none⟩=some v0:=by
    obtain hk|hk|hk:k=0\/k=1\/k=2:=by omega
    all_goals(subst hk;exact⟨_,cells_at hrow2 rfl⟩)
   have hst:=xK hrow2 (1+k) (.int .u8 (aV f y))
   rw[V6 HY.out.1 (by omega)]at hst
   have kst:Kept none' w (w2.setCell ⟨w.heap.size+1,1+k,none⟩ (.int .u8 (aV f y))):=(G.out.2.2.2.trans (ka.trans k2)).setCell (p:=⟨w.heap.size+1,1+k,none⟩) (.inr (by simp)) _
   have HR:=Lib.hid (And.intro hst kst)
   clear k2 ka hrow2 hst kst
   by_cases hz:aV f y=0
   ·have hz':(aV f y==0)=true:=by simp[hz]
    have HZ:=Lib.hid hz
    clear hz
    go_wp2_with fail
    go_ret
    exact⟨jD (Z9 (List.mem_of_getElem? HY.out.1) HZ.out).symm,HR.out.2⟩
   ·have hz':(aV f y==0)=false:=by simp[hz]
    have HZ:=Lib.hid hz
    clear hz
    go_wp2_with fail
    go_roundg (x.args.length-(k+1))
    case rel=>exact⟨k+1,by omega,by go_num,Nat.le_refl _,HR.out.1,adO HY.out.1 G.out.2.2.1 HZ.out,HR.out.2⟩
    case measure=>have:=G.out.1;omega
  ·have hkl:k=x.args.length:=by omega
   subst hkl
   have e0:wr.cell? ⟨w.heap.size+1,0,none⟩=some (.int .u8 x.op):=cells_at hrow rfl
   have e1:wr.cell? ⟨w.heap.size+1,1,none⟩=some (.int .u8 (uw f x.args x.args.length 0)):=cells_at hrow rfl
   have e2:wr.cell? ⟨w.heap.size+1,2,none⟩=some (.int .u8 (uw f x.args x.args.length 1)):=cells_at hrow rfl
   have e3:wr.cell? ⟨w.heap.size+1,3,none⟩=some (.int .u8 (uw f x.args x.args.length 2)):=cells_at hrow rfl
   have hlk:=(HM.out.kept hkp (fun h=>h)).lookup (x.op,uw f x.args x.args.length 0,uw f x.args x.args.length 1,uw f x.args x.args.length 2)
   unfold qO at hlk
   simp only[]at hlk
   have G:=Lib.hid (And.intro hnz hkp)
   clear hnz hkp hrow hg
   go_wp2_with fail
   go_ret
   exact⟨jD (aac G.out.1).symm,G.out.2⟩
theorem Px: ∀f,adh f
 |0=>fun x a m w h hm _=>by cases x;cases hm
 |f+1=>fun x a m w h hm hr=>adr f (Px f) x a m w h hm hr
def wX (x:Ex):Int×Int:=if dU 16 x=false then(0,2)else if aV 16 x=0 then(0,91)else(aV 16 x,0)
def rG (w:World)(r:Int×Int)(e:Ending)(w':World):Prop:=e= .returned (.tuple #[.int .u8 r.1, .int .i64 r.2])/\Kept none' w w'
theorem Xh (x:Ex)(a:Array Value)(w:World)(h:bg w a x):Calls Tryz.prog 146 #[.agg a, .bool true] w (rG w (wX x)):=by
 obtain⟨p,cap,rfl,h0,h1,h2,h3,h4,h5⟩:=h.parts
 have H:=Lib.hid h
 clear h h5
 have hk0:Kept none' w (w.alloc (.cells #[.int .u8 x.op, .int .i64 x.n, .slice p x.args.length cap] 77)):=(Kept.refl _ _).alloc _
 obtain⟨W0,hW0⟩: ∃W0,w.alloc (.cells #[.int .u8 x.op, .int .i64 x.n, .slice p x.args.length cap] 77)=W0:=⟨_,rfl⟩
 have d0:W0.cell? ⟨w.heap.size,0,none⟩=some (.int .u8 x.op):=by rw[<-hW0];simp
 have d1:W0.cell? ⟨w.heap.size,1,none⟩=some (.int .i64 x.n):=by rw[<-hW0];simp
 have d2:W0.cell? ⟨w.heap.size,2,none⟩=some (.slice p x.args.length cap):=by rw[<-hW0];simp
 rw[hW0]at hk0
 have HK:=Lib.hid hk0
 have HW0:=Lib.hid hW0
 clear hk0 hW0
 go_enter Tryz.func146,Tryz.ntmps146
 go_wp2_with fail
 rw[HW0.out]
 (with_reducible refine(VW x _ W0 (bg.pure HK.out H.out)).mono ?_)
 rintro e W1 ⟨rfl,k1⟩
 have c0:=k1.cell (p:=⟨w.heap.size,0,none⟩) (fun h=>h) d0
 have c1:=k1.cell (p:=⟨w.heap.size,1,none⟩) (fun h=>h) d1
 have c2:=k1.cell (p:=⟨w.heap.size,2,none⟩) (fun h=>h) d2
 have wE:=Lib.hid (HK.out.trans k1)
 clear k1
 cases hm:dU 16 x with
 |false=>
  have F:rG w (wX x) (.returned (.tuple #[.int .u8 0, .int .i64 2])) W1:=⟨by unfold wX;rw[if_pos hm],wE.out⟩
  have F':=Lib.hid F
  clear hm F
  go_wp2_with fail
  go_ret2
  exact F'.out
 |true=>
  have HM:=Lib.hid hm
  clear hm
  go_wp2_with fail
  refine aZ [1,0,2,3] (fun W=>Kept none' W1 W) (by kernel_rfl) (by kernel_rfl) rfl (Kept.refl _ _).drew ?_
  simp only[List.map_cons,List.map_nil,List.getElem?_toArray,List.getElem?_cons_zero,List.getElem?_cons_succ,Option.getD_some]
  (apply bC rfl rfl;(intro W hW;have z0:=hW.cell (fun h=>h) c0;have z1:=hW.cell (fun h=>h) c1;have z2:=hW.cell (fun h=>h) c2;go_simp;rfl);go_frame)
  apply iC rfl rfl
  intro K hK
  go_wp2_with fail
  (with_reducible refine(MX _).mono ?_)
  rintro e W2 ⟨m,rfl,r2,k2⟩
  have k2':Kept none' W1 W2:=k2.kL
  clear k2
  go_wp2_with fail
  refine hK _ _ (fun _=>k2') ?_
  clear hK
  apply iC rfl rfl
  intro K hK
  go_wp2_with fail
  have c:=Px 16 x _ m _ (bg.pure (wE.out.trans k2') H.out) HM.out r2
  (with_reducible refine c.mono ?_)
  clear c
  rintro e W3 ⟨rfl,k3⟩
  have Aj:Kept none' W1 W3:=k2'.trans k3
  clear k2' k3 r2
  go_wp2_with fail
  refine hK _ _ (fun _=>Aj) ?_
  clear hK
  (apply bC rfl rfl;(intro W hW;go_simp;rfl);go_frame)
  refine fU (fun _=>Aj) ?_
  by_cases ht:aV 16 x=0
  ·have F:rG w (wX x) (.returned (.tuple #[.int .u8 0, .int .i64 91])) W3:=⟨by unfold wX;rw[if_neg (by rw[HM.out];simp),if_pos ht],wE.out.trans Aj⟩
   have F':=Lib.hid F
   have hb:(aV 16 x==0)=true:=by simp[ht]
   clear F ht Aj
   go_wp2_with fail
   go_ret2
   exact F'.out
  ·have F:rG w (wX x) (.returned (.tuple #[.int .u8 (aV 16 x), .int .i64 0])) W3:=⟨by unfold wX;rw[if_neg (by rw[HM.out];simp),if_neg ht],wE.out.trans Aj⟩
   have F':=Lib.hid F
   have hb:(aV 16 x==0)=false:=by simp[ht]
   clear F ht Aj
   go_wp2_with fail
   go_ret2
   exact F'.out
end Go.Proofs.YtakhobfamnjnoaaGreatDoor
