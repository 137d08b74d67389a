/- Symbolic runs: jobs as bytes. -/
import Derived.Test.YtakhobfamnjnoaaGreatDoorC24
set_option linter.unusedVariables false
set_option linter.unusedSimpArgs false
namespace Go.Proofs.YtakhobfamnjnoaaGreatDoor
section
namespace Sx
open Go Go.RowKit _root_.Go.Proofs.Tryz
set_option maxRecDepth 100000
set_option maxHeartbeats 4000000
def oO (d:JN):List UInt8:=fQ d.uid.data.toList++ay [d.kind,d.n,Int.ofNat d.ins.length]++ay d.ins++dV d.x
def dH (l:List JN):List UInt8:=l.flatMap oO
def jB (j:Jb):List UInt8:=ay [j.par,Int.ofNat j.nodes.length]++dH j.nodes
theorem Jf {l:List JN}{k:Nat}{x:JN}(h:l[k]?=some x):dH (l.take (k+1))=dH (l.take k)++oO x:=by
 unfold dH
 rw[List.take_add_one,h,List.flatMap_append];simp
theorem Je (l:List JN)(k:Nat):(dH (l.take k)).length<=(dH l).length:=by
 conv=>rhs;rw[<-List.take_append_drop k l]
 unfold dH
 rw[List.flatMap_append,List.length_append];omega
theorem YZ (l:List Int)(k:Nat):(ay (l.take k)).length<=(ay l).length:=by
 conv=>rhs;rw[<-List.take_append_drop k l]
 unfold ay
 rw[List.flatMap_append,List.length_append];omega
theorem WM {l:List Int}{k:Nat}{x:Int}(h:l[k]?=some x):ay (l.take (k+1))=ay (l.take k)++ay [x]:=by
 unfold ay
 rw[List.take_add_one,h,List.flatMap_append];simp
theorem jC (l:List Int):G9 l=bs (ay l):=rfl
theorem oL {n:Int}(h:aO n):wr .i64 n=n:=rD h
theorem uH {n:Nat}(h:n<4611686018427387904):aO (Int.ofNat n):=by unfold aO;simp;omega
theorem x9 {n:Int}(h:0<=n)(h2:n<=255):aO n:=by unfold aO;omega
section
variable {bx:{α:Type}->α->α} (hb: ∀{α:Type}(x:α),bx x=x)
include hb
theorem ahf (j:Jb)(hf:gX j)(hm:(dB j).2=0)(hs:(jB j).length<=65536):Ct prog 52 [jM bx j] [] fun r h=>r= .aK [.c (.p (.str (bx (bs (jB j))))), .c (.p (.int .i64 0))]/\h=[]:=ct hb func52 fun Q hQ K hK=>by
 have e1:=oL hf.2.2
 have e2:=oL (uH hf.1)
 have h64: ∀n∈[j.par,Int.ofNat j.nodes.length],aO n:=by
  intro n hn
  simp only[List.mem_cons,List.not_mem_nil,or_false]at hn
  rcases hn with rfl|rfl
  ·exact hf.2.2
  ·exact uH hf.1
 cbv
 refine call hQ (OO hb j hf) [] ?_
 rintro _ _ ⟨rfl,rfl⟩
 cbv
 refine⟨fun h1=>?_,fun h1=>?_⟩<;>simp only[hb,pl]at h1
 ·exact absurd hm h1
 ·cbv
  refine call hQ (wQ hb [bx j.par,bx (Int.ofNat j.nodes.length)] (by simp) (by simpa only[hb]using h64)) [.all 1] ?_ (hs:=by cbv;simp[hb,e1])
  rintro _ _ ⟨rfl,rfl⟩
  cbv
  refine loop hb (fun k=>k<=j.nodes.length) (fun k=>j.nodes.length-k) (fun k=>[(30, .a (.c (.p (.int .i64 (bx (Int.ofNat k)))))),(6, .a (.c (.p (.str (bx (bs (ay [j.par,Int.ofNat j.nodes.length]++dH (j.nodes.take k))))))))]) (fun _=>[]) 0 (by omega) (ent [] [.all 0, .all 1] (he:=by cbv;(repeat' (first|trivial|rfl|apply And.intro|(simp[hb,dH,G9,bs];done))))) fun k hI=>?_
  cbv
  refine⟨fun hd=>?_,fun hd=>?_⟩<;>simp only[hb,pl]at hd
  ·obtain⟨d,hx⟩: ∃d,j.nodes[k]?=some d:=⟨_,List.getElem?_eq_getElem hd⟩
   have hsn:=Jf hx
   have hle:=Je j.nodes (k+1)
   obtain⟨f1,f2,f3,f4,f5,f6,f7⟩:=hf.2.1 d (List.mem_of_getElem? hx)
   have hlo:=hf.1
   have hu:=mQ hb (k:=k) (by omega)
   have w1:=oL (x9 f4 f5)
   have w2:=oL f6
   have g64: ∀n∈[d.kind,d.n,Int.ofNat d.ins.length],aO n:=by
    intro n hn
    simp only[List.mem_cons,List.not_mem_nil,or_false]at hn
    rcases hn with rfl|rfl|rfl
    ·exact x9 f4 f5
    ·exact f6
    ·exact uH f1
   have hT:(fQ d.uid.data.toList).length=(ay [Int.ofNat d.uid.data.toList.length]).length+d.uid.data.toList.length:=by unfold fQ;rw[List.length_append]
   have hls:(ay [j.par,Int.ofNat j.nodes.length]).length+(dH (j.nodes.take k)).length+((fQ d.uid.data.toList).length+(ay [d.kind,d.n,Int.ofNat d.ins.length]).length+(ay d.ins).length+(dV d.x).length)<=65536:=by
    unfold jB at hs
    rw[List.length_append]at hs
    rw[hsn,List.length_append]at hle
    have:(oO d).length=(fQ d.uid.data.toList).length+(ay [d.kind,d.n,Int.ofNat d.ins.length]).length+(ay d.ins).length+(dV d.x).length:=by unfold oO;simp only[List.length_append]
    omega
   cbv
   refine get (wU bx d) (gJ hb kJ rfl hx (rJ hb d)) (chk (gK hb hd (by omega)) ?_)
   cbv
   refine call hQ (Nu hb d.uid.data.toList (by omega)) [] ?_ (ha:=by cbv;(repeat' (first|trivial|rfl|apply And.intro|(simp[hb,sD];done))))
   rintro _ _ ⟨rfl,rfl⟩
   cbv
   refine call hQ (wQ hb [bx d.kind,bx d.n,bx (Int.ofNat d.ins.length)] (by simp) (by simpa only[hb]using g64)) [.all 3] ?_ (hs:=by cbv;simp[hb,w1,w2])
   rintro _ _ ⟨rfl,rfl⟩
   cbv
   refine chk (by simp only[hb,jC,<-dS,cu,List.length_append,decide_eq_true_eq];omega) ?_
   cbv
   refine chk (by simp only[hb,jC,<-dS,cu,List.length_append,decide_eq_true_eq];omega) ?_
   cbv
   refine loop hb (fun i=>i<=d.ins.length) (fun i=>d.ins.length-i) (fun i=>[(57, .a (.c (.p (.int .i64 (bx (Int.ofNat i)))))),(6, .a (.c (.p (.str (bx (bs (ay [j.par,Int.ofNat j.nodes.length]++dH (j.nodes.take k)++(fQ d.uid.data.toList++ay [d.kind,d.n,Int.ofNat d.ins.length]++ay (d.ins.take i)))))))))]) (fun _=>[]) 0 (by omega) (ent [] [.all 0, .all 1, .all 2, .all 3] (he:=by cbv;(repeat' (first|trivial|rfl|apply And.intro|(simp only[hb,jC,<-dS,List.take_zero];simp[ay];done))))) fun i hI2=>?_
   cbv
   refine⟨fun hd2=>?_,fun hd2=>?_⟩<;>simp only[hb,pl]at hd2
   ·obtain⟨x,hi⟩: ∃x,d.ins[i]?=some x:=⟨_,List.getElem?_eq_getElem hd2⟩
    have hin:=WM hi
    have hil:=YZ d.ins (i+1)
    rw[hin,List.length_append]at hil
    have hui:=mQ hb (k:=i) (by omega)
    have w3:=oL (f3 x (List.mem_of_getElem? hi))
    cbv
    refine get [.int .i64 (bx x)] (gJ hb (f:=fun x=>[.int .i64 x]) (fun _=>rfl) rfl hi (by rw[hb])) (chk (gK hb hd2 (by omega)) ?_)
    cbv
    refine call hQ (wQ hb [bx x] (by simp) (by simpa only[hb,List.mem_singleton,forall_eq]using f3 x (List.mem_of_getElem? hi))) [.all 4] ?_
    rintro _ _ ⟨rfl,rfl⟩
    cbv
    refine chk (by simp only[hb,jC,<-dS,cu,List.length_append,decide_eq_true_eq];omega) ?_
    cbv
    exact⟨i+1,by omega,by omega,ent [] [.all 0, .all 1, .all 2, .all 3] (he:=by cbv;(repeat' (first|trivial|rfl|apply And.intro|exact hui|(simp only[hb,hin,jC,<-dS,List.append_assoc];done))))⟩
   ·have hi2:i=d.ins.length:=by omega
    rw[hi2,List.take_of_length_le (Nat.le_refl _)]
    cbv
    refine call hQ (acG hb d.x f2 (by omega)) [] ?_
    rintro _ _ ⟨rfl,rfl⟩
    cbv
    refine chk (by simp only[hb,jC,<-dS,cu,List.length_append,decide_eq_true_eq];omega) ?_
    cbv
    exact⟨k+1,by omega,by omega,ent [] [.all 0, .all 1] (he:=by cbv;(repeat' (first|trivial|rfl|apply And.intro|exact hu|(simp only[hb,hsn,oO,jC,<-dS,List.append_assoc];done))))⟩
  ·cbv
   have hk:k=j.nodes.length:=by omega
   exact hK _ _ (.aK [.c (.p (.str (bx (bs (jB j))))), .c (.p (.int .i64 0))]) [] (aS [] [] (he:=by
    cbv
    rw[hk,List.take_of_length_le (Nat.le_refl _)]
    (repeat' (first|trivial|rfl|apply And.intro)))) ⟨rfl,rfl⟩
end
end Sx
end
section
namespace Sx
open Go Go.RowKit _root_.Go.Proofs.Tryz
set_option maxRecDepth 100000
set_option maxHeartbeats 4000000
def ng (j:Jb):List UInt8:=fQ (jB j)
def iL (a:Ac):List UInt8:=ay [a.kind,a.n,a.m]++if a.kind=0 then ay [a.part,a.key,a.val]else if a.kind=5 then ng a.j else[]
def gI (l:List Ac):List UInt8:=l.flatMap iL
def jX (t:Tp):List UInt8:=ay [t.bytes,t.room]++ng t.first++ay [Int.ofNat t.acts.length]++gI t.acts
theorem Jh {l:List Ac}{k:Nat}{x:Ac}(h:l[k]?=some x):gI (l.take (k+1))=gI (l.take k)++iL x:=by
 unfold gI
 rw[List.take_add_one,h,List.flatMap_append];simp
theorem Jg (l:List Ac)(k:Nat):(gI (l.take k)).length<=(gI l).length:=by
 conv=>rhs;rw[<-List.take_append_drop k l]
 unfold gI
 rw[List.flatMap_append,List.length_append];omega
def nM:Prop:= ∀j,gX j->(dB j).2=0->(jB j).length<=65536
theorem G8 {j:Jb}(hS:nM)(hf:gX j)(hm:(dB j).2=0):(ng j).length<=65546:=by
 have h1:=hS j hf hm
 have:=Ns (jB j) h1
 unfold ng;omega
theorem WY {a:Ac}(h:bW a=true)(h5:a.kind=5):(dB a.j).2=0:=by
 unfold bW kH at h
 rw[if_neg (by omega),if_pos h5]at h
 simp only[Bool.and_eq_true,decide_eq_true_eq]at h
 exact h.1.1.1
theorem Y1 {a:Ac}(hS:nM)(hf:mF a)(hm:bW a=true):(iL a).length<=65600:=by
 obtain⟨f1,f2,f3,f4,f5,f6,f7,f8⟩:=hf
 have h1:=iD (l:=[a.kind,a.n,a.m]) (by
  intro n hn
  simp only[List.mem_cons,List.not_mem_nil,or_false]at hn
  rcases hn with rfl|rfl|rfl
  ·exact x9 f1 f2
  ·exact f3
  ·exact f4)
 have h2:=iD (l:=[a.part,a.key,a.val]) (by
  intro n hn
  simp only[List.mem_cons,List.not_mem_nil,or_false]at hn
  rcases hn with rfl|rfl|rfl
  ·exact f5
  ·exact f6
  ·exact f7)
 simp only[List.length_cons,List.length_nil]at h1 h2
 unfold iL
 rw[List.length_append]
 split
 ·omega
 ·split
  ·rename_i h5
   have:=G8 hS f8 (WY hm h5)
   omega
  ·simp only[List.length_nil];omega
theorem Ny {l:List Ac}(hS:nM)(hf: ∀a∈l,mF a)(hm:l.all bW=true):(gI l).length<=l.length*65600:=by
 induction l with
 |nil=>simp[gI]
 |cons a l ih=>
  rw[List.all_cons,Bool.and_eq_true]at hm
  have h1:=ih (fun b hb=>hf b (.tail _ hb)) hm.2
  have h2:=Y1 hS (hf a (.head _)) hm.1
  unfold gI at h1⊢
  rw[List.flatMap_cons,List.length_append,List.length_cons]
  omega
section
variable {bx:{α:Type}->α->α} (hb: ∀{α:Type}(x:α),bx x=x)
include hb
theorem Qk (j:Jb)(hf:gX j)(hm:(dB j).2=0)(hs:(jB j).length<=65536):Ct prog 22 [jM bx j] [] fun r h=>r= .a (.c (.p (.str (bx (bs (ng j))))))/\h=[]:=ct hb func22 fun Q hQ K hK=>by
 cbv
 refine call hQ (ahf hb j hf hm hs) [] ?_
 rintro _ _ ⟨rfl,rfl⟩
 cbv
 refine call hQ (Nu hb (jB j) hs) [] ?_
 rintro _ _ ⟨rfl,rfl⟩
 cbv
 exact hK _ _ (.a (.c (.p (.str (bx (bs (ng j))))))) [] (aS [] []) ⟨rfl,rfl⟩
theorem ae1 (t:Tp)(hS:nM)(hf:fV t):Ct prog 7 [gV bx t] [] fun r h=>h=[]/\if ig t=true then r= .aK [.c (.p (.str (bx (bs (jX t))))), .c (.p (.int .i64 0))]else r= .aK [.c (.p (.str ByteArray.empty)), .c (.p (.int .i64 2))]:=ct hb func7 fun Q hQ K hK=>by
 obtain⟨f1,f2,f3,f4,f5⟩:=hf
 cbv
 refine call hQ (afu hb t ⟨f1,f2,f3,f4,f5⟩) [] ?_
 rintro _ _ ⟨rfl,rfl⟩
 cbv
 refine⟨fun h1=>?_,fun h1=>?_⟩<;>simp only[hb,pl]at h1
 ·cbv
  exact hK _ _ (.aK [.c (.p (.str ByteArray.empty)), .c (.p (.int .i64 2))]) [] (aS [] []) ⟨rfl,by rw[if_neg (by simp[h1])]⟩
 ·have hm:=h1
  unfold ig at hm
  simp only[Bool.and_eq_true,decide_eq_true_eq]at hm
  obtain⟨⟨⟨⟨⟨⟨m1,m2⟩,m3⟩,m4⟩,m5⟩,m6⟩,m7⟩:=hm
  have hJ:=hS t.first f3 m5
  cbv
  have g1: ∀n∈[t.bytes,t.room],aO n:=by
   intro n hn
   simp only[List.mem_cons,List.not_mem_nil,or_false]at hn
   rcases hn with rfl|rfl
   ·exact f1
   ·exact f2
  have g2: ∀n∈[Int.ofNat t.acts.length],aO n:=by
   intro n hn
   simp only[List.mem_cons,List.not_mem_nil,or_false]at hn
   subst hn
   exact uH f4
  have q1:=iD g1
  have q2:=iD g2
  have q3:=G8 hS f3 m5
  simp only[List.length_cons,List.length_nil]at q1 q2
  have p1:=wQ hb [bx t.bytes,bx t.room] (by simp) (by simpa only[hb]using g1)
  have p2:=Qk hb t.first f3 m5 hJ
  have p3:=wQ hb [bx (Int.ofNat t.acts.length)] (by simp) (by simpa only[hb]using g2)
  obtain⟨pre,hpre⟩: ∃pre,ay [t.bytes,t.room]++ng t.first++ay [Int.ofNat t.acts.length]=pre:=⟨_,rfl⟩
  have hpl:pre.length<=65700:=by rw[<-hpre,List.length_append,List.length_append];omega
  have hal:=Ny hS f5 m7
  have het:jX t=pre++gI t.acts:=by rw[<-hpre];rfl
  refine mD hb hQ eU [] [(4, .a (.c (.p (.str (bx (bs pre))))))] [] ?_ ?_
  ·cbv
   repeat' (first
    |apply And.intro
    |(refine call (args':=[.c (.sl 1 0 0 2)]) hQ p1 [.all 1] ?_;rintro _ _ ⟨rfl,rfl⟩;cbv)
    |(refine call (args':=[.c (.sl 2 0 0 2)]) hQ p1 [.all 2] ?_;rintro _ _ ⟨rfl,rfl⟩;cbv)
    |(refine call (f:=22) hQ p2 [] ?_;rintro _ _ ⟨rfl,rfl⟩;cbv)
    |(refine call (args':=[.c (.sl 1 0 0 1)]) hQ p3 [.all 1] ?_;rintro _ _ ⟨rfl,rfl⟩;cbv)
    |(refine call (args':=[.c (.sl 2 0 0 1)]) hQ p3 [.all 2] ?_;rintro _ _ ⟨rfl,rfl⟩;cbv)
    |(refine chk (by simp only[hb,jC,<-dS,cu,List.length_append,decide_eq_true_eq];omega) ?_;cbv)
    |exact⟨ent [] [.all 0] (he:=by cbv;(repeat' (first|trivial|rfl|apply And.intro|(simp only[hb,<-hpre,jC,<-dS,List.append_assoc];done))))⟩)
  ·cbv
   refine loop hb (fun k=>k<=t.acts.length) (fun k=>t.acts.length-k) (fun k=>[(29, .a (.c (.p (.int .i64 (bx (Int.ofNat k)))))),(4, .a (.c (.p (.str (bx (bs (pre++gI (t.acts.take k))))))))]) (fun _=>[]) 0 (by omega) (ent [] [.all 0] (he:=by cbv;(repeat' (first|trivial|rfl|apply And.intro|(simp[hb,gI];done))))) fun k hI=>?_
   cbv
   refine⟨fun hd=>?_,fun hd=>?_⟩<;>simp only[hb,pl]at hd
   ·obtain⟨a,hx⟩: ∃a,t.acts[k]?=some a:=⟨_,List.getElem?_eq_getElem hd⟩
    have hma:=List.mem_of_getElem? hx
    have hsn:=Jh hx
    have hle:=Jg t.acts (k+1)
    rw[hsn,List.length_append]at hle
    obtain⟨g1,g2,g3,g4,g5,g6,g7,g8⟩:=f5 a hma
    have hmay:=List.all_eq_true.1 m7 a hma
    have hu:=mQ hb (k:=k) (by omega)
    have w1:=oL (x9 g1 g2)
    have q64: ∀n∈[a.kind,a.n,a.m],aO n:=by
     intro n hn
     simp only[List.mem_cons,List.not_mem_nil,or_false]at hn
     rcases hn with rfl|rfl|rfl
     ·exact x9 g1 g2
     ·exact g3
     ·exact g4
    have x64: ∀n∈[a.part,a.key,a.val],aO n:=by
     intro n hn
     simp only[List.mem_cons,List.not_mem_nil,or_false]at hn
     rcases hn with rfl|rfl|rfl
     ·exact g5
     ·exact g6
     ·exact g7
    have hae:(iL a).length=(ay [a.kind,a.n,a.m]).length+(if a.kind=0 then ay [a.part,a.key,a.val]else if a.kind=5 then ng a.j else[]).length:=by unfold iL;rw[List.length_append]
    have w5:=oL g5
    cbv
    refine get (yL bx a) (gJ hb kZ rfl hx (qI hb a)) (chk (gK hb hd (by omega)) ?_)
    cbv
    refine call hQ (wQ hb [bx a.kind,bx a.n,bx a.m] (by simp) (by simpa only[hb]using q64)) [.all 2] ?_ (hs:=by cbv;simp[hb,w1])
    rintro _ _ ⟨rfl,rfl⟩
    cbv
    refine chk (by simp only[hb,jC,<-dS,cu,List.length_append,decide_eq_true_eq];omega) ?_
    cbv
    refine⟨fun h0=>?_,fun h0=>?_⟩<;>simp only[hb,pl]at h0
    ·rw[if_pos h0]at hae
     have hpa:iL a=ay [a.kind,a.n,a.m]++ay [a.part,a.key,a.val]:=by unfold iL;rw[if_pos h0]
     cbv
     refine call hQ (wQ hb [bx a.part,bx a.key,bx a.val] (by simp) (by simpa only[hb]using x64)) [.all 3] ?_
     rintro _ _ ⟨rfl,rfl⟩
     cbv
     refine chk (by simp only[hb,jC,<-dS,cu,List.length_append,decide_eq_true_eq];omega) ?_
     cbv
     exact⟨k+1,by omega,by omega,ent [] [.all 0] (he:=by cbv;(repeat' (first|trivial|rfl|apply And.intro|exact hu|(simp only[hb,hsn,hpa,jC,<-dS,List.append_assoc];done))))⟩
    ·rw[if_neg h0]at hae
     cbv
     refine⟨fun h5=>?_,fun h5=>?_⟩<;>simp only[hb,pl]at h5
     ·rw[if_pos h5]at hae
      have hpa:iL a=ay [a.kind,a.n,a.m]++ng a.j:=by unfold iL;rw[if_neg h0,if_pos h5]
      have ZT:=WY hmay h5
      cbv
      refine call hQ (Qk hb a.j g8 ZT (hS a.j g8 ZT)) [] ?_
      rintro _ _ ⟨rfl,rfl⟩
      cbv
      refine chk (by simp only[hb,jC,<-dS,cu,List.length_append,decide_eq_true_eq];omega) ?_
      cbv
      exact⟨k+1,by omega,by omega,ent [] [.all 0] (he:=by cbv;(repeat' (first|trivial|rfl|apply And.intro|exact hu|(simp only[hb,hsn,hpa,jC,<-dS,List.append_assoc];done))))⟩
     ·rw[if_neg h5]at hae
      have hpa:iL a=ay [a.kind,a.n,a.m]:=by unfold iL;rw[if_neg h0,if_neg h5,List.append_nil]
      cbv
      exact⟨k+1,by omega,by omega,ent [] [.all 0] (he:=by cbv;(repeat' (first|trivial|rfl|apply And.intro|exact hu|(simp only[hb,hsn,hpa,jC,<-dS,List.append_assoc];done))))⟩
   ·cbv
    have hk:k=t.acts.length:=by omega
    rw[hk,List.take_of_length_le (Nat.le_refl _)]
    exact hK _ _ (.aK [.c (.p (.str (bx (bs (jX t))))), .c (.p (.int .i64 0))]) [] (aS [] [] (he:=by
     cbv
     rw[het]
     (repeat' (first|trivial|rfl|apply And.intro)))) ⟨rfl,by rw[if_pos h1]⟩
end
end Sx
end
section
namespace Sx
open Go Go.RowKit
def dX (l:List UInt8):Int×Nat×Int:=_root_.Go.Proofs.YtakhobfamnjnoaaGreatDoor.tk l
theorem aeD (l:List UInt8):Yh (bs l)=dX l:=by unfold Yh dX;rw[VK]
theorem xI (l:List UInt8):(dX l).2.1<=l.length:=by
 by_cases h:(dX l).2.2=0
 ·exact(acC (l:=l) (n:=(dX l).1) (z:=(dX l).2.1) (by rw[<-h];rfl)).2.1
 ·have:dX l=(0,0,(dX l).2.2):=sO l 0 0 h
  rw[this];exact Nat.zero_le _
theorem KY (l:List UInt8):aO (dX l).1:=by
 by_cases h:(dX l).2.2=0
 ·exact(acC (l:=l) (n:=(dX l).1) (z:=(dX l).2.1) (by rw[<-h];rfl)).2.2.2
 ·have:dX l=(0,0,(dX l).2.2):=sO l 0 0 h
  rw[this];unfold aO;omega
theorem Qe (n:Int):ay [n]=gG (fE n):=by simp[ay]
theorem dQ (n:Int)(l:List Int):ay (n::l)=ay [n]++ay l:=by simp[ay]
theorem EK {n:Int}(h:aO n)(r:List UInt8):dX (ay [n]++r)=(n,(ay [n]).length,0):=by
 rw[Qe];exact Uu h r
def dA (l:List UInt8):List UInt8×Nat×Int:=
 if(dX l).2.2≠0 then([],0,(dX l).2.2)else if(dX l).1<0 then([],0,21)else if 65536<(dX l).1 then([],0,3)
 else if Int.ofNat l.length-Int.ofNat (dX l).2.1<(dX l).1 then([],0,20)
 else((l.drop (dX l).2.1).take (dX l).1.toNat,(dX l).2.1+(dX l).1.toNat,0)
theorem uD (l:List UInt8):(dA l).2.1<=l.length/\(dA l).1.length<=l.length:=by
 have:=xI l
 unfold dA
 split
 ·simp
 ·split
  ·simp
  ·split
   ·simp
   ·split
    ·simp
    ·rename_i h1 h2 h3 h4
     simp only[Int.ofNat_eq_natCast]at h4
     simp;omega
theorem Dw {t:List UInt8}(ht:t.length<=65536)(r:List UInt8):dA (fQ t++r)=(t,(fQ t).length,0):=by
 have h64:aO (Int.ofNat t.length):=uH (by omega)
 have e:dX (fQ t++r)=(Int.ofNat t.length,(ay [Int.ofNat t.length]).length,0):=by
  unfold fQ
  rw[List.append_assoc]
  exact EK h64 _
 unfold dA
 rw[e]
 simp only[ne_eq,not_true,if_false]
 rw[if_neg (by simp),if_neg (by simp;omega),if_neg (by unfold fQ;simp;omega)]
 unfold fQ
 simp[List.drop_append,List.take_append]
abbrev St:=List UInt8×Int
def lG (st:St)(why:Int):St:=if st.2=0 then(st.1,why)else st
def aB (st:St):Int×St:=if st.2=0 then((dX st.1).1,(st.1.drop (dX st.1).2.1,(dX st.1).2.2))else(0,st)
def bT (most:Int)(st:St):Int×St:=if(aB st).1<0\/most<(aB st).1 then(0,lG (aB st).2 3)else aB st
def bP (st:St):Int×St:=(IntKind.wrap .u8 (aB st).1,if(aB st).1<0\/255<(aB st).1 then lG (aB st).2 2 else(aB st).2)
def textS (st:St):List UInt8×St:=if st.2=0 then((dA st.1).1,(st.1.drop (dA st.1).2.1,(dA st.1).2.2))else([],st)
def bQ {α:Type}(f:St->α×St):Nat->St->List α×St
 |0,st=>([],st)
 |n+1,st=>((bQ f n st).1++[(f (bQ f n st).2).1],(f (bQ f n st).2).2)
def fP:Nat->St->Ex×St
 |0,st=>(.mk 0 0 [],lG st 3)
 |k+1,st=>(.mk (bP st).1 (aB (bP st).2).1 (bQ (fP k) (bT 3 (aB (bP st).2).2).1.toNat (bT 3 (aB (bP st).2).2).2).1,(bQ (fP k) (bT 3 (aB (bP st).2).2).1.toNat (bT 3 (aB (bP st).2).2).2).2)
def oW (st:St):JN×St:=
 let u:=textS st;let k:=bP u.2;let n:=aB k.2;let c:=bT 12 n.2;let i:=bQ aB c.1.toNat c.2;let x:=fP 17 i.2
 ({uid:=bs u.1,kind:=k.1,n:=n.1,ins:=i.1,x:=x.1},x.2)
def bV:Nat->St->List JN×St
 |0,st=>([],st)
 |n+1,st=>if(bV n st).2.2≠0 then bV n st else((bV n st).1++[(oW (bV n st).2).1],(oW (bV n st).2).2)
def L8 (j:Jb)(st:St):St:=if(dB j).2=0 then(if st.1=[]then st else lG st 2)else lG (if st.1=[]then st else lG st 2) 2
def Qm (j:Jb)(st:St):Jb×Int:=if st.2=0 then(j,0)else(zJ,st.2)
def tJ (l:List UInt8):Jb×Int:=
 let p:=aB (l,0);let c:=bT 12 p.2;let L:=bV c.1.toNat c.2;let j:Jb:=⟨p.1,L.1⟩
 Qm j (L8 j L.2)
theorem Fh (st:St)(w:Int):(lG st w).1=st.1:=by unfold lG;split<;>rfl
theorem dK (st:St):aO (aB st).1/\(aB st).2.1.length<=st.1.length:=by
 unfold aB
 split
 ·exact⟨KY _,by simp⟩
 ·exact⟨by unfold aO;simp,Nat.le_refl _⟩
theorem rV {m:Int}(hm:0<=m)(st:St):0<=(bT m st).1/\(bT m st).1<=m/\(bT m st).2.1.length<=st.1.length:=by
 have:=dK st
 unfold bT
 split
 ·exact⟨Int.le_refl _,hm,by rw[Fh];exact this.2⟩
 ·exact⟨by omega,by omega,this.2⟩
theorem wJ (st:St):0<=(bP st).1/\(bP st).1<=255/\(bP st).2.1.length<=st.1.length:=by
 have:=dK st
 have h:(bP st).1=(aB st).1%256:=IntKind.wrap_u8 _
 refine⟨by rw[h];omega,by rw[h];omega,?_⟩
 unfold bP
 dsimp only
 split
 ·rw[Fh];exact this.2
 ·exact this.2
theorem yV (st:St):(textS st).1.length<=st.1.length/\(textS st).2.1.length<=st.1.length:=by
 unfold textS
 split
 ·exact⟨(uD _).2,by simp⟩
 ·simp
theorem kK {α:Type}{f:St->α×St}(hf: ∀st,(f st).2.1.length<=st.1.length): ∀(n:Nat)(st:St),(bQ f n st).1.length=n/\(bQ f n st).2.1.length<=st.1.length
 |0,_=>⟨rfl,Nat.le_refl _⟩
 |n+1,st=>by
  have ih:=kK hf n st
  have:=hf (bQ f n st).2
  exact⟨by simp[bQ,ih.1],by simp only[bQ];omega⟩
theorem vS {α:Type}{f:St->α×St}{p:α->Prop}(hf: ∀st,p (f st).1): ∀(n:Nat)(st:St),∀x∈(bQ f n st).1,p x
 |0,_,_,h=>by simp[bQ]at h
 |n+1,st,x,h=>by
  simp only[bQ,List.mem_append,List.mem_singleton]at h
  rcases h with h|rfl
  ·exact vS hf n st x h
  ·exact hf _
theorem CB: ∀{l:List Ex},(∀x∈l,iG x)->vU l
 |[],_=>trivial
 |x::l,h=>⟨h x (.head _),CB fun y hy=>h y (.tail _ hy)⟩
theorem vH: ∀(k:Nat)(st:St),iG (fP k st).1/\(fP k st).2.1.length<=st.1.length
 |0,st=>⟨⟨by simp,by simp,by unfold aO;simp,by simp,trivial⟩,by simp[fP,Fh]⟩
 |k+1,st=>by
  have h1:=wJ st
  have h2:=dK (bP st).2
  have h3:=rV (m:=3) (by omega) (aB (bP st).2).2
  have h4:=kK (fun st=>(vH k st).2) (bT 3 (aB (bP st).2).2).1.toNat (bT 3 (aB (bP st).2).2).2
  have h5:=vS (p:=iG) (fun st=>(vH k st).1) (bT 3 (aB (bP st).2).2).1.toNat (bT 3 (aB (bP st).2).2).2
  exact⟨⟨h1.1,h1.2.1,h2.1,by rw[h4.1];omega,CB h5⟩,by simp only[fP];omega⟩
theorem Zn (st:St)(hl:st.1.length<=maxLen):lS (oW st).1/\(oW st).2.1.length<=st.1.length:=by
 have h1:=yV st
 have h2:=wJ (textS st).2
 have h3:=dK (bP (textS st).2).2
 have h4:=rV (m:=12) (by omega) (aB (bP (textS st).2).2).2
 have h5:=kK (fun st=>(dK st).2) (bT 12 (aB (bP (textS st).2).2).2).1.toNat (bT 12 (aB (bP (textS st).2).2).2).2
 have h6:=vS (p:=aO) (fun st=>(dK st).1) (bT 12 (aB (bP (textS st).2).2).2).1.toNat (bT 12 (aB (bP (textS st).2).2).2).2
 have h7:=vH 17 (bQ aB (bT 12 (aB (bP (textS st).2).2).2).1.toNat (bT 12 (aB (bP (textS st).2).2).2).2).2
 refine⟨⟨by show(bQ aB _ _).1.length<_;rw[h5.1];omega,h7.1,h6,h2.1,h2.2.1,h3.1,by show(bs _).size<=_;rw[cu];omega⟩,?_⟩
 show(fP 17 _).2.1.length<=_
 omega
theorem tH (st:St)(hl:st.1.length<=maxLen): ∀n,(∀d∈(bV n st).1,lS d)/\(bV n st).1.length<=n/\(bV n st).2.1.length<=st.1.length
 |0=>⟨by simp[bV],Nat.le_refl _,Nat.le_refl _⟩
 |n+1=>by
  obtain⟨h1,h2,h3⟩:=tH st hl n
  have h4:=Zn (bV n st).2 (by omega)
  simp only[bV]
  split
  ·exact⟨h1,by omega,h3⟩
  ·refine⟨fun d hd=>?_,by simp;omega,by dsimp only;omega⟩
   simp only[List.mem_append,List.mem_singleton]at hd
   rcases hd with hd|rfl
   ·exact h1 d hd
   ·exact h4.1
theorem zQ:gX zJ:=⟨by simp,by simp,by unfold aO;simp⟩
theorem abG (l:List UInt8)(hl:l.length<=maxLen):gX (tJ l).1:=by
 have h1:=dK (l,0)
 have h2:=rV (m:=12) (by omega) (aB (l,0)).2
 have h3:=tH (bT 12 (aB (l,0)).2).2 (Nat.le_trans h2.2.2 (Nat.le_trans h1.2 hl)) (bT 12 (aB (l,0)).2).1.toNat
 have hj:gX ⟨(aB (l,0)).1,(bV (bT 12 (aB (l,0)).2).1.toNat (bT 12 (aB (l,0)).2).2).1⟩:=⟨by have:=h3.2.1;show(bV _ _).1.length<_;omega,h3.1,h1.1⟩
 unfold tJ Qm
 dsimp only
 split
 ·exact hj
 ·exact zQ
end Sx
end
end Go.Proofs.YtakhobfamnjnoaaGreatDoor
