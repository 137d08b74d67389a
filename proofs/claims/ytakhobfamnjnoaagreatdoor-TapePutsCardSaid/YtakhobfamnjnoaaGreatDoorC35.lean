/- Symbolic runs: the document's jobs and tapes as bytes. -/
import Derived.Test.YtakhobfamnjnoaaGreatDoorC34
set_option linter.unusedVariables false
set_option linter.unusedSimpArgs false
namespace Go.Proofs.YtakhobfamnjnoaaGreatDoor
section
namespace Sx
open Go Go.RowKit _root_.Go.Proofs.Tryz
set_option maxRecDepth 100000
set_option maxHeartbeats 4000000
section
variable {bx:{α:Type}->α->α} (hb: ∀{α:Type}(x:α),bx x=x)
include hb
theorem aeR (j:Jb)(hf:gX j)(hj:zh j)(hm:(dB j).2=0)(hs:(jB j).length<=65536)(h12: ∀d∈j.nodes,d.ins.length<=40):Ct prog 55 [jM bx j] [] fun r h=>r= .aK [.c (.p (.str (bx (bs (jB j))))), .c (.p (.int .i64 0))]/\h=[]:=ct hb func55 fun Q hQ K hK=>by
 have e1:=oL hf.2.2
 have e2:=oL (uH hf.1)
 have h64: ∀n∈[j.par,Int.ofNat j.nodes.length],aO n:=by
  intro n hn
  simp only[List.mem_cons,List.not_mem_nil,or_false]at hn
  rcases hn with rfl|rfl
  ·exact hf.2.2
  ·exact uH hf.1
 cbv
 refine call hQ (IZ hb j hf hj) [] ?_
 rintro _ _ ⟨rfl,rfl⟩
 cbv
 refine⟨fun h1=>?_,fun h1=>?_⟩<;>simp only[hb,pl]at h1
 ·exact absurd hm h1
 ·cbv
  refine call hQ (xW hb [bx j.par,bx (Int.ofNat j.nodes.length)] (by simp) (by simpa only[hb]using h64)) [.all 1] ?_ (hs:=by cbv;simp[hb,e1])
  rintro _ _ ⟨rfl,rfl⟩
  cbv
  refine loop hb (fun k=>k<=j.nodes.length) (fun k=>j.nodes.length-k) (fun k=>[(7, .a (.c (.p (.int .i64 (bx (Int.ofNat k)))))),(6, .a (.c (.p (.str (bx (bs (ay [j.par,Int.ofNat j.nodes.length]++dH (j.nodes.take k))))))))]) (fun _=>[]) 0 (by omega) (ent [] [.all 0, .all 1] (he:=by cbv;(repeat' (first|trivial|rfl|apply And.intro|(simp[hb,dH,bs];done))))) fun k hI=>?_
  cbv
  refine⟨fun hd=>?_,fun hd=>?_⟩<;>simp only[hb,pl]at hd
  ·obtain⟨d,hx⟩: ∃d,j.nodes[k]?=some d:=⟨_,List.getElem?_eq_getElem hd⟩
   have hsn:=Jf hx
   have hle:=Je j.nodes (k+1)
   have hma:=List.mem_of_getElem? hx
   obtain⟨f1,f2,f3,f4,f5,f6,f7⟩:=hf.2.1 d hma
   have hi12:=h12 d hma
   have hlo:=hf.1
   have hu:=mQ hb (k:=k) (by omega)
   have w1:=oL (x9 f4 f5)
   have w2:=oL f6
   have g64: ∀n∈[d.kind,d.n,Int.ofNat d.ins.length],aO n:=by
    intro n hn
    simp only[List.mem_cons,List.not_mem_nil,or_false]at hn
    rcases hn with rfl|rfl|rfl
    ·exact x9 f4 f5
    ·exact f6
    ·exact uH f1
   have hT:(fQ d.uid.data.toList).length=(ay [Int.ofNat d.uid.data.toList.length]).length+d.uid.data.toList.length:=by unfold fQ;rw[List.length_append]
   have hls:(ay [j.par,Int.ofNat j.nodes.length]).length+(dH (j.nodes.take k)).length+((fQ d.uid.data.toList).length+(ay [d.kind,d.n,Int.ofNat d.ins.length]).length+(ay d.ins).length+(dV d.x).length)<=65536:=by
    unfold jB at hs
    rw[List.length_append]at hs
    rw[hsn,List.length_append]at hle
    have:(oO d).length=(fQ d.uid.data.toList).length+(ay [d.kind,d.n,Int.ofNat d.ins.length]).length+(ay d.ins).length+(dV d.x).length:=by unfold oO;simp only[List.length_append]
    omega
   have hall: ∀n∈[d.kind,d.n,Int.ofNat d.ins.length]++d.ins,aO n:=fun n hn=>by
    rcases List.mem_append.1 hn with h|h
    ·exact g64 n h
    ·exact f3 n h
   have hput:ay ([d.kind,d.n,Int.ofNat d.ins.length]++d.ins)=ay [d.kind,d.n,Int.ofNat d.ins.length]++ay d.ins:=by unfold ay;rw[List.flatMap_append]
   cbv
   refine get (wU bx d) (gJ hb kJ rfl hx (rJ hb d)) (chk (gK hb hd (by omega)) ?_)
   cbv
   refine call hQ (IX hb d.uid.data.toList (by omega)) [] ?_ (ha:=by cbv;(repeat' (first|trivial|rfl|apply And.intro|(simp[hb,sD];done))))
   rintro _ _ ⟨rfl,rfl⟩
   cbv
   refine loop hb (fun i=>i<=d.ins.length) (fun i=>d.ins.length-i) (fun i=>[(12, .a (.c (.p (.int .i64 (bx (Int.ofNat i)))))),(11, .a (.c (.sl 3 0 0 (bx ([d.kind,d.n,Int.ofNat d.ins.length]++d.ins.take i).length)))),(53, .u)]) (fun i=>[(3, .one (.bH (bx (iO ([d.kind,d.n,Int.ofNat d.ins.length]++d.ins.take i))) 2))]) 0 (by omega) (ent [] [.all 0, .all 1, .all 2, .all 3] (hs:=by cbv;(repeat' (first|trivial|rfl|apply And.intro|(simp[hb,w1,w2,iO];done)))) (he:=by cbv;(repeat' (first|trivial|rfl|apply And.intro|(simp[hb];done))))) fun i hI2=>?_
   cbv
   refine⟨fun hd2=>?_,fun hd2=>?_⟩<;>simp only[hb,pl]at hd2
   ·obtain⟨x,hi⟩: ∃x,d.ins[i]?=some x:=⟨_,List.getElem?_eq_getElem hd2⟩
    have hui:=mQ hb (k:=i) (by omega)
    have w3:=oL (f3 x (List.mem_of_getElem? hi))
    have hts:d.ins.take (i+1)=d.ins.take i++[x]:=by rw[List.take_add_one,hi];rfl
    cbv
    refine get [.int .i64 (bx x)] (gJ hb (f:=fun x=>[.int .i64 x]) (fun _=>rfl) rfl hi (by rw[hb])) (chk (gK hb hd2 (by omega)) ?_)
    cbv
    refine chk (by simp only[hb,mO,pW,uT];simp;omega) ?_
    cbv
    exact⟨i+1,by omega,by omega,ent [] [.all 0, .all 1, .all 2, .all 5] (hs:=by cbv;(repeat' (first|trivial|rfl|apply And.intro|(simp only[hb,hts,<-List.append_assoc,Ec,nC,pR];done)|(simp[hb];done)))) (he:=by cbv;(repeat' (first|trivial|rfl|apply And.intro|exact hui|(simp only[hb];done)|(simp[hb];omega))))⟩
   ·have hi2:i=d.ins.length:=by omega
    rw[hi2,List.take_of_length_le (Nat.le_refl _)]
    obtain⟨L,hL⟩: ∃L,L=[d.kind,d.n,Int.ofNat d.ins.length]++d.ins:=⟨_,rfl⟩
    have hLl:L.length<=1000:=by rw[hL,List.length_append];simp;omega
    rw[<-hL]at hall hput⊢
    have p1:=adC hb L hLl hall
    have p2:=YG hb d.x f2 (by omega)
    have hl1:(ay L).length=(ay [d.kind,d.n,Int.ofNat d.ins.length]).length+(ay d.ins).length:=by rw[hput,List.length_append]
    obtain⟨pre,hpre⟩: ∃pre,pre=ay [j.par,Int.ofNat j.nodes.length]++dH (j.nodes.take k):=⟨_,rfl⟩
    have hpl:pre.length=(ay [j.par,Int.ofNat j.nodes.length]).length+(dH (j.nodes.take k)).length:=by rw[hpre,List.length_append]
    have hN:ay [j.par,Int.ofNat j.nodes.length]++dH (j.nodes.take (k+1))=pre++fQ d.uid.data.toList++ay L++dV d.x:=by rw[hsn,hput,hpre];simp only[oO,List.append_assoc]
    rw[<-hpre]
    cbv
    refine mD hb hQ eU [] [(6, .a (.c (.p (.str (bx (bs (pre++fQ d.uid.data.toList++ay L++dV d.x)))))))] [] ?_ ?_
    ·cbv
     repeat' (first
      |apply And.intro
      |(refine call (f:=23) hQ p1 [.all 3] ?_;rintro _ _ ⟨rfl,rfl⟩;cbv)
      |(refine call (f:=96) hQ p2 [] ?_;rintro _ _ ⟨rfl,rfl⟩;cbv)
      |(refine chk (by simp only[hb,<-dS,cu,List.length_append,decide_eq_true_eq];omega) ?_;cbv)
      |exact⟨ent [] [.all 0, .all 1, .all 2, .all 3] (he:=by cbv;(repeat' (first|trivial|rfl|apply And.intro|(simp only[hb,<-dS,List.append_assoc];done))))⟩)
    ·cbv
     exact⟨k+1,by omega,by omega,ent [] [.all 0, .all 1] (he:=by cbv;(repeat' (first|trivial|rfl|apply And.intro|exact hu|(simp only[hb,hN];done))))⟩
  ·cbv
   have hk:k=j.nodes.length:=by omega
   exact hK _ _ (.aK [.c (.p (.str (bx (bs (jB j))))), .c (.p (.int .i64 0))]) [] (aS [] [] (he:=by
    cbv
    rw[hk,List.take_of_length_le (Nat.le_refl _)]
    (repeat' (first|trivial|rfl|apply And.intro)))) ⟨rfl,rfl⟩
theorem YQ (j:Jb)(hf:gX j)(hj:zh j)(hm:(dB j).2=0)(hs:(jB j).length<=65536)(h12: ∀d∈j.nodes,d.ins.length<=40):Ct prog 24 [jM bx j] [] fun r h=>r= .a (.c (.p (.str (bx (bs (ng j))))))/\h=[]:=ct hb func24 fun Q hQ K hK=>by
 cbv
 refine call hQ (aeR hb j hf hj hm hs h12) [] ?_
 rintro _ _ ⟨rfl,rfl⟩
 cbv
 refine call hQ (IX hb (jB j) hs) [] ?_
 rintro _ _ ⟨rfl,rfl⟩
 cbv
 exact hK _ _ (.a (.c (.p (.str (bx (bs (ng j))))))) [] (aS [] [] (he:=by cbv;(repeat' (first|trivial|rfl|apply And.intro)))) ⟨rfl,rfl⟩
end
end Sx
end
section
namespace Sx
open Go Go.RowKit _root_.Go.Proofs.Tryz
set_option maxRecDepth 100000
set_option maxHeartbeats 4000000
def OV (j:Jb):Prop:= ∀d∈j.nodes,d.ins.length<=40
def PG (t:Tp):Prop:=OV t.first/\ ∀a∈t.acts,OV a.j
section
variable {bx:{α:Type}->α->α} (hb: ∀{α:Type}(x:α),bx x=x)
include hb
theorem acE (t:Tp)(hS:nM)(hf:fV t)(hs:IG t)(hi:PG t):Ct prog 8 [gV bx t] [] fun r h=>h=[]/\if ig t=true then r= .aK [.c (.p (.str (bx (bs (jX t))))), .c (.p (.int .i64 0))]else r= .aK [.c (.p (.str ByteArray.empty)), .c (.p (.int .i64 2))]:=ct hb func8 fun Q hQ K hK=>by
 have k10:=YL hb t hf hs
 obtain⟨f1,f2,f3,f4,f5⟩:=hf
 cbv
 refine call hQ k10 [] ?_
 rintro _ _ ⟨rfl,rfl⟩
 cbv
 refine⟨fun h1=>?_,fun h1=>?_⟩<;>simp only[hb,pl]at h1
 ·cbv
  exact hK _ _ (.aK [.c (.p (.str ByteArray.empty)), .c (.p (.int .i64 2))]) [] (aS [] []) ⟨rfl,by rw[if_neg (by simp[h1])]⟩
 ·have hm:=h1
  unfold ig at hm
  simp only[Bool.and_eq_true,decide_eq_true_eq]at hm
  obtain⟨⟨⟨⟨⟨⟨m1,m2⟩,m3⟩,m4⟩,m5⟩,m6⟩,m7⟩:=hm
  have hJ:=hS t.first f3 m5
  cbv
  have g1: ∀n∈[t.bytes,t.room],aO n:=by
   intro n hn
   simp only[List.mem_cons,List.not_mem_nil,or_false]at hn
   rcases hn with rfl|rfl
   ·exact f1
   ·exact f2
  have g2: ∀n∈[Int.ofNat t.acts.length],aO n:=by
   intro n hn
   simp only[List.mem_cons,List.not_mem_nil,or_false]at hn
   subst hn
   exact uH f4
  have q1:=iD g1
  have q2:=iD g2
  have q3:=G8 hS f3 m5
  simp only[List.length_cons,List.length_nil]at q1 q2
  have p1:=xW hb [bx t.bytes,bx t.room] (by simp) (by simpa only[hb]using g1)
  have p2:=YQ hb t.first f3 hs.1 m5 hJ hi.1
  have p3:=xW hb [bx (Int.ofNat t.acts.length)] (by simp) (by simpa only[hb]using g2)
  obtain⟨pre,hpre⟩: ∃pre,ay [t.bytes,t.room]++ng t.first++ay [Int.ofNat t.acts.length]=pre:=⟨_,rfl⟩
  have hpl:pre.length<=65700:=by rw[<-hpre,List.length_append,List.length_append];omega
  have hal:=Ny hS f5 m7
  have het:jX t=pre++gI t.acts:=by rw[<-hpre];rfl
  refine mD hb hQ eU [] [(4, .a (.c (.p (.str (bx (bs pre))))))] [] ?_ ?_
  ·cbv
   repeat' (first
    |apply And.intro
    |(refine call (args':=[.c (.sl 1 0 0 2)]) hQ p1 [.all 1] ?_;rintro _ _ ⟨rfl,rfl⟩;cbv)
    |(refine call (args':=[.c (.sl 2 0 0 2)]) hQ p1 [.all 2] ?_;rintro _ _ ⟨rfl,rfl⟩;cbv)
    |(refine call (f:=24) hQ p2 [] ?_;rintro _ _ ⟨rfl,rfl⟩;cbv)
    |(refine call (args':=[.c (.sl 1 0 0 1)]) hQ p3 [.all 1] ?_;rintro _ _ ⟨rfl,rfl⟩;cbv)
    |(refine call (args':=[.c (.sl 2 0 0 1)]) hQ p3 [.all 2] ?_;rintro _ _ ⟨rfl,rfl⟩;cbv)
    |(refine chk (by simp only[hb,<-dS,cu,List.length_append,decide_eq_true_eq];omega) ?_;cbv)
    |exact⟨ent [] [.all 0] (he:=by cbv;(repeat' (first|trivial|rfl|apply And.intro|(simp only[hb,<-hpre,<-dS,List.append_assoc];done))))⟩)
  ·cbv
   refine loop hb (fun k=>k<=t.acts.length) (fun k=>t.acts.length-k) (fun k=>[(5, .a (.c (.p (.int .i64 (bx (Int.ofNat k)))))),(4, .a (.c (.p (.str (bx (bs (pre++gI (t.acts.take k))))))))]) (fun _=>[]) 0 (by omega) (ent [] [.all 0] (he:=by cbv;(repeat' (first|trivial|rfl|apply And.intro|(simp[hb,gI];done))))) fun k hI=>?_
   cbv
   refine⟨fun hd=>?_,fun hd=>?_⟩<;>simp only[hb,pl]at hd
   ·obtain⟨a,hx⟩: ∃a,t.acts[k]?=some a:=⟨_,List.getElem?_eq_getElem hd⟩
    have hma:=List.mem_of_getElem? hx
    have hsn:=Jh hx
    have hle:=Jg t.acts (k+1)
    rw[hsn,List.length_append]at hle
    obtain⟨g1,g2,g3,g4,g5,g6,g7,g8⟩:=f5 a hma
    have hmay:=List.all_eq_true.1 m7 a hma
    have hu:=mQ hb (k:=k) (by omega)
    have w1:=oL (x9 g1 g2)
    have q64: ∀n∈[a.kind,a.n,a.m],aO n:=by
     intro n hn
     simp only[List.mem_cons,List.not_mem_nil,or_false]at hn
     rcases hn with rfl|rfl|rfl
     ·exact x9 g1 g2
     ·exact g3
     ·exact g4
    have x64: ∀n∈[a.part,a.key,a.val],aO n:=by
     intro n hn
     simp only[List.mem_cons,List.not_mem_nil,or_false]at hn
     rcases hn with rfl|rfl|rfl
     ·exact g5
     ·exact g6
     ·exact g7
    have hae:(iL a).length=(ay [a.kind,a.n,a.m]).length+(if a.kind=0 then ay [a.part,a.key,a.val]else if a.kind=5 then ng a.j else[]).length:=by unfold iL;rw[List.length_append]
    have w5:=oL g5
    cbv
    refine get (yL bx a) (gJ hb kZ rfl hx (qI hb a)) (chk (gK hb hd (by omega)) ?_)
    cbv
    refine call hQ (xW hb [bx a.kind,bx a.n,bx a.m] (by simp) (by simpa only[hb]using q64)) [.all 2] ?_ (hs:=by cbv;simp[hb,w1])
    rintro _ _ ⟨rfl,rfl⟩
    cbv
    refine chk (by simp only[hb,<-dS,cu,List.length_append,decide_eq_true_eq];omega) ?_
    cbv
    refine⟨fun h0=>?_,fun h0=>?_⟩<;>simp only[hb,pl]at h0
    ·rw[if_pos h0]at hae
     have hpa:iL a=ay [a.kind,a.n,a.m]++ay [a.part,a.key,a.val]:=by unfold iL;rw[if_pos h0]
     cbv
     refine call hQ (xW hb [bx a.part,bx a.key,bx a.val] (by simp) (by simpa only[hb]using x64)) [.all 3] ?_
     rintro _ _ ⟨rfl,rfl⟩
     cbv
     refine chk (by simp only[hb,<-dS,cu,List.length_append,decide_eq_true_eq];omega) ?_
     cbv
     refine⟨fun h5=>?_,fun h5=>?_⟩<;>simp only[hb,pl]at h5
     ·exact absurd h5 (by omega)
     cbv
     exact⟨k+1,by omega,by omega,ent [] [.all 0] (he:=by cbv;(repeat' (first|trivial|rfl|apply And.intro|exact hu|(simp only[hb,hsn,hpa,<-dS,List.append_assoc];done))))⟩
    ·rw[if_neg h0]at hae
     cbv
     refine⟨fun h5=>?_,fun h5=>?_⟩<;>simp only[hb,pl]at h5
     ·rw[if_pos h5]at hae
      have hpa:iL a=ay [a.kind,a.n,a.m]++ng a.j:=by unfold iL;rw[if_neg h0,if_pos h5]
      have ZT:=WY hmay h5
      cbv
      refine call hQ (YQ hb a.j g8 (hs.2 a hma) ZT (hS a.j g8 ZT) (hi.2 a hma)) [] ?_
      rintro _ _ ⟨rfl,rfl⟩
      cbv
      refine chk (by simp only[hb,<-dS,cu,List.length_append,decide_eq_true_eq];omega) ?_
      cbv
      exact⟨k+1,by omega,by omega,ent [] [.all 0] (he:=by cbv;(repeat' (first|trivial|rfl|apply And.intro|exact hu|(simp only[hb,hsn,hpa,<-dS,List.append_assoc];done))))⟩
     ·rw[if_neg h5]at hae
      have hpa:iL a=ay [a.kind,a.n,a.m]:=by unfold iL;rw[if_neg h0,if_neg h5,List.append_nil]
      cbv
      exact⟨k+1,by omega,by omega,ent [] [.all 0] (he:=by cbv;(repeat' (first|trivial|rfl|apply And.intro|exact hu|(simp only[hb,hsn,hpa,<-dS,List.append_assoc];done))))⟩
   ·cbv
    have hk:k=t.acts.length:=by omega
    rw[hk,List.take_of_length_le (Nat.le_refl _)]
    exact hK _ _ (.aK [.c (.p (.str (bx (bs (jX t))))), .c (.p (.int .i64 0))]) [] (aS [] [] (he:=by
     cbv
     rw[het]
     (repeat' (first|trivial|rfl|apply And.intro)))) ⟨rfl,by rw[if_pos h1]⟩
end
end Sx
end
section
namespace Sx
open Go Go.RowKit
def aC (most why:Int)(st:St):Int×St:=if(aB st).1<0\/most<(aB st).1 then(0,lG (aB st).2 why)else aB st
def dY:Nat->St->Ex×St
 |0,st=>if st.2≠0 then(.mk 0 0 [],st)else(.mk 0 0 [],(st.1,3))
 |k+1,st=>if st.2≠0 then(.mk 0 0 [],st)else
  (.mk (aC 255 2 st).1 (aB (aC 255 2 st).2).1 (bQ (dY k) (aC 3 3 (aB (aC 255 2 st).2).2).1.toNat (aC 3 3 (aB (aC 255 2 st).2).2).2).1,(bQ (dY k) (aC 3 3 (aB (aC 255 2 st).2).2).1.toNat (aC 3 3 (aB (aC 255 2 st).2).2).2).2)
def lZ (st:St):JN×St:=
 let u:=textS st;let k:=aC 255 2 u.2;let n:=aB k.2;let c:=aC 12 3 n.2;let i:=bQ aB c.1.toNat c.2;let x:=dY 17 i.2
 ({uid:=bs u.1,kind:=k.1,n:=n.1,ins:=i.1,x:=x.1},x.2)
def bM:Nat->St->List JN×St
 |0,st=>([],st)
 |n+1,st=>if(bM n st).2.2≠0 then bM n st else((bM n st).1++[(lZ (bM n st).2).1],(lZ (bM n st).2).2)
def EP (j:Jb)(st:St):Jb×Int:=if st.2≠0 then(zJ,st.2)else if st.1≠[]\/(dB j).2≠0 then(zJ,2)else(j,0)
def oV (l:List UInt8):Jb×Int:=
 let p:=aB (l,0);let c:=aC 12 3 p.2;let L:=bM c.1.toNat c.2
 EP ⟨p.1,L.1⟩ L.2
theorem iY {m:Int}(hm:0<=m)(y:Int)(st:St):0<=(aC m y st).1/\(aC m y st).1<=m/\(aC m y st).2.1.length<=st.1.length:=by
 have:=dK st
 unfold aC
 split
 ·exact⟨Int.le_refl _,hm,by rw[Fh];exact this.2⟩
 ·exact⟨by omega,by omega,this.2⟩
theorem X8:iG (.mk 0 0 []):=⟨by simp,by simp,by unfold aO;simp,by simp,trivial⟩
theorem wK: ∀(k:Nat)(st:St),iG (dY k st).1/\(dY k st).2.1.length<=st.1.length
 |0,st=>by unfold dY;split<;>exact⟨X8,Nat.le_refl _⟩
 |k+1,st=>by
  unfold dY
  split
  ·exact⟨X8,Nat.le_refl _⟩
  have h1:=iY (m:=255) (by omega) 2 st
  have h2:=dK (aC 255 2 st).2
  have h3:=iY (m:=3) (by omega) 3 (aB (aC 255 2 st).2).2
  have h4:=kK (fun st=>(wK k st).2) (aC 3 3 (aB (aC 255 2 st).2).2).1.toNat (aC 3 3 (aB (aC 255 2 st).2).2).2
  have h5:=vS (p:=iG) (fun st=>(wK k st).1) (aC 3 3 (aB (aC 255 2 st).2).2).1.toNat (aC 3 3 (aB (aC 255 2 st).2).2).2
  exact⟨⟨h1.1,h1.2.1,h2.1,by rw[h4.1];omega,CB h5⟩,by dsimp only;omega⟩
def QA (d:JN):Prop:=lS d/\d.uid.size<=65536/\d.ins.length<=12
theorem Yk (l:List UInt8):(dA l).1.length<=65536:=by
 unfold dA
 split
 ·simp
 ·split
  ·simp
  ·split
   ·simp
   ·split
    ·simp
    ·simp;omega
theorem Yj (st:St):(textS st).1.length<=65536:=by
 unfold textS
 split
 ·exact Yk _
 ·simp
theorem WG (st:St):QA (lZ st).1/\(lZ st).2.1.length<=st.1.length:=by
 have h0:=Yj st
 have h1:=yV st
 have h2:=iY (m:=255) (by omega) 2 (textS st).2
 have h3:=dK (aC 255 2 (textS st).2).2
 have h4:=iY (m:=12) (by omega) 3 (aB (aC 255 2 (textS st).2).2).2
 have h5:=kK (fun st=>(dK st).2) (aC 12 3 (aB (aC 255 2 (textS st).2).2).2).1.toNat (aC 12 3 (aB (aC 255 2 (textS st).2).2).2).2
 have h6:=vS (p:=aO) (fun st=>(dK st).1) (aC 12 3 (aB (aC 255 2 (textS st).2).2).2).1.toNat (aC 12 3 (aB (aC 255 2 (textS st).2).2).2).2
 have h7:=wK 17 (bQ aB (aC 12 3 (aB (aC 255 2 (textS st).2).2).2).1.toNat (aC 12 3 (aB (aC 255 2 (textS st).2).2).2).2).2
 refine⟨⟨⟨by show(bQ aB _ _).1.length<_;rw[h5.1];omega,h7.1,h6,h2.1,h2.2.1,h3.1,by show(bs _).size<=_;rw[cu];unfold maxLen;omega⟩,by show(bs _).size<=_;rw[cu];exact h0,by show(bQ aB _ _).1.length<=_;rw[h5.1];omega⟩,?_⟩
 show(dY 17 _).2.1.length<=_
 omega
theorem qV (st:St): ∀n,(∀d∈(bM n st).1,QA d)/\(bM n st).1.length<=n/\(bM n st).2.1.length<=st.1.length
 |0=>⟨by simp[bM],Nat.le_refl _,Nat.le_refl _⟩
 |n+1=>by
  obtain⟨h1,h2,h3⟩:=qV st n
  have h4:=WG (bM n st).2
  simp only[bM]
  split
  ·exact⟨h1,by omega,h3⟩
  ·refine⟨fun d hd=>?_,by simp;omega,by dsimp only;omega⟩
   simp only[List.mem_append,List.mem_singleton]at hd
   rcases hd with hd|rfl
   ·exact h1 d hd
   ·exact h4.1
theorem DK {st:St}{n:Nat}(h:(bM n st).2.2≠0): ∀k,bM (n+k) st=bM n st
 |0=>rfl
 |k+1=>by
  have ih:=DK h k
  have:bM (n+k+1) st=if(bM (n+k) st).2.2≠0 then bM (n+k) st else((bM (n+k) st).1++[(lZ (bM (n+k) st).2).1],(lZ (bM (n+k) st).2).2):=rfl
  rw[<-Nat.add_assoc,this,ih,if_pos h]
def nD (j:Jb):Prop:=j.nodes.length<=12/\(∀d∈j.nodes,QA d)/\aO j.par
theorem nD.fit {j:Jb}(h:nD j):gX j:=⟨by have:=h.1;omega,fun d hd=>(h.2.1 d hd).1,h.2.2⟩
theorem Il:nD zJ:=⟨by simp,by simp,by unfold aO;simp⟩
theorem YO (l:List UInt8):nD (oV l).1:=by
 have h1:=dK (l,0)
 have h2:=iY (m:=12) (by omega) 3 (aB (l,0)).2
 have h3:=qV (aC 12 3 (aB (l,0)).2).2 (aC 12 3 (aB (l,0)).2).1.toNat
 unfold oV EP
 dsimp only
 split
 ·exact Il
 ·split
  ·exact Il
  ·exact⟨by have:=h3.2.1;dsimp only;omega,h3.1,h1.1⟩
theorem qR {m n y:Int}(h:0<=n)(h2:n<=m)(h3:m<=65536)(r:List UInt8):aC m y (ay [n]++r,0)=(n,(r,0)):=by
 unfold aC
 rw[kQ (yc h (by omega))]
 dsimp only
 rw[if_neg (by omega)]
theorem IW: ∀(k:Nat)(x:Ex),ru k x-> ∀r,dY k (dV x++r,0)=(x,(r,0))
 |0,_,h,_=>h.elim
 |k+1,x,⟨h1,h2,h3,h4,h5⟩,r=>by
  have e:dV x++r=ay [x.op]++(ay [x.n]++(ay [Int.ofNat x.args.length]++(x.args.flatMap dV++r))):=by
   rw[xu,dQ x.op,dQ x.n,BF]
   simp only[List.append_assoc]
  have hi:=vP (f:=dY k) (enc:=dV) (l:=x.args) (fun y hy r=>IW k y (h5 y hy) r) r x.args.length (Nat.le_refl _)
  unfold dY
  rw[if_neg (by simp),e,qR h1 h2 (by omega)]
  dsimp only
  rw[kQ h3]
  dsimp only
  rw[qR (by simp) (by simp;omega) (by omega)]
  dsimp only
  have e2:(Int.ofNat x.args.length).toNat=x.args.length:=rfl
  rw[e2,hi]
  obtain⟨o,n,a⟩:=x
  simp[Ex.op,Ex.n,Ex.args]
theorem WE {d:JN}(h:yh d)(r:List UInt8):lZ (oO d++r,0)=(d,(r,0)):=by
 obtain⟨h1,h2,h3,h4,h5,h6,h7⟩:=h
 have e:oO d++r=fQ d.uid.data.toList++(ay [d.kind]++(ay [d.n]++(ay [Int.ofNat d.ins.length]++((d.ins.flatMap fun v=>ay [v])++(dV d.x++r))))):=by
  unfold oO
  rw[dQ d.kind,dQ d.n,DT d.ins]
  simp only[List.append_assoc]
 have hi:=vP (f:=aB) (enc:=fun v=>ay [v]) (l:=d.ins) (fun v hv r=>kQ (h6 v hv) r) (dV d.x++r) d.ins.length (Nat.le_refl _)
 have e2:(Int.ofNat d.ins.length).toNat=d.ins.length:=rfl
 have e3:(d.ins.drop d.ins.length).flatMap (fun v=>ay [v])++(dV d.x++r)=dV d.x++r:=by simp
 have hk: ∀t,aC 255 2 (ay [d.kind]++t,0)=(d.kind,(t,0)):=fun t=>qR h2 h3 (by omega) t
 have hc:aC 12 3 (ay [Int.ofNat d.ins.length]++((d.ins.flatMap fun v=>ay [v])++(dV d.x++r)),0)=(Int.ofNat d.ins.length,((d.ins.flatMap fun v=>ay [v])++(dV d.x++r),0)):=qR (by simp) (by simp;omega) (by omega) _
 simp only[lZ,e,MP h1,hk,kQ h4,hc,e2,hi,e3,IW 17 d.x h7]
 have hb:bs d.uid.data.toList=d.uid:=sD d.uid
 rw[hb]
 obtain⟨a,b,c,x,n⟩:=d
 simp
theorem FV {l:List JN}(hl: ∀d∈l,yh d)(r:List UInt8): ∀n,n<=l.length->bM n (dH l++r,0)=(l.take n,(dH (l.drop n)++r,0))
 |0,_=>by simp[bM]
 |n+1,h=>by
  have ih:=FV hl r n (by omega)
  have hd:l.drop n=l[n]::l.drop (n+1):=List.drop_eq_getElem_cons (by omega)
  have e:dH (l.drop n)++r=oO l[n]++(dH (l.drop (n+1))++r):=by
   rw[hd];unfold dH;rw[List.flatMap_cons,List.append_assoc]
  have hn:=WE (hl l[n] (List.getElem_mem _)) (dH (l.drop (n+1))++r)
  unfold bM
  rw[ih]
  dsimp only
  rw[if_neg (by simp),e,hn,List.take_succ_eq_append_getElem (by omega)]
theorem YN {j:Jb}(h:uQ j):oV (jB j)=(j,0):=by
 obtain⟨h1,h2,h3,h4⟩:=h
 have e:jB j=ay [j.par]++(ay [Int.ofNat j.nodes.length]++(dH j.nodes++[])):=by
  unfold jB
  rw[dQ j.par]
  simp only[List.append_assoc,List.append_nil]
 have hc:aC 12 3 (ay [Int.ofNat j.nodes.length]++(dH j.nodes++[]),0)=(Int.ofNat j.nodes.length,(dH j.nodes++[],0)):=qR (by simp) (by simp;omega) (by omega) _
 have hn:=FV h3 [] j.nodes.length (Nat.le_refl _)
 have e2:(Int.ofNat j.nodes.length).toNat=j.nodes.length:=rfl
 have e3:dH (j.nodes.drop j.nodes.length)++[]=[]:=by simp[dH]
 have e4:(⟨j.par,j.nodes.take j.nodes.length⟩:Jb)=j:=by rw[List.take_length]
 simp only[oV,e,kQ h1,hc,e2,hn,e3,e4]
 unfold EP
 rw[if_neg (by simp),if_neg (by simp[h4])]
abbrev Sb:=List UInt8×Bool
def aN (st:Sb):Int×Sb:=((dX st.1).1,(st.1.drop (dX st.1).2.1,st.2||decide ((dX st.1).2.2≠0)))
def jS (st:Sb):Jb×Sb:=((oV (dA st.1).1).1,(st.1.drop (dA st.1).2.1,(st.2||decide ((dA st.1).2.2≠0))||decide ((oV (dA st.1).1).2≠0)))
def xZ (kind n m:Int)(st:Sb):Ac×Sb:=
 if kind=0 then(⟨kind,n,m,(aN st).1,(aN (aN st).2).1,(aN (aN (aN st).2).2).1,zJ⟩,(aN (aN (aN st).2).2).2)
 else if kind=5 then(⟨kind,n,m,0,0,0,(jS st).1⟩,(jS st).2)
 else(⟨kind,n,m,0,0,0,zJ⟩,st)
def wP (kind:Int)(st:Sb):Ac×Sb:=xZ kind (aN st).1 (aN (aN st).2).1 (aN (aN st).2).2
def jf:Nat->Sb->Option (List Ac×Sb)
 |0,st=>some ([],st)
 |n+1,st=>match jf n st with
  |none=>none
  |some (l,u)=>if u.2=true then some (l,u)else if(aN u).1<0\/8<(aN u).1 then none else some (l++[(wP (aN u).1 (aN u).2).1],(wP (aN u).1 (aN u).2).2)
def ET (s:List UInt8)(t:Tp)(b:Bool):Tp×Int:=if b=true then(zT,21)else if ig t=true/\jX t=s then(t,0)else(zT,21)
def mZ (s:List UInt8):Tp×Int:=
 let b:=aN (s,false);let r:=aN b.2;let f:=jS r.2;let c:=aN f.2
 if 2000<c.1 then(zT,21)else match jf c.1.toNat c.2 with
  |none=>(zT,21)
  |some L=>ET s ⟨b.1,r.1,f.1,L.1⟩ L.2.2
theorem fG (st:Sb):aO (aN st).1/\(aN st).2.1.length<=st.1.length:=⟨KY _,by simp[aN]⟩
theorem DC (st:Sb):nD (jS st).1/\(jS st).2.1.length<=st.1.length:=⟨YO _,by simp[jS]⟩
def aaF (a:Ac):Prop:=mF a/\nD a.j
theorem YW {k:Int}(h0:0<=k)(h8:k<=8)(st:Sb):aaF (wP k st).1/\(wP k st).2.1.length<=st.1.length:=by
 have h2:=fG st
 have h3:=fG (aN st).2
 have hle:(aN (aN st).2).2.1.length<=st.1.length:=Nat.le_trans h3.2 h2.2
 have k2:k<=255:=by omega
 have z:aO 0:=by unfold aO;simp
 unfold wP
 generalize(aN (aN st).2).2=u at hle
 have h4:=fG u
 have h5:=fG (aN u).2
 have h6:=fG (aN (aN u).2).2
 unfold xZ
 split
 ·exact⟨⟨⟨h0,k2,h2.1,h3.1,h4.1,h5.1,h6.1,zQ⟩,Il⟩,Nat.le_trans h6.2 (Nat.le_trans h5.2 (Nat.le_trans h4.2 hle))⟩
 ·split
  ·have h7:=DC u
   exact⟨⟨⟨h0,k2,h2.1,h3.1,z,z,z,h7.1.fit⟩,h7.1⟩,Nat.le_trans h7.2 hle⟩
  ·exact⟨⟨⟨h0,k2,h2.1,h3.1,z,z,z,zQ⟩,Il⟩,hle⟩
theorem wO (st:Sb): ∀n l u,jf n st=some (l,u)->(∀d∈l,aaF d)/\l.length<=n/\u.1.length<=st.1.length
 |0,l,u,h=>by
  cases h
  exact⟨by simp,Nat.le_refl _,Nat.le_refl _⟩
 |n+1,l,u,h=>by
  unfold jf at h
  cases e:jf n st with
  |none=>rw[e]at h;cases h
  |some p=>
   obtain⟨l',u'⟩:=p
   rw[e]at h
   obtain⟨h1,h2,h3⟩:=wO st n l' u' e
   dsimp only at h
   split at h
   ·cases h
    exact⟨h1,by omega,h3⟩
   ·split at h
    ·cases h
    ·rename_i hk
     cases h
     have hn:=fG u'
     have h4:=YW (k:=(aN u').1) (by omega) (by omega) (aN u').2
     refine⟨fun d hd=>?_,by simp;omega,by omega⟩
     simp only[List.mem_append,List.mem_singleton]at hd
     rcases hd with hd|rfl
     ·exact h1 d hd
     ·exact h4.1
theorem lY {n:Int}(h:aO n)(r:List UInt8):aN (ay [n]++r,false)=(n,(r,false)):=by
 unfold aN
 dsimp only
 rw[EK h]
 simp
theorem MW {j:Jb}(h:uQ j)(hs:(jB j).length<=65536)(r:List UInt8):jS (ng j++r,false)=(j,(r,false)):=by
 unfold jS ng
 dsimp only
 rw[Dw hs]
 dsimp only
 rw[YN h]
 simp
theorem Jc {l:List Ac}(hl: ∀a∈l,FN a)(r:List UInt8): ∀n,n<=l.length->jf n (gI l++r,false)=some (l.take n,(gI (l.drop n)++r,false))
 |0,_=>by simp[jf]
 |n+1,h=>by
  have ih:=Jc hl r n (by omega)
  have hd:l.drop n=l[n]::l.drop (n+1):=List.drop_eq_getElem_cons (by omega)
  have e:gI (l.drop n)++r=iL l[n]++(gI (l.drop (n+1))++r):=by
   rw[hd];unfold gI;rw[List.flatMap_cons,List.append_assoc]
  obtain⟨⟨f1,f2,f3,f4,f5,f6,f7,f8⟩,hm,h5⟩:=hl l[n] (List.getElem_mem _)
  have hu:ug l[n] (Bc l[n])=true:=by
   unfold bW at hm
   simp only[Bool.and_eq_true]at hm
   exact hm.1.1.2
  obtain⟨u1,u2⟩:=Iu hu
  have hk8:l[n].kind<=8:=by
   unfold bW kH at hm
   simp only[Bool.and_eq_true]at hm
   have g:=hm.1.1.1
   split at g
   ·omega
   ·split at g
    ·omega
    ·exact of_decide_eq_true g
  unfold jf
  rw[ih]
  dsimp only
  rw[if_neg (by simp),e,List.take_succ_eq_append_getElem (by omega)]
  generalize l[n]=a at*
  obtain⟨kind,n',m,part,key,val,j⟩:=a
  dsimp only at*
  have r1:aO kind:=yc f1 (by omega)
  have e: ∀t,ay [kind,n',m]++t=ay [kind]++(ay [n']++(ay [m]++t)):=fun t=>by
   rw[dQ kind,dQ n']
   simp only[List.append_assoc]
  unfold iL
  dsimp only
  rw[List.append_assoc,e,lY r1]
  dsimp only
  rw[if_neg (by omega)]
  unfold wP
  simp only[lY f3,lY f4]
  unfold xZ
  by_cases k0:kind=0
  ·simp only[if_pos k0]
   have e3: ∀t,ay [part,key,val]++t=ay [part]++(ay [key]++(ay [val]++t)):=fun t=>by
    rw[dQ part,dQ key]
    simp only[List.append_assoc]
   simp only[e3,lY f5,lY f6,lY f7]
   rw[u2 (by omega)]
  ·simp only[if_neg k0]
   obtain⟨p0,p1,p2⟩:=u1 k0
   by_cases k5:kind=5
   ·simp only[if_pos k5]
    obtain⟨g1,g2⟩:=h5 k5
    simp only[MW g1 g2]
    rw[p0,p1,p2]
   ·simp only[if_neg k5]
    rw[p0,p1,p2,u2 k5]
    simp
theorem TK {t:Tp}(h:xJ t):mZ (jX t)=(t,0):=by
 obtain⟨⟨f1,f2,f3,f4,f5⟩,hm,g1,g2,g3⟩:=h
 have hlen:t.acts.length<=2000:=by
  unfold ig at hm
  simp only[Bool.and_eq_true,decide_eq_true_eq]at hm
  exact hm.1.2
 have e:jX t=ay [t.bytes]++(ay [t.room]++(ng t.first++(ay [Int.ofNat t.acts.length]++(gI t.acts++[])))):=by
  unfold jX
  rw[dQ t.bytes]
  simp only[List.append_assoc,List.append_nil]
 have rl:aO (Int.ofNat t.acts.length):=yc (by simp) (by simp;omega)
 have ha:=Jc g3 [] t.acts.length (Nat.le_refl _)
 have hn: ¬(2000<Int.ofNat t.acts.length):=by simp;omega
 have e2:(Int.ofNat t.acts.length).toNat=t.acts.length:=rfl
 have step:mZ (jX t)=ET (jX t) t false:=by
  unfold mZ
  rw[e]
  simp only[lY f1,lY f2,MW g1 g2,lY rl,if_neg hn,e2,ha]
  obtain⟨a,b,c,d⟩:=t
  simp
 rw[step]
 unfold ET
 rw[if_neg (by simp),if_pos ⟨hm,rfl⟩]
def ads (t:Tp):Prop:=fV t/\nD t.first/\ ∀a∈t.acts,nD a.j
theorem Wy (s:List UInt8):mZ s=(zT,21)\/(ads (mZ s).1/\ig (mZ s).1=true/\jX (mZ s).1=s/\(mZ s).2=0):=by
 have q1:=fG (s,false)
 have q2:=fG (aN (s,false)).2
 have q3:=DC (aN (aN (s,false)).2).2
 unfold mZ
 dsimp only
 split
 ·exact .inl rfl
 ·split
  ·exact .inl rfl
  ·rename_i L hL
   obtain⟨l,u⟩:=L
   obtain⟨a1,a2,_⟩:=wO _ _ l u hL
   unfold ET
   split
   ·exact .inl rfl
   ·split
    ·rename_i hc h1 h2 h3
     refine .inr ⟨⟨⟨q1.1,q2.1,q3.1.fit,?_,fun a ha=>(a1 a ha).1⟩,q3.1,fun a ha=>(a1 a ha).2⟩,h3.1,h3.2,rfl⟩
     dsimp only
     omega
    ·exact .inl rfl
theorem MQ (hG:sH)(s:List UInt8)(hl:s.length<=maxLen):mW s=(zT,21)\/(xJ (mW s).1/\jX (mW s).1=s/\(mW s).2=0):=by
 unfold mW L6
 split
 ·exact .inl rfl
 ·split
  ·rename_i h1 h2
   exact .inr ⟨FT hG (YT s hl) h2.1,h2.2,rfl⟩
  ·exact .inl rfl
theorem Wh (hG:sH)(s:List UInt8)(hl:s.length<=maxLen):mZ s=mW s:=by
 rcases MQ hG s hl with h|⟨h1,h2,h3⟩
 ·rcases Wy s with g|⟨g1,g2,g3,g4⟩
  ·rw[h,g]
  ·have hg:=FT hG g1.1 g2
   have:=Wi hg
   rw[g3,h]at this
   have:=congrArg Prod.snd this
   cases this
 ·have:=TK h1
  rw[h2]at this
  rw[this]
  exact Prod.ext rfl h3.symm
end Sx
end
end Go.Proofs.YtakhobfamnjnoaaGreatDoor
