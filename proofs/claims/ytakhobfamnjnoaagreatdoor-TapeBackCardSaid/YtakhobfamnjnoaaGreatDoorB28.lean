/- Symbolic runs: a tape that may be. -/
import Derived.Test.YtakhobfamnjnoaaGreatDoorB27
set_option linter.unusedVariables false
set_option linter.unusedSimpArgs false
namespace Go.Proofs.YtakhobfamnjnoaaGreatDoor
section
namespace Sx
open Go Go.RowKit _root_.Go.Proofs.Tryz
set_option maxRecDepth 100000
def oH (l:List Ac):Int:=match l.findIdx? (fun a=>!bY a)with|some i=>(i:Int)|none=> -1
theorem Nk {l:List Ac}(h:l.all bY=true):oH l= -1:=by
 unfold oH
 have:l.findIdx? (fun a=>!bY a)=none:=by
  rw[List.findIdx?_eq_none_iff]
  intro x hx
  simp[List.all_eq_true.1 h x hx]
 rw[this]
theorem aat {l:List Ac}{k:Nat}{x:Ac}(hx:l[k]?=some x)(h:(l.take k).all bY=true)(hm:bY x=false):oH l=k/\l.all bY=false:=by
 have hk:=(List.getElem?_eq_some_iff.1 hx).1
 have hg:=(List.getElem?_eq_some_iff.1 hx).2
 have:l.findIdx? (fun a=>!bY a)=some k:=by
  rw[List.findIdx?_eq_some_iff_getElem]
  refine⟨hk,by rw[hg,hm];rfl,fun j hj=>?_⟩
  have:=List.all_eq_true.1 h l[j] (by rw[List.mem_take_iff_getElem];exact⟨j,by omega,rfl⟩)
  simp[this]
 refine⟨by unfold oH;rw[this],?_⟩
 rw[List.all_eq_false]
 exact⟨x,List.mem_of_getElem? hx,by simp[hm]⟩
theorem YN {l:List Ac}{k:Nat}{x:Ac}(hx:l[k]?=some x):(l.take (k+1)).all bY=((l.take k).all bY&&bY x):=by
 rw[List.take_add_one,hx,List.all_append]
 simp
section
variable {bx:{α:Type}->α->α} (hb: ∀{α:Type}(x:α),bx x=x)
include hb
theorem adA (a:Ac)(hf:lQ a):Ct prog 27 [Ug bx a] [] fun r h=>r= .a (.c (.p (.bool (bx (!bY a)))))/\h=[]:=ct hb func27 fun Q hQ K hK=>by
 cbv
 refine call hQ (adD hb a hf) [] ?_
 rintro _ _ ⟨rfl,rfl⟩
 cbv
 exact hK _ _ (.a (.c (.p (.bool (bx (!bY a)))))) [] (aZ [] [] (he:=rE (by simp[hb]))) ⟨rfl,rfl⟩
theorem adH (l:List Ac)(hl:l.length<4611686018427387904)(hf: ∀a∈l,lQ a):Ct prog 61 [.c (.p (.fz (bx l.length) (bx (jD l)))), .c (.p (.fn 27))] [] fun r h=>r= .a (.c (.p (.int .i64 (bx (oH l)))))/\h=[]:=ct hb func61 fun Q hQ K hK=>by
 cbv
 refine loop hb (fun k=>k<=l.length/\(l.take k).all bY=true) (fun k=>l.length-k) (fun k=>[(8, .a (.c (.p (.int .i64 (bx (Int.ofNat k))))))]) (fun _=>[]) 0 ⟨by omega,rfl⟩ (ent [] []) fun k hI=>?_
 cbv
 refine⟨fun hd=>?_,fun hd=>?_⟩<;>simp only[hb,pl]at hd
 ·obtain⟨x,hx⟩: ∃x,l[k]?=some x:=⟨_,List.getElem?_eq_getElem hd⟩
  cbv
  refine get (Ed bx x) (jZ hb oK rfl hx (yh hb x)) (chk (kC hb hd (by omega)) ?_)
  cbv
  refine call hQ (adA hb x (hf x (List.mem_of_getElem? hx))) [] ?_
  rintro _ _ ⟨rfl,rfl⟩
  cbv
  refine⟨fun he=>?_,fun he=>?_⟩<;>simp only[hb,pl]at he
  ·cbv
   exact hK _ _ (.a (.c (.p (.int .i64 (bx (oH l)))))) [] (aZ [] [] (he:=aar (by simp only[hb];rw[(aat hx hI.2 he).1];rfl))) ⟨rfl,rfl⟩
  ·have hu:=uz hb (k:=k) (by omega)
   cbv
   exact⟨k+1,⟨by omega,by rw[YN hx,hI.2,he];rfl⟩,by omega,ent [] [] (he:=by cbv;(repeat' (first|trivial|rfl|apply And.intro|exact hu)))⟩
 ·cbv
  have hk:k=l.length:=by omega
  have h1:=hI.2
  rw[hk,List.take_of_length_le (Nat.le_refl _)]at h1
  exact hK _ _ (.a (.c (.p (.int .i64 (bx (oH l)))))) [] (aZ [] [] (he:=by cbv;rw[hb];exact Nk h1)) ⟨rfl,rfl⟩
theorem adM (l:List Ac)(hl:l.length<4611686018427387904)(hf: ∀a∈l,lQ a):Ct prog 26 [.c (.p (.fz (bx l.length) (bx (jD l)))), .c (.p (.fn 27))] [] fun r h=>r= .a (.c (.p (.bool (bx (decide (0<=oH l))))))/\h=[]:=ct hb func26 fun Q hQ K hK=>by
 cbv
 refine call hQ (adH hb l hl hf) [] ?_
 rintro _ _ ⟨rfl,rfl⟩
 cbv
 exact hK _ _ (.a (.c (.p (.bool (bx (decide (0<=oH l))))))) [] (aZ [] [] (he:=rE (by simp[hb]))) ⟨rfl,rfl⟩
omit hb in
theorem abZ (l:List Ac):(!decide (0<=oH l))=l.all bY:=by
 by_cases h:l.all bY=true
 ·rw[Nk h,h];rfl
 ·have h':l.all bY=false:=by simpa using h
  rw[h']
  unfold oH
  cases hi:l.findIdx? (fun a=>!bY a)with
  |none=>
   rw[List.findIdx?_eq_none_iff]at hi
   exact absurd (List.all_eq_true.2 fun x hx=>by simpa using hi x hx) h
  |some i=>simp
theorem aeE (t:Tp)(hf:gQ t):Ct prog 9 [jX bx t] [] fun r h=>r= .a (.c (.p (.bool (bx (iU t)))))/\h=[]:=ct hb func9 fun Q hQ K hK=>by
 have no: ∀{H:Hp},iU t=false->K (.a (.c (.p .ff))) H:=fun h=>hK _ _ (.a (.c (.p (.bool (bx (iU t)))))) [] (aZ [] [] (he:=ou (by rw[hb];exact h))) ⟨rfl,rfl⟩
 cbv
 refine call hQ (J5 hb t.first hf.2.2.1) [] ?_
 rintro _ _ ⟨rfl,rfl⟩
 cbv
 refine⟨fun h1=>?_,fun h1=>?_⟩<;>simp only[hb,pl]at h1
 ·cbv
  refine⟨fun h2=>?_,fun h2=>?_⟩<;>simp only[hb,pl]at h2
  ·cbv
   refine⟨fun h3=>?_,fun h3=>?_⟩<;>simp only[hb,pl]at h3
   ·cbv
    refine⟨fun h4=>?_,fun h4=>?_⟩<;>simp only[hb,pl]at h4
    ·cbv
     refine⟨fun h5=>?_,fun h5=>?_⟩<;>simp only[hb,pl]at h5
     ·cbv
      refine⟨fun h6=>?_,fun h6=>?_⟩<;>simp only[hb,pl]at h6
      ·cbv
       refine call hQ (adM hb t.acts hf.2.2.2.1 hf.2.2.2.2) [] ?_
       rintro _ _ ⟨rfl,rfl⟩
       cbv
       exact hK _ _ (.a (.c (.p (.bool (bx (iU t)))))) [] (aZ [] [] (he:=rE (by
        have h6:(t.acts.length:Int)<=2000:=h6
        have h6:t.acts.length<=2000:=by omega
        simp[hb,iU,h1,h2,h3,h4,h5,h6,<-abZ]))) ⟨rfl,rfl⟩
      ·cbv
       have h6: ¬(t.acts.length:Int)<=2000:=h6
       exact no (by simp[iU];omega)
     ·cbv
      exact no (by simp[iU,h5])
    ·cbv
     exact no (by simp[iU,h4])
   ·cbv
    exact no (by simp[iU,h3])
  ·cbv
   exact no (by simp[iU,h2])
 ·cbv
  exact no (by simp[iU,h1])
end
end Sx
end
section
namespace Sx
open Go Go.RowKit _root_.Go.Proofs.Tryz
set_option maxRecDepth 100000
def bs (l:List UInt8):ByteArray:=⟨l.toArray⟩
theorem gB (a b:List UInt8):bs (a++b)=bs a++bs b:=by
 apply ByteArray.ext
 simp[bs,ByteArray.data_append]
theorem eG (a:List UInt8):(bs a).size=a.length:=by simp[bs,ByteArray.size]
theorem uo (s:ByteArray):bs s.data.toList=s:=by simp[bs]
theorem aaB (l:List UInt8):(bs l).data.toList=l:=by simp[bs]
mutual
def iC:Ex->List UInt8
 | .mk op n args=>aH [op,n,Int.ofNat args.length]++iI args
def iI:List Ex->List UInt8
 |[]=>[]
 |x::l=>iC x++iI l
end
theorem He (x:Ex):iC x=aH [x.op,x.n,Int.ofNat x.args.length]++iI x.args:=by
 obtain⟨o,n,a⟩:=x
 rw[iC];rfl
theorem EM: ∀{l:List Ex}{k:Nat}{x:Ex},l[k]?=some x->iI (l.take (k+1))=iI (l.take k)++iC x
 |[],_,_,h=>by simp at h
 |y::l,0,x,h=>by simp at h;subst h;simp[iI]
 |y::l,k+1,x,h=>by
  have:=EM (l:=l) (k:=k) (by simpa using h)
  simp only[List.take_succ_cons,iI,this,List.append_assoc]
theorem EL: ∀(l:List Ex)(k:Nat),(iI (l.take k)).length<=(iI l).length
 |[],_=>by simp
 |y::l,0=>by simp[iI]
 |y::l,k+1=>by
  have:=EL l k
  simp only[List.take_succ_cons,iI,List.length_append];omega
def iJ (l:List UInt8):List UInt8:=aH [Int.ofNat l.length]++l
section
variable {bx:{α:Type}->α->α} (hb: ∀{α:Type}(x:α),bx x=x)
include hb
theorem abX (a b:ByteArray)(hl:a.size+b.size<=140737488355328):Ct prog 95 [.c (.sl 0 0 0 2), .c (.p (.str ByteArray.empty))] [.one (.row [.p (.str a), .p (.str b)] 9)] fun r h=>r= .a (.c (.p (.str (bx (a++b)))))/\h=[.one (.row [.p (.str a), .p (.str b)] 9)]:=by
 have eb: @bx= @I0:=rF hb
 subst eb
 refine Ct.pure func95 rfl rfl fun ρ O w xs H h=>?_
 cases h with|cons h1 t=>cases t with|cons h2 t=>
  cases t
  cases h1 with|c h1=>cases h2 with|c h2=>cases h2 with|p h2=>
   cases h2
   have ob:=H.ob 0 0 (.row [.p (.str a), .p (.str b)] 9) rfl
   cases h1 with
   | @sl _ _ b0 base cp off len cap h0 q1 q2 q3=>
     cases ob with
     |row ho hr hB hh hc hsz=>
      rcases ho with e|⟨l,e,rfl⟩<;>cases e
      rw[h0]at hr;cases hr
      have cell: ∀(j:Nat) x,[a,b][j]?=some x->w.cell? ⟨b0,base+j,none⟩=some (.string x):=fun j x hj=>by
       obtain⟨v,g1,g2⟩:=hc j (.p (.str x)) (by
        match j,hj with
        |0,hj=>simp at hj;subst hj;rfl
        |1,hj=>simp at hj;subst hj;rfl
        |j+2,hj=>simp at hj)
       cases g1 with|p g1=>
        cases g1
        simp[World.cell?,hh,g2]
      have hlt:=(Array.getElem?_eq_some_iff.1 hh).1
      have je:Lib.join ([a,b].map (·.data.toList)) ByteArray.empty.data.toList=a.data.toList++b.data.toList:=by
       show Lib.join (a.data.toList::[b.data.toList]) []=_
       rw[Lib.join_cons]
       show a.data.toList++([[]++b.data.toList]:List (List UInt8)).flatten=_
       rw[List.flatten_cons,List.flatten_nil,List.nil_append,List.append_nil]
      have hj:=Any.strings_Join Tryz.joinL Tryz.joinX b0 base cap [a,b] ByteArray.empty w cell hlt (by simp) (by simpa using q1) (by
       rw[je,List.length_append,Array.length_toList,Array.length_toList]
       exact hl)
      refine⟨_,fun _=> .a (.c (.p rfl)),hj.mono fun e w' ⟨g1,g2⟩=>⟨?_,Kept.of_below g2⟩⟩
      rw[g1,je]
      have e2:(⟨(a.data.toList++b.data.toList).toArray⟩:ByteArray)=a++b:=by
       rw[<-uo a,<-uo b,<-gB]
       simp only[uo];rfl
      rw[e2]
     |cZ ho hr hB=>rw[h0]at hr;cases hr
   |cZ h0 h00=>cases h00
omit hb in
theorem I5 (l:List UInt8)(h:l.length<=65536):(iJ l).length<=l.length+10:=by
 have:=fV (l:=[Int.ofNat l.length]) (fun n hn=>by simp at hn;subst hn;unfold aS;simp;omega)
 unfold iJ
 rw[List.length_append]
 simp only[List.length_singleton,Nat.mul_one]at this;omega
theorem I7 (l:List UInt8)(hl:l.length<=65536):Ct prog 53 [.c (.p (.str (bx (bs l))))] [] fun r h=>r= .aN [.c (.p (.str (bx (bs (iJ l))))), .c (.p (.int .i64 0))]/\h=[]:=ct hb func53 fun Q hQ K hK=>by
 have hz:(bs l).size=l.length:=eG l
 have h64: ∀n∈[Int.ofNat l.length],aS n:=fun n hn=>by simp at hn;subst hn;unfold aS;simp;omega
 have hp:(aH [Int.ofNat l.length]).length<=10:=by have:=fV h64;simpa only[List.length_singleton,Nat.mul_one]using this
 cbv
 refine⟨fun h1=>?_,fun h1=>?_⟩<;>simp only[hb,pl]at h1
 ·exact absurd h1 (by omega)
 ·cbv
  refine call hQ (tH hb [bx (Int.ofNat l.length)] (by simp) (by simpa only[hb]using h64)) [.all 0] ?_ (hs:=by cbv;simp[hb,hz])
  rintro _ _ ⟨rfl,rfl⟩
  cbv
  refine call hQ (abX hb (bx (Dt [bx (Int.ofNat l.length)])) (bx (bs l)) (by
   simp only[hb,hz]
   have:(Dt [Int.ofNat l.length]).size=(aH [Int.ofNat l.length]).length:=by simp[Dt,ByteArray.size]
   omega)) [.all 1] ?_
  rintro _ _ ⟨rfl,rfl⟩
  cbv
  exact hK _ _ (.aN [.c (.p (.str (bx (bs (iJ l))))), .c (.p (.int .i64 0))]) [] (aZ [] [] (he:=by
   cbv
   (repeat' (first|trivial|apply And.intro))
   ·simp only[hb,iJ,gB];rfl)) ⟨rfl,rfl⟩
theorem Y5 (x:Ex)(hx:iO x)(hs:(iC x).length<=1000000):Ct prog 94 [AZ bx x] [] fun r h=>r= .a (.c (.p (.str (bx (bs (iC x))))))/\h=[]:=by
 have ih: ∀z,∀hz:z∈x.args,iO z->(iC z).length<=1000000->Ct prog 94 [AZ bx z] [] fun r h=>r= .a (.c (.p (.str (bx (bs (iC z))))))/\h=[]:=fun z hz=>Y5 z
 have hf:0<=x.op/\x.op<=255/\aS x.n:=by
  obtain⟨o,n,a⟩:=x
  exact⟨hx.1,hx.2.1,hx.2.2.1⟩
 obtain⟨ha,hfa⟩:=hx.args
 have hwo:wr .i64 x.op=x.op:=vJ (by omega)
 have hwl:wr .i64 (Int.ofNat x.args.length)=Int.ofNat x.args.length:=vJ (by simp;omega)
 have h64: ∀n∈[x.op,x.n,Int.ofNat x.args.length],aS n:=by
  intro n hn
  simp only[List.mem_cons,List.not_mem_nil,or_false]at hn
  rcases hn with rfl|rfl|rfl
  ·unfold aS;omega
  ·exact hf.2.2
  ·unfold aS;simp;omega
 refine ct hb func94 fun Q hQ K hK=>?_
 cbv
 refine call hQ (tH hb [bx x.op,bx x.n,bx (Int.ofNat x.args.length)] (by simp) (by simpa only[hb]using h64)) [.all 1] ?_ (hs:=by cbv;simp[hb,hwo,hwl])
 rintro _ _ ⟨rfl,rfl⟩
 cbv
 refine loop hb (fun k=>k<=x.args.length) (fun k=>x.args.length-k) (fun k=>[(19, .a (.c (.p (.int .i64 (bx (Int.ofNat k)))))),(3, .a (.c (.p (.str (bx (bs (aH [x.op,x.n,Int.ofNat x.args.length]++iI (x.args.take k))))))))]) (fun _=>[]) 0 (by omega) (ent [] [.all 0, .all 1] (he:=by cbv;(repeat' (first|trivial|rfl|apply And.intro|(simp[hb,iI,Dt,bs];done))))) fun k hI=>?_
 cbv
 refine⟨fun hd=>?_,fun hd=>?_⟩<;>simp only[hb,pl]at hd
 ·obtain⟨z,hz⟩: ∃z,x.args[k]?=some z:=⟨_,List.getElem?_eq_getElem hd⟩
  have hm:=List.mem_of_getElem? hz
  have hsn:=EM hz
  have hle:=EL x.args (k+1)
  have hxe:=He x
  have hu:=uz hb (k:=k) (by omega)
  have hls:(aH [x.op,x.n,Int.ofNat x.args.length]).length+(iI (x.args.take k)).length+(iC z).length<=1000000:=by
   rw[hxe,List.length_append]at hs
   rw[hsn,List.length_append]at hle
   omega
  cbv
  refine get (QL bx z) (jZ hb oV (oU x.args) hz (Gh hb z)) (chk (kC hb hd (by omega)) ?_)
  cbv
  refine call hQ (ih z hm (qg hfa hm) (by omega)) [] ?_
  rintro _ _ ⟨rfl,rfl⟩
  cbv
  refine chk (by simp only[hb,eG,List.length_append,decide_eq_true_eq];omega) ?_
  cbv
  exact⟨k+1,by omega,by omega,ent [] [.all 0, .all 1] (he:=by cbv;(repeat' (first|trivial|rfl|apply And.intro|exact hu|(simp only[hb,hsn,<-List.append_assoc,gB];done))))⟩
 ·cbv
  have hk:k=x.args.length:=by omega
  have hxe:=He x
  exact hK _ _ (.a (.c (.p (.str (bx (bs (iC x))))))) [] (aZ [] [] (he:=by
   cbv
   rw[hk,List.take_of_length_le (Nat.le_refl _),hxe])) ⟨rfl,rfl⟩
termination_by SizeOf.sizeOf x
decreasing_by exact Ii hz
end
end Sx
end
section
namespace Sx
open Go Go.RowKit _root_.Go.Proofs.Tryz
set_option maxRecDepth 100000
set_option maxHeartbeats 4000000
def uJ (d:JN):List UInt8:=iJ d.uid.data.toList++aH [d.kind,d.n,Int.ofNat d.ins.length]++aH d.ins++iC d.x
def fG (l:List JN):List UInt8:=l.flatMap uJ
def mP (j:Jb):List UInt8:=aH [j.par,Int.ofNat j.nodes.length]++fG j.nodes
theorem RN {l:List JN}{k:Nat}{x:JN}(h:l[k]?=some x):fG (l.take (k+1))=fG (l.take k)++uJ x:=by
 unfold fG
 rw[List.take_add_one,h,List.flatMap_append];simp
theorem RJ (l:List JN)(k:Nat):(fG (l.take k)).length<=(fG l).length:=by
 conv=>rhs;rw[<-List.take_append_drop k l]
 unfold fG
 rw[List.flatMap_append,List.length_append];omega
theorem U7 (l:List Int)(k:Nat):(aH (l.take k)).length<=(aH l).length:=by
 conv=>rhs;rw[<-List.take_append_drop k l]
 unfold aH
 rw[List.flatMap_append,List.length_append];omega
theorem RP {l:List Int}{k:Nat}{x:Int}(h:l[k]?=some x):aH (l.take (k+1))=aH (l.take k)++aH [x]:=by
 unfold aH
 rw[List.take_add_one,h,List.flatMap_append];simp
theorem gU (l:List Int):Dt l=bs (aH l):=rfl
theorem yw {n:Int}(h:aS n):wr .i64 n=n:=vJ h
theorem yM {n:Nat}(h:n<4611686018427387904):aS (Int.ofNat n):=by unfold aS;simp;omega
theorem Dn {n:Int}(h:0<=n)(h2:n<=255):aS n:=by unfold aS;omega
section
variable {bx:{α:Type}->α->α} (hb: ∀{α:Type}(x:α),bx x=x)
include hb
theorem ady (j:Jb)(hf:gK j)(hm:(dV j).2=0)(hs:(mP j).length<=65536):Ct prog 52 [qR bx j] [] fun r h=>r= .aN [.c (.p (.str (bx (bs (mP j))))), .c (.p (.int .i64 0))]/\h=[]:=ct hb func52 fun Q hQ K hK=>by
 have e1:=yw hf.2.2
 have e2:=yw (yM hf.1)
 have h64: ∀n∈[j.par,Int.ofNat j.nodes.length],aS n:=by
  intro n hn
  simp only[List.mem_cons,List.not_mem_nil,or_false]at hn
  rcases hn with rfl|rfl
  ·exact hf.2.2
  ·exact yM hf.1
 cbv
 refine call hQ (J5 hb j hf) [] ?_
 rintro _ _ ⟨rfl,rfl⟩
 cbv
 refine⟨fun h1=>?_,fun h1=>?_⟩<;>simp only[hb,pl]at h1
 ·exact absurd hm h1
 ·cbv
  refine call hQ (tH hb [bx j.par,bx (Int.ofNat j.nodes.length)] (by simp) (by simpa only[hb]using h64)) [.all 1] ?_ (hs:=by cbv;simp[hb,e1])
  rintro _ _ ⟨rfl,rfl⟩
  cbv
  refine loop hb (fun k=>k<=j.nodes.length) (fun k=>j.nodes.length-k) (fun k=>[(30, .a (.c (.p (.int .i64 (bx (Int.ofNat k)))))),(6, .a (.c (.p (.str (bx (bs (aH [j.par,Int.ofNat j.nodes.length]++fG (j.nodes.take k))))))))]) (fun _=>[]) 0 (by omega) (ent [] [.all 0, .all 1] (he:=by cbv;(repeat' (first|trivial|rfl|apply And.intro|(simp[hb,fG,Dt,bs];done))))) fun k hI=>?_
  cbv
  refine⟨fun hd=>?_,fun hd=>?_⟩<;>simp only[hb,pl]at hd
  ·obtain⟨d,hx⟩: ∃d,j.nodes[k]?=some d:=⟨_,List.getElem?_eq_getElem hd⟩
   have hsn:=RN hx
   have hle:=RJ j.nodes (k+1)
   obtain⟨f1,f2,f3,f4,f5,f6,f7⟩:=hf.2.1 d (List.mem_of_getElem? hx)
   have hlo:=hf.1
   have hu:=uz hb (k:=k) (by omega)
   have w1:=yw (Dn f4 f5)
   have w2:=yw f6
   have g64: ∀n∈[d.kind,d.n,Int.ofNat d.ins.length],aS n:=by
    intro n hn
    simp only[List.mem_cons,List.not_mem_nil,or_false]at hn
    rcases hn with rfl|rfl|rfl
    ·exact Dn f4 f5
    ·exact f6
    ·exact yM f1
   have hT:(iJ d.uid.data.toList).length=(aH [Int.ofNat d.uid.data.toList.length]).length+d.uid.data.toList.length:=by unfold iJ;rw[List.length_append]
   have hls:(aH [j.par,Int.ofNat j.nodes.length]).length+(fG (j.nodes.take k)).length+((iJ d.uid.data.toList).length+(aH [d.kind,d.n,Int.ofNat d.ins.length]).length+(aH d.ins).length+(iC d.x).length)<=65536:=by
    unfold mP at hs
    rw[List.length_append]at hs
    rw[hsn,List.length_append]at hle
    have:(uJ d).length=(iJ d.uid.data.toList).length+(aH [d.kind,d.n,Int.ofNat d.ins.length]).length+(aH d.ins).length+(iC d.x).length:=by unfold uJ;simp only[List.length_append]
    omega
   cbv
   refine get (BL bx d) (jZ hb mQ rfl hx (yT hb d)) (chk (kC hb hd (by omega)) ?_)
   cbv
   refine call hQ (I7 hb d.uid.data.toList (by omega)) [] ?_ (ha:=by cbv;(repeat' (first|trivial|rfl|apply And.intro|(simp[hb,uo];done))))
   rintro _ _ ⟨rfl,rfl⟩
   cbv
   refine call hQ (tH hb [bx d.kind,bx d.n,bx (Int.ofNat d.ins.length)] (by simp) (by simpa only[hb]using g64)) [.all 3] ?_ (hs:=by cbv;simp[hb,w1,w2])
   rintro _ _ ⟨rfl,rfl⟩
   cbv
   refine chk (by simp only[hb,gU,<-gB,eG,List.length_append,decide_eq_true_eq];omega) ?_
   cbv
   refine chk (by simp only[hb,gU,<-gB,eG,List.length_append,decide_eq_true_eq];omega) ?_
   cbv
   refine loop hb (fun i=>i<=d.ins.length) (fun i=>d.ins.length-i) (fun i=>[(57, .a (.c (.p (.int .i64 (bx (Int.ofNat i)))))),(6, .a (.c (.p (.str (bx (bs (aH [j.par,Int.ofNat j.nodes.length]++fG (j.nodes.take k)++(iJ d.uid.data.toList++aH [d.kind,d.n,Int.ofNat d.ins.length]++aH (d.ins.take i)))))))))]) (fun _=>[]) 0 (by omega) (ent [] [.all 0, .all 1, .all 2, .all 3] (he:=by cbv;(repeat' (first|trivial|rfl|apply And.intro|(simp only[hb,gU,<-gB,List.take_zero];simp[aH];done))))) fun i hI2=>?_
   cbv
   refine⟨fun hd2=>?_,fun hd2=>?_⟩<;>simp only[hb,pl]at hd2
   ·obtain⟨x,hi⟩: ∃x,d.ins[i]?=some x:=⟨_,List.getElem?_eq_getElem hd2⟩
    have hin:=RP hi
    have hil:=U7 d.ins (i+1)
    rw[hin,List.length_append]at hil
    have hui:=uz hb (k:=i) (by omega)
    have w3:=yw (f3 x (List.mem_of_getElem? hi))
    cbv
    refine get [.int .i64 (bx x)] (jZ hb (f:=fun x=>[.int .i64 x]) (fun _=>rfl) rfl hi (by rw[hb])) (chk (kC hb hd2 (by omega)) ?_)
    cbv
    refine call hQ (tH hb [bx x] (by simp) (by simpa only[hb,List.mem_singleton,forall_eq]using f3 x (List.mem_of_getElem? hi))) [.all 4] ?_
    rintro _ _ ⟨rfl,rfl⟩
    cbv
    refine chk (by simp only[hb,gU,<-gB,eG,List.length_append,decide_eq_true_eq];omega) ?_
    cbv
    exact⟨i+1,by omega,by omega,ent [] [.all 0, .all 1, .all 2, .all 3] (he:=by cbv;(repeat' (first|trivial|rfl|apply And.intro|exact hui|(simp only[hb,hin,gU,<-gB,List.append_assoc];done))))⟩
   ·have hi2:i=d.ins.length:=by omega
    rw[hi2,List.take_of_length_le (Nat.le_refl _)]
    cbv
    refine call hQ (Y5 hb d.x f2 (by omega)) [] ?_
    rintro _ _ ⟨rfl,rfl⟩
    cbv
    refine chk (by simp only[hb,gU,<-gB,eG,List.length_append,decide_eq_true_eq];omega) ?_
    cbv
    exact⟨k+1,by omega,by omega,ent [] [.all 0, .all 1] (he:=by cbv;(repeat' (first|trivial|rfl|apply And.intro|exact hu|(simp only[hb,hsn,uJ,gU,<-gB,List.append_assoc];done))))⟩
  ·cbv
   have hk:k=j.nodes.length:=by omega
   exact hK _ _ (.aN [.c (.p (.str (bx (bs (mP j))))), .c (.p (.int .i64 0))]) [] (aZ [] [] (he:=by
    cbv
    rw[hk,List.take_of_length_le (Nat.le_refl _)]
    (repeat' (first|trivial|rfl|apply And.intro)))) ⟨rfl,rfl⟩
end
end Sx
end
section
namespace Sx
open Go Go.RowKit _root_.Go.Proofs.Tryz
set_option maxRecDepth 100000
set_option maxHeartbeats 4000000
def sK (j:Jb):List UInt8:=iJ (mP j)
def kZ (a:Ac):List UInt8:=aH [a.kind,a.n,a.m]++if a.kind=0 then aH [a.part,a.key,a.val]else if a.kind=5 then sK a.j else[]
def iK (l:List Ac):List UInt8:=l.flatMap kZ
def eY (t:Tp):List UInt8:=aH [t.bytes,t.room]++sK t.first++aH [Int.ofNat t.acts.length]++iK t.acts
theorem RX {l:List Ac}{k:Nat}{x:Ac}(h:l[k]?=some x):iK (l.take (k+1))=iK (l.take k)++kZ x:=by
 unfold iK
 rw[List.take_add_one,h,List.flatMap_append];simp
theorem RU (l:List Ac)(k:Nat):(iK (l.take k)).length<=(iK l).length:=by
 conv=>rhs;rw[<-List.take_append_drop k l]
 unfold iK
 rw[List.flatMap_append,List.length_append];omega
def nI:Prop:= ∀j,gK j->(dV j).2=0->(mP j).length<=65536
theorem Dq {j:Jb}(hS:nI)(hf:gK j)(hm:(dV j).2=0):(sK j).length<=65546:=by
 have h1:=hS j hf hm
 have:=I5 (mP j) h1
 unfold sK;omega
theorem X4 {a:Ac}(h:bY a=true)(h5:a.kind=5):(dV a.j).2=0:=by
 unfold bY jP at h
 rw[if_neg (by omega),if_pos h5]at h
 simp only[Bool.and_eq_true,decide_eq_true_eq]at h
 exact h.1.1.1
theorem Va {a:Ac}(hS:nI)(hf:lQ a)(hm:bY a=true):(kZ a).length<=65600:=by
 obtain⟨f1,f2,f3,f4,f5,f6,f7,f8⟩:=hf
 have h1:=fV (l:=[a.kind,a.n,a.m]) (by
  intro n hn
  simp only[List.mem_cons,List.not_mem_nil,or_false]at hn
  rcases hn with rfl|rfl|rfl
  ·exact Dn f1 f2
  ·exact f3
  ·exact f4)
 have h2:=fV (l:=[a.part,a.key,a.val]) (by
  intro n hn
  simp only[List.mem_cons,List.not_mem_nil,or_false]at hn
  rcases hn with rfl|rfl|rfl
  ·exact f5
  ·exact f6
  ·exact f7)
 simp only[List.length_cons,List.length_nil]at h1 h2
 unfold kZ
 rw[List.length_append]
 split
 ·omega
 ·split
  ·rename_i h5
   have:=Dq hS f8 (X4 hm h5)
   omega
  ·simp only[List.length_nil];omega
theorem Ja {l:List Ac}(hS:nI)(hf: ∀a∈l,lQ a)(hm:l.all bY=true):(iK l).length<=l.length*65600:=by
 induction l with
 |nil=>simp[iK]
 |cons a l ih=>
  rw[List.all_cons,Bool.and_eq_true]at hm
  have h1:=ih (fun b hb=>hf b (.tail _ hb)) hm.2
  have h2:=Va hS (hf a (.head _)) hm.1
  unfold iK at h1⊢
  rw[List.flatMap_cons,List.length_append,List.length_cons]
  omega
section
variable {bx:{α:Type}->α->α} (hb: ∀{α:Type}(x:α),bx x=x)
include hb
theorem LJ (j:Jb)(hf:gK j)(hm:(dV j).2=0)(hs:(mP j).length<=65536):Ct prog 22 [qR bx j] [] fun r h=>r= .a (.c (.p (.str (bx (bs (sK j))))))/\h=[]:=ct hb func22 fun Q hQ K hK=>by
 cbv
 refine call hQ (ady hb j hf hm hs) [] ?_
 rintro _ _ ⟨rfl,rfl⟩
 cbv
 refine call hQ (I7 hb (mP j) hs) [] ?_
 rintro _ _ ⟨rfl,rfl⟩
 cbv
 exact hK _ _ (.a (.c (.p (.str (bx (bs (sK j))))))) [] (aZ [] []) ⟨rfl,rfl⟩
theorem abk (t:Tp)(hS:nI)(hf:gQ t):Ct prog 7 [jX bx t] [] fun r h=>h=[]/\if iU t=true then r= .aN [.c (.p (.str (bx (bs (eY t))))), .c (.p (.int .i64 0))]else r= .aN [.c (.p (.str ByteArray.empty)), .c (.p (.int .i64 2))]:=ct hb func7 fun Q hQ K hK=>by
 obtain⟨f1,f2,f3,f4,f5⟩:=hf
 cbv
 refine call hQ (aeE hb t ⟨f1,f2,f3,f4,f5⟩) [] ?_
 rintro _ _ ⟨rfl,rfl⟩
 cbv
 refine⟨fun h1=>?_,fun h1=>?_⟩<;>simp only[hb,pl]at h1
 ·cbv
  exact hK _ _ (.aN [.c (.p (.str ByteArray.empty)), .c (.p (.int .i64 2))]) [] (aZ [] []) ⟨rfl,by rw[if_neg (by simp[h1])]⟩
 ·have hm:=h1
  unfold iU at hm
  simp only[Bool.and_eq_true,decide_eq_true_eq]at hm
  obtain⟨⟨⟨⟨⟨⟨m1,m2⟩,m3⟩,m4⟩,m5⟩,m6⟩,m7⟩:=hm
  have hJ:=hS t.first f3 m5
  cbv
  have g1: ∀n∈[t.bytes,t.room],aS n:=by
   intro n hn
   simp only[List.mem_cons,List.not_mem_nil,or_false]at hn
   rcases hn with rfl|rfl
   ·exact f1
   ·exact f2
  have g2: ∀n∈[Int.ofNat t.acts.length],aS n:=by
   intro n hn
   simp only[List.mem_cons,List.not_mem_nil,or_false]at hn
   subst hn
   exact yM f4
  have q1:=fV g1
  have q2:=fV g2
  have q3:=Dq hS f3 m5
  simp only[List.length_cons,List.length_nil]at q1 q2
  have p1:=tH hb [bx t.bytes,bx t.room] (by simp) (by simpa only[hb]using g1)
  have p2:=LJ hb t.first f3 m5 hJ
  have p3:=tH hb [bx (Int.ofNat t.acts.length)] (by simp) (by simpa only[hb]using g2)
  obtain⟨pre,hpre⟩: ∃pre,aH [t.bytes,t.room]++sK t.first++aH [Int.ofNat t.acts.length]=pre:=⟨_,rfl⟩
  have hpl:pre.length<=65700:=by rw[<-hpre,List.length_append,List.length_append];omega
  have hal:=Ja hS f5 m7
  have het:eY t=pre++iK t.acts:=by rw[<-hpre];rfl
  refine rZ hb hQ iW [] [(4, .a (.c (.p (.str (bx (bs pre))))))] [] ?_ ?_
  ·cbv
   repeat' (first
    |apply And.intro
    |(refine call (args':=[.c (.sl 1 0 0 2)]) hQ p1 [.all 1] ?_;rintro _ _ ⟨rfl,rfl⟩;cbv)
    |(refine call (args':=[.c (.sl 2 0 0 2)]) hQ p1 [.all 2] ?_;rintro _ _ ⟨rfl,rfl⟩;cbv)
    |(refine call (f:=22) hQ p2 [] ?_;rintro _ _ ⟨rfl,rfl⟩;cbv)
    |(refine call (args':=[.c (.sl 1 0 0 1)]) hQ p3 [.all 1] ?_;rintro _ _ ⟨rfl,rfl⟩;cbv)
    |(refine call (args':=[.c (.sl 2 0 0 1)]) hQ p3 [.all 2] ?_;rintro _ _ ⟨rfl,rfl⟩;cbv)
    |(refine chk (by simp only[hb,gU,<-gB,eG,List.length_append,decide_eq_true_eq];omega) ?_;cbv)
    |exact⟨ent [] [.all 0] (he:=by cbv;(repeat' (first|trivial|rfl|apply And.intro|(simp only[hb,<-hpre,gU,<-gB,List.append_assoc];done))))⟩)
  ·cbv
   refine loop hb (fun k=>k<=t.acts.length) (fun k=>t.acts.length-k) (fun k=>[(29, .a (.c (.p (.int .i64 (bx (Int.ofNat k)))))),(4, .a (.c (.p (.str (bx (bs (pre++iK (t.acts.take k))))))))]) (fun _=>[]) 0 (by omega) (ent [] [.all 0] (he:=by cbv;(repeat' (first|trivial|rfl|apply And.intro|(simp[hb,iK];done))))) fun k hI=>?_
   cbv
   refine⟨fun hd=>?_,fun hd=>?_⟩<;>simp only[hb,pl]at hd
   ·obtain⟨a,hx⟩: ∃a,t.acts[k]?=some a:=⟨_,List.getElem?_eq_getElem hd⟩
    have hma:=List.mem_of_getElem? hx
    have hsn:=RX hx
    have hle:=RU t.acts (k+1)
    rw[hsn,List.length_append]at hle
    obtain⟨g1,g2,g3,g4,g5,g6,g7,g8⟩:=f5 a hma
    have hmay:=List.all_eq_true.1 m7 a hma
    have hu:=uz hb (k:=k) (by omega)
    have w1:=yw (Dn g1 g2)
    have q64: ∀n∈[a.kind,a.n,a.m],aS n:=by
     intro n hn
     simp only[List.mem_cons,List.not_mem_nil,or_false]at hn
     rcases hn with rfl|rfl|rfl
     ·exact Dn g1 g2
     ·exact g3
     ·exact g4
    have x64: ∀n∈[a.part,a.key,a.val],aS n:=by
     intro n hn
     simp only[List.mem_cons,List.not_mem_nil,or_false]at hn
     rcases hn with rfl|rfl|rfl
     ·exact g5
     ·exact g6
     ·exact g7
    have hae:(kZ a).length=(aH [a.kind,a.n,a.m]).length+(if a.kind=0 then aH [a.part,a.key,a.val]else if a.kind=5 then sK a.j else[]).length:=by unfold kZ;rw[List.length_append]
    have w5:=yw g5
    cbv
    refine get (Ed bx a) (jZ hb oK rfl hx (yh hb a)) (chk (kC hb hd (by omega)) ?_)
    cbv
    refine call hQ (tH hb [bx a.kind,bx a.n,bx a.m] (by simp) (by simpa only[hb]using q64)) [.all 2] ?_ (hs:=by cbv;simp[hb,w1])
    rintro _ _ ⟨rfl,rfl⟩
    cbv
    refine chk (by simp only[hb,gU,<-gB,eG,List.length_append,decide_eq_true_eq];omega) ?_
    cbv
    refine⟨fun h0=>?_,fun h0=>?_⟩<;>simp only[hb,pl]at h0
    ·rw[if_pos h0]at hae
     have hpa:kZ a=aH [a.kind,a.n,a.m]++aH [a.part,a.key,a.val]:=by unfold kZ;rw[if_pos h0]
     cbv
     refine call hQ (tH hb [bx a.part,bx a.key,bx a.val] (by simp) (by simpa only[hb]using x64)) [.all 3] ?_
     rintro _ _ ⟨rfl,rfl⟩
     cbv
     refine chk (by simp only[hb,gU,<-gB,eG,List.length_append,decide_eq_true_eq];omega) ?_
     cbv
     exact⟨k+1,by omega,by omega,ent [] [.all 0] (he:=by cbv;(repeat' (first|trivial|rfl|apply And.intro|exact hu|(simp only[hb,hsn,hpa,gU,<-gB,List.append_assoc];done))))⟩
    ·rw[if_neg h0]at hae
     cbv
     refine⟨fun h5=>?_,fun h5=>?_⟩<;>simp only[hb,pl]at h5
     ·rw[if_pos h5]at hae
      have hpa:kZ a=aH [a.kind,a.n,a.m]++sK a.j:=by unfold kZ;rw[if_neg h0,if_pos h5]
      have hm5:=X4 hmay h5
      cbv
      refine call hQ (LJ hb a.j g8 hm5 (hS a.j g8 hm5)) [] ?_
      rintro _ _ ⟨rfl,rfl⟩
      cbv
      refine chk (by simp only[hb,gU,<-gB,eG,List.length_append,decide_eq_true_eq];omega) ?_
      cbv
      exact⟨k+1,by omega,by omega,ent [] [.all 0] (he:=by cbv;(repeat' (first|trivial|rfl|apply And.intro|exact hu|(simp only[hb,hsn,hpa,gU,<-gB,List.append_assoc];done))))⟩
     ·rw[if_neg h5]at hae
      have hpa:kZ a=aH [a.kind,a.n,a.m]:=by unfold kZ;rw[if_neg h0,if_neg h5,List.append_nil]
      cbv
      exact⟨k+1,by omega,by omega,ent [] [.all 0] (he:=by cbv;(repeat' (first|trivial|rfl|apply And.intro|exact hu|(simp only[hb,hsn,hpa,gU,<-gB,List.append_assoc];done))))⟩
   ·cbv
    have hk:k=t.acts.length:=by omega
    rw[hk,List.take_of_length_le (Nat.le_refl _)]
    exact hK _ _ (.aN [.c (.p (.str (bx (bs (eY t))))), .c (.p (.int .i64 0))]) [] (aZ [] [] (he:=by
     cbv
     rw[het]
     (repeat' (first|trivial|rfl|apply And.intro)))) ⟨rfl,by rw[if_pos h1]⟩
end
end Sx
end
section
namespace Sx
open Go Go.RowKit
def eX (l:List UInt8):Int×Nat×Int:=_root_.Go.Proofs.YtakhobfamnjnoaaGreatDoor.tk l
theorem aa0 (l:List UInt8):Uy (bs l)=eX l:=by unfold Uy eX;rw[aaB]
theorem Eu (l:List UInt8):(eX l).2.1<=l.length:=by
 by_cases h:(eX l).2.2=0
 ·exact(Y2 (l:=l) (n:=(eX l).1) (z:=(eX l).2.1) (by rw[<-h];rfl)).2.1
 ·have:eX l=(0,0,(eX l).2.2):=sZ l 0 0 h
  rw[this];exact Nat.zero_le _
theorem Pv (l:List UInt8):aS (eX l).1:=by
 by_cases h:(eX l).2.2=0
 ·exact(Y2 (l:=l) (n:=(eX l).1) (z:=(eX l).2.1) (by rw[<-h];rfl)).2.2.2
 ·have:eX l=(0,0,(eX l).2.2):=sZ l 0 0 h
  rw[this];unfold aS;omega
theorem XG (n:Int):aH [n]=iF (fQ n):=by simp[aH]
theorem iD (n:Int)(l:List Int):aH (n::l)=aH [n]++aH l:=by simp[aH]
theorem GU {n:Int}(h:aS n)(r:List UInt8):eX (aH [n]++r)=(n,(aH [n]).length,0):=by
 rw[XG];exact Pq h r
def fO (l:List UInt8):List UInt8×Nat×Int:=
 if(eX l).2.2≠0 then([],0,(eX l).2.2)else if(eX l).1<0 then([],0,21)else if 65536<(eX l).1 then([],0,3)
 else if Int.ofNat l.length-Int.ofNat (eX l).2.1<(eX l).1 then([],0,20)
 else((l.drop (eX l).2.1).take (eX l).1.toNat,(eX l).2.1+(eX l).1.toNat,0)
theorem yD (l:List UInt8):(fO l).2.1<=l.length/\(fO l).1.length<=l.length:=by
 have:=Eu l
 unfold fO
 split
 ·simp
 ·split
  ·simp
  ·split
   ·simp
   ·split
    ·simp
    ·rename_i h1 h2 h3 h4
     simp only[Int.ofNat_eq_natCast]at h4
     simp;omega
theorem IG {t:List UInt8}(ht:t.length<=65536)(r:List UInt8):fO (iJ t++r)=(t,(iJ t).length,0):=by
 have h64:aS (Int.ofNat t.length):=yM (by omega)
 have e:eX (iJ t++r)=(Int.ofNat t.length,(aH [Int.ofNat t.length]).length,0):=by
  unfold iJ
  rw[List.append_assoc]
  exact GU h64 _
 unfold fO
 rw[e]
 simp only[ne_eq,not_true,if_false]
 rw[if_neg (by simp),if_neg (by simp;omega),if_neg (by unfold iJ;simp;omega)]
 unfold iJ
 simp[List.drop_append,List.take_append]
abbrev St:=List UInt8×Int
def lH (st:St)(why:Int):St:=if st.2=0 then(st.1,why)else st
def aQ (st:St):Int×St:=if st.2=0 then((eX st.1).1,(st.1.drop (eX st.1).2.1,(eX st.1).2.2))else(0,st)
def bg (most:Int)(st:St):Int×St:=if(aQ st).1<0\/most<(aQ st).1 then(0,lH (aQ st).2 3)else aQ st
def aY (st:St):Int×St:=(IntKind.wrap .u8 (aQ st).1,if(aQ st).1<0\/255<(aQ st).1 then lH (aQ st).2 2 else(aQ st).2)
def textS (st:St):List UInt8×St:=if st.2=0 then((fO st.1).1,(st.1.drop (fO st.1).2.1,(fO st.1).2.2))else([],st)
def dD {α:Type}(f:St->α×St):Nat->St->List α×St
 |0,st=>([],st)
 |n+1,st=>((dD f n st).1++[(f (dD f n st).2).1],(f (dD f n st).2).2)
def dR:Nat->St->Ex×St
 |0,st=>(.mk 0 0 [],lH st 3)
 |k+1,st=>(.mk (aY st).1 (aQ (aY st).2).1 (dD (dR k) (bg 3 (aQ (aY st).2).2).1.toNat (bg 3 (aQ (aY st).2).2).2).1,(dD (dR k) (bg 3 (aQ (aY st).2).2).1.toNat (bg 3 (aQ (aY st).2).2).2).2)
def mD (st:St):JN×St:=
 let u:=textS st;let k:=aY u.2;let n:=aQ k.2;let c:=bg 12 n.2;let i:=dD aQ c.1.toNat c.2;let x:=dR 17 i.2
 ({uid:=bs u.1,kind:=k.1,n:=n.1,ins:=i.1,x:=x.1},x.2)
def bD:Nat->St->List JN×St
 |0,st=>([],st)
 |n+1,st=>if(bD n st).2.2≠0 then bD n st else((bD n st).1++[(mD (bD n st).2).1],(mD (bD n st).2).2)
def Ie (j:Jb)(st:St):St:=if(dV j).2=0 then(if st.1=[]then st else lH st 2)else lH (if st.1=[]then st else lH st 2) 2
def LM (j:Jb)(st:St):Jb×Int:=if st.2=0 then(j,0)else(zJ,st.2)
def pR (l:List UInt8):Jb×Int:=
 let p:=aQ (l,0);let c:=bg 12 p.2;let L:=bD c.1.toNat c.2;let j:Jb:=⟨p.1,L.1⟩
 LM j (Ie j L.2)
theorem H9 (st:St)(w:Int):(lH st w).1=st.1:=by unfold lH;split<;>rfl
theorem fZ (st:St):aS (aQ st).1/\(aQ st).2.1.length<=st.1.length:=by
 unfold aQ
 split
 ·exact⟨Pv _,by simp⟩
 ·exact⟨by unfold aS;simp,Nat.le_refl _⟩
theorem oN {m:Int}(hm:0<=m)(st:St):0<=(bg m st).1/\(bg m st).1<=m/\(bg m st).2.1.length<=st.1.length:=by
 have:=fZ st
 unfold bg
 split
 ·exact⟨Int.le_refl _,hm,by rw[H9];exact this.2⟩
 ·exact⟨by omega,by omega,this.2⟩
theorem tq (st:St):0<=(aY st).1/\(aY st).1<=255/\(aY st).2.1.length<=st.1.length:=by
 have:=fZ st
 have h:(aY st).1=(aQ st).1%256:=IntKind.wrap_u8 _
 refine⟨by rw[h];omega,by rw[h];omega,?_⟩
 unfold aY
 dsimp only
 split
 ·rw[H9];exact this.2
 ·exact this.2
theorem IE (st:St):(textS st).1.length<=st.1.length/\(textS st).2.1.length<=st.1.length:=by
 unfold textS
 split
 ·exact⟨(yD _).2,by simp⟩
 ·simp
theorem oQ {α:Type}{f:St->α×St}(hf: ∀st,(f st).2.1.length<=st.1.length): ∀(n:Nat)(st:St),(dD f n st).1.length=n/\(dD f n st).2.1.length<=st.1.length
 |0,_=>⟨rfl,Nat.le_refl _⟩
 |n+1,st=>by
  have ih:=oQ hf n st
  have:=hf (dD f n st).2
  exact⟨by simp[dD,ih.1],by simp only[dD];omega⟩
theorem Az {α:Type}{f:St->α×St}{p:α->Prop}(hf: ∀st,p (f st).1): ∀(n:Nat)(st:St),∀x∈(dD f n st).1,p x
 |0,_,_,h=>by simp[dD]at h
 |n+1,st,x,h=>by
  simp only[dD,List.mem_append,List.mem_singleton]at h
  rcases h with h|rfl
  ·exact Az hf n st x h
  ·exact hf _
theorem Gf: ∀{l:List Ex},(∀x∈l,iO x)->rX l
 |[],_=>trivial
 |x::l,h=>⟨h x (.head _),Gf fun y hy=>h y (.tail _ hy)⟩
theorem rO: ∀(k:Nat)(st:St),iO (dR k st).1/\(dR k st).2.1.length<=st.1.length
 |0,st=>⟨⟨by simp,by simp,by unfold aS;simp,by simp,trivial⟩,by simp[dR,H9]⟩
 |k+1,st=>by
  have h1:=tq st
  have h2:=fZ (aY st).2
  have h3:=oN (m:=3) (by omega) (aQ (aY st).2).2
  have h4:=oQ (fun st=>(rO k st).2) (bg 3 (aQ (aY st).2).2).1.toNat (bg 3 (aQ (aY st).2).2).2
  have h5:=Az (p:=iO) (fun st=>(rO k st).1) (bg 3 (aQ (aY st).2).2).1.toNat (bg 3 (aQ (aY st).2).2).2
  exact⟨⟨h1.1,h1.2.1,h2.1,by rw[h4.1];omega,Gf h5⟩,by simp only[dR];omega⟩
theorem Vz (st:St)(hl:st.1.length<=maxLen):kG (mD st).1/\(mD st).2.1.length<=st.1.length:=by
 have h1:=IE st
 have h2:=tq (textS st).2
 have h3:=fZ (aY (textS st).2).2
 have h4:=oN (m:=12) (by omega) (aQ (aY (textS st).2).2).2
 have h5:=oQ (fun st=>(fZ st).2) (bg 12 (aQ (aY (textS st).2).2).2).1.toNat (bg 12 (aQ (aY (textS st).2).2).2).2
 have h6:=Az (p:=aS) (fun st=>(fZ st).1) (bg 12 (aQ (aY (textS st).2).2).2).1.toNat (bg 12 (aQ (aY (textS st).2).2).2).2
 have h7:=rO 17 (dD aQ (bg 12 (aQ (aY (textS st).2).2).2).1.toNat (bg 12 (aQ (aY (textS st).2).2).2).2).2
 refine⟨⟨by show(dD aQ _ _).1.length<_;rw[h5.1];omega,h7.1,h6,h2.1,h2.2.1,h3.1,by show(bs _).size<=_;rw[eG];omega⟩,?_⟩
 show(dR 17 _).2.1.length<=_
 omega
theorem pK (st:St)(hl:st.1.length<=maxLen): ∀n,(∀d∈(bD n st).1,kG d)/\(bD n st).1.length<=n/\(bD n st).2.1.length<=st.1.length
 |0=>⟨by simp[bD],Nat.le_refl _,Nat.le_refl _⟩
 |n+1=>by
  obtain⟨h1,h2,h3⟩:=pK st hl n
  have h4:=Vz (bD n st).2 (by omega)
  simp only[bD]
  split
  ·exact⟨h1,by omega,h3⟩
  ·refine⟨fun d hd=>?_,by simp;omega,by dsimp only;omega⟩
   simp only[List.mem_append,List.mem_singleton]at hd
   rcases hd with hd|rfl
   ·exact h1 d hd
   ·exact h4.1
theorem Kz:gK zJ:=⟨by simp,by simp,by unfold aS;simp⟩
theorem Yh (l:List UInt8)(hl:l.length<=maxLen):gK (pR l).1:=by
 have h1:=fZ (l,0)
 have h2:=oN (m:=12) (by omega) (aQ (l,0)).2
 have h3:=pK (bg 12 (aQ (l,0)).2).2 (Nat.le_trans h2.2.2 (Nat.le_trans h1.2 hl)) (bg 12 (aQ (l,0)).2).1.toNat
 have hj:gK ⟨(aQ (l,0)).1,(bD (bg 12 (aQ (l,0)).2).1.toNat (bg 12 (aQ (l,0)).2).2).1⟩:=⟨by have:=h3.2.1;show(bD _ _).1.length<_;omega,h3.1,h1.1⟩
 unfold pR LM
 dsimp only
 split
 ·exact hj
 ·exact Kz
end Sx
end
end Go.Proofs.YtakhobfamnjnoaaGreatDoor
