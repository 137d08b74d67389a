/- The machine's steps. -/
import Derived.Test.YtakhobfamnjnoaaGreatDoorC38
set_option linter.unusedVariables false
set_option linter.unusedSimpArgs false
namespace Go.Proofs.YtakhobfamnjnoaaGreatDoor
section
namespace bU
open Go Go.RowKit
theorem aT {a b:Nat}(h:Nat.ble a b=true):a<=b:=Nat.le_of_ble_eq_true h
theorem Ag {a b:Nat}(h:a<=b):Nat.ble a b=true:=Nat.ble_eq_true_of_le h
theorem aQ {a b:Nat}(h:Nat.beq a b=true):a=b:=Nat.eq_of_beq_eq_true h
theorem qA {a b:Nat}(h:Nat.beq a b=false):a≠b:=fun e=>by subst e;simp at h
noncomputable def au {α:Type}(o:Option α)(k:α->Bool):Bool:=Option.casesOn o false k
theorem ah {α:Type}{o:Option α}{k:α->Bool}(h:au o k=true): ∃a,o=some a/\k a=true:=by
 cases o with
 |none=>cases h
 |some a=>exact⟨a,rfl,h⟩
noncomputable def iff (b:Bool)(k:Bool):Bool:=Bool.casesOn b false k
theorem aj {b k:Bool}(h:iff b k=true):b=true/\k=true:=by
 cases b with
 |false=>cases h
 |true=>exact⟨rfl,h⟩
noncomputable def aF {α:Type}(l:List α):Nat->Option α:=List.rec (motive:=fun _=>Nat->Option α) (fun _=>none) (fun a _ ih n=>Nat.casesOn n (some a) ih) l
theorem aJ {α:Type}(l:List α)(n:Nat):aF l n=l[n]?:=by
 induction l generalizing n with
 |nil=>rfl
 |cons a l ih=>cases n with
  |zero=>rfl
  |succ n=>show aF l n=_;rw[ih];simp
noncomputable def eo {α:Type}(l:List α):List α×List α:=List.rec ([],[]) (fun a _ ih=>(a::ih.2,ih.1)) l
theorem aal {α:Type}(l:List α): ∀k,(eo l).1[k]?=l[2*k]?/\(eo l).2[k]?=l[2*k+1]?:=by
 induction l with
 |nil=>intro k;simp[eo]
 |cons a l ih=>
  intro k
  refine⟨?_,?_⟩
  ·show(a::(eo l).2)[k]?=_
   cases k with
   |zero=>rfl
   |succ k=>rw[List.getElem?_cons_succ,(ih k).2,show 2*(k+1)=2*k+1+1 by omega,List.getElem?_cons_succ]
  ·show(eo l).1[k]?=_
   rw[(ih k).1,List.getElem?_cons_succ]
noncomputable def Tr.Zi {α:Type}(fuel:Nat):List α->Tr α:=Nat.rec (motive:=fun _=>List α->Tr α) (fun _=> .leaf) (fun _ ih l=>List.casesOn l .leaf fun a r=> .node (some a) (ih (eo r).1) (ih (eo r).2)) fuel
theorem Tr.U2 {α:Type}(fuel:Nat): ∀(l:List α)(n:Nat)(a:α),(Tr.Zi fuel l).get n=some a->l[n]?=some a:=by
 induction fuel with
 |zero=>intro l n a h;cases h
 |succ f ih=>
  intro l n a h
  cases l with
  |nil=>cases h
  |cons b r=>
   change(Tr.node (some b) (Tr.Zi f (eo r).1) (Tr.Zi f (eo r).2)).get n=some a at h
   cases n with
   |zero=>cases h;rfl
   |succ m=>
    rw[Tr.mP]at h
    rw[List.getElem?_cons_succ]
    split at h
    ·have:=ih _ _ _ h
     rw[(aal r _).1]at this
     rwa[show 2*(m/2)=m by omega]at this
    ·have:=ih _ _ _ h
     rw[(aal r _).2]at this
     rwa[show 2*(m/2)+1=m by omega]at this
noncomputable def aeC (P:Program):Tr TypeInfo:=Tr.Zi 12 P.types.toList
noncomputable def JX (P:Program):Tr Func:=Tr.Zi 12 P.funcs.toList
noncomputable def pX (P:Program)(t:TypeId):Option TypeInfo:=Option.casesOn ((aeC P).get t) (P.info? t) fun i=>some i
theorem aH (P:Program)(t:TypeId):pX P t=P.info? t:=by
 unfold pX
 cases h:(aeC P).get t with
 |none=>rfl
 |some i=>
  have e:=Tr.U2 _ _ _ _ h
  have e2:P.types[t]?=some i:=by simpa using e
  have h2:t<P.types.size:=(Array.getElem?_eq_some_iff.1 e2).1
  have:P.info? t=P.types[t]?:=by show(if t<P.types.size then P.types[t]? else _)=_;rw[if_pos h2]
  rw[this,e2]
noncomputable def dL (P:Program)(t:TypeId):Option TypeDesc:=match pX P t with
 |some {desc:= .named _ u, ..}=>(pX P u).map (·.desc)
 |some i=>some i.desc
 |none=>none
theorem aG (P:Program)(t:TypeId):dL P t=P.underlying t:=by
 unfold dL Program.underlying
 simp only[aH]
 cases P.info? t with
 |none=>rfl
 |some i=>obtain⟨desc⟩:=i;cases desc<;>rfl
noncomputable def fnL (P:Program)(f:FuncId):Option Func:=Option.casesOn ((JX P).get f) (P.funcs[f]?) fun i=>some i
theorem aW (P:Program)(f:FuncId):fnL P f=P.funcs[f]?:=by
 unfold fnL
 cases h:(JX P).get f with
 |none=>rfl
 |some i=>
  have e:=Tr.U2 _ _ _ _ h
  have e2:P.funcs[f]?=some i:=by simpa using e
  rw[e2]
noncomputable def llen {α:Type}(l:List α):Nat:=List.rec (motive:=fun _=>Nat) 0 (fun _ _ n=>Nat.succ n) l
theorem aI {α:Type}(l:List α):llen l=l.length:=by
 induction l with
 |nil=>rfl
 |cons a l ih=>exact congrArg Nat.succ ih
noncomputable def OQ {α:Type}(l:List α):Nat->α->(List α->Bool)->Bool:=
 List.rec (motive:=fun _=>Nat->α->(List α->Bool)->Bool) (fun _ _ _=>false) (fun a l ih n x k=>Nat.casesOn n (k (x::l)) fun m=>ih m x fun l=>k (a::l)) l
theorem Ht {α:Type}{l:List α}: ∀{n:Nat}{x:α}{k:List α->Bool},OQ l n x k=true->n<l.length/\k (l.set n x)=true:=by
 induction l with
 |nil=>intro n x k h;cases h
 |cons a l ih=>
  intro n x k h
  cases n with
  |zero=>exact⟨by simp,h⟩
  |succ n=>
   obtain⟨h1,h2⟩:=ih (k:=fun l=>k (a::l)) h
   exact⟨by simp;omega,h2⟩
noncomputable def W9 {α:Type}(xs:List α):List α->Nat->(List α->Bool)->Bool:=
 List.rec (motive:=fun _=>List α->Nat->(List α->Bool)->Bool) (fun l _ k=>k l) (fun x _ ih l n k=>OQ l n x fun l=>ih l (Nat.succ n) k) xs
def gB {α:Type}:List α->List α->Nat->List α
 |[],l,_=>l
 |x::xs,l,n=>gB xs (l.set n x) (n+1)
theorem QM {α:Type}{xs:List α}: ∀{l:List α}{n:Nat}{k:List α->Bool},W9 xs l n k=true->(xs=[]\/n+xs.length<=l.length)/\k (gB xs l n)=true:=by
 induction xs with
 |nil=>intro l n k h;exact⟨.inl rfl,h⟩
 |cons x xs ih=>
  intro l n k h
  obtain⟨h1,h2⟩:=Ht h
  obtain⟨h3,h4⟩:=ih h2
  refine⟨.inr ?_,h4⟩
  rcases h3 with rfl|h3
  ·simp;omega
  ·simp at h3⊢;omega
theorem qW {α:Type}: ∀(xs l:List α)(n:Nat),(gB xs l n).length=l.length
 |[],_,_=>rfl
 |x::xs,l,n=>by rw[gB,qW];simp
noncomputable def Ea (a:List Nat):List Nat->Bool:=
 List.rec (motive:=fun _=>List Nat->Bool) (fun b=>List.casesOn b true fun _ _=>false) (fun x _ ih b=>List.casesOn b false fun y b=>Bool.casesOn (Nat.beq x y) false (ih b)) a
theorem Ai (a b:List Nat):Ea a b=(a==b):=by
 induction a generalizing b with
 |nil=>cases b<;>rfl
 |cons x a ih=>
  cases b with
  |nil=>rfl
  |cons y b=>
   show(Bool.casesOn (Nat.beq x y) false (Ea a b):Bool)=_
   rw[List.cons_beq_cons,<-ih]
   have:(x==y)=Nat.beq x y:=by
    cases h:Nat.beq x y
    ·simp[qA h]
    ·simp[aQ h]
   rw[this]
   cases Nat.beq x y<;>rfl
noncomputable def ofC (v:Value):Option CV:=
 Value.casesOn v (fun b=>some (.bool b)) (fun k n=>some (.int k n)) (fun _ _=>none) (fun _ _ _=>none) (fun s=>some (.str (s.data.toList.map UInt8.toNat)))
  (fun a=>Option.casesOn a (some .nU) fun _=>none) (fun a l c=>Option.casesOn a (Nat.casesOn l (Nat.casesOn c (some .bZ) fun _=>none) fun _=>none) fun _=>none) (fun r=>Option.casesOn r (some .nV) fun _=>none) (fun r=>Option.casesOn r (some .uK) fun _=>none)
  (fun _ _ _=>none) (some .oQ) (fun _ _=>none) (some .qN) (fun _=>none) (fun _=>none)
noncomputable def fC (c:CV)(k:CV->Bool):Bool:=
 match c with
 | .bool b=>fB b fun b=>k (.bool b)
 | .int q n=>fI n fun n=>k (.int q n)
 | .str s=>Z8 s fun s=>k (.str s)
 |c=>k c
theorem XG (c:CV)(k:CV->Bool):fC c k=k c:=by cases c<;>simp[fC,XH,XF,RQ]
noncomputable def OM (l:List Value):(List CV->Bool)->Bool:=
 List.rec (motive:=fun _=>(List CV->Bool)->Bool) (fun k=>k []) (fun v _ ih k=>au (ofC v) fun c=>fC c fun c=>ih fun l=>k (c::l)) l
noncomputable def abh (v:Value)(k:RV->Bool):Bool:=
 match v with
 | .agg cs=>OM cs.toList fun l=>k (.agg l)
 | .tuple ts=>List.casesOn ts.toList (k .undef) fun _ _=>false
 |v=>au (ofC v) fun c=>fC c fun c=>k (.c c)
noncomputable def dN (g:Nat)(env:Env)(x:Operand)(k:RV->Bool):Bool:=
 match x with
 | .tmp t=>au (env.get t) k
 | .const v=>abh v k
 | .global i=>iff (Nat.ble (Nat.succ i) g) (k (.c (.ptr i 0)))
 | .func f=>k (.c (.fn f))
def ER (ρ:Ren)(env:Env)(tmps:Array Value):Prop:= ∀i v,env.get i=some v-> ∃x,tmps[i]?=some x/\GR ρ v x
section
variable {ρ ρ':Ren}
theorem agP (s:ByteArray):ba (s.data.toList.map UInt8.toNat)=s:=by
 unfold ba
 rw[List.map_map]
 have:UInt8.ofNat∘UInt8.toNat=id:=by funext b;simp
 rw[this,List.map_id]
theorem Yt (s:ByteArray):small (s.data.toList.map UInt8.toNat):=by
 intro b hb
 obtain⟨x,_,rfl⟩:=List.mem_map.1 hb
 exact x.toNat_lt
theorem Qx {v:Value}{c:CV}(h:ofC v=some c):G ρ c v:=by
 cases v with
 |bool b=>cases h;exact .bool _
 |int k n=>cases h;exact .int _ _
 |float=>cases h
 |complex=>cases h
 |string s=>
  cases h
  have:=G.str (ρ:=ρ) _ (Yt s)
  rwa[agP]at this
 |pointer a=>cases a<;>cases h;exact .nU
 |slice a l c'=>
  cases a with
  |some a=>cases h
  |none=>
   cases l with
   |succ l=>cases h
   |zero=>cases c' with
    |succ c=>cases h
    |zero=>cases h;exact .bZ
 |map r=>cases r<;>cases h;exact .nV
 |chan r=>cases r<;>cases h;exact .uK
 |func=>cases h
 |nilFunc=>cases h;exact .oQ
 |iface=>cases h
 |nilIface=>cases h;exact .qN
 |agg=>cases h
 |tuple=>cases h
theorem Qw {l:List Value}: ∀{k:List CV->Bool},OM l k=true-> ∃cs,k cs=true/\F2 (G ρ) cs l:=by
 induction l with
 |nil=>intro k h;exact⟨[],h, .nil⟩
 |cons v l ih=>
  intro k h
  obtain⟨c,hc,h⟩:=ah h
  rw[XG]at h
  obtain⟨cs,hk,hl⟩:=ih h
  exact⟨_,hk, .cons (Qx hc) hl⟩
theorem U1 {v:Value}{k:RV->Bool}(h:abh v k=true): ∃r,k r=true/\GR ρ r v:=by
 have gen: ∀v:Value,au (ofC v) (fun c=>fC c fun c=>k (.c c))=true-> ∃r,k r=true/\GR ρ r v:=fun v h=>by
  obtain⟨c,hc,h⟩:=ah h
  rw[XG]at h
  exact⟨_,h, .c (Qx hc)⟩
 cases v with
 |agg cs=>
  obtain⟨l,hk,hl⟩:=Qw (ρ:=ρ) (l:=cs.toList) (k:=fun l=>k (.agg l)) h
  have:=GR.agg hl
  exact⟨_,hk,by simpa using this⟩
 |tuple ts=>
  obtain⟨l⟩:=ts
  cases l with
  |nil=>exact⟨_,h, .aK .nil⟩
  |cons a l=>cases h
 |_=>exact gen _ h
theorem uf {g:Nat}(hg: ∀i,i<g-> ∃cap,ρ i=some (.blk i 0 cap)){env:Env}{a:Act}(hE:ER ρ env a.tmps){x:Operand}{k:RV->Bool}(h:dN g env x k=true):
 ∃r,k r=true/\GR ρ r (a.eval x):=by
 cases x with
 |tmp t=>
  obtain⟨r,hr,h⟩:=ah h
  obtain⟨x,hx,hG⟩:=hE t r hr
  refine⟨r,h,?_⟩
  have:a.eval (.tmp t)=x:=by simp[Act.eval,Array.getD_eq_getD_getElem?,hx]
  rw[this];exact hG
 |const v=>exact U1 h
 |global i=>
  obtain⟨hi,h⟩:=aj h
  obtain⟨cap,hc⟩:=hg i (aT hi)
  exact⟨_,h, .c (.ptr 0 hc)⟩
 |func f=>exact⟨_,h, .c (.fn f)⟩
end
noncomputable def sW (hb fb:Nat)(n:Int):Int:=
 Int.casesOn n (fun m=>Bool.casesOn (Nat.ble hb (Nat.mod m fb)) (Int.ofNat (Nat.mod m fb)) (Int.negSucc (Nat.sub (Nat.sub fb 1) (Nat.mod m fb))))
  (fun m=>Bool.casesOn (Nat.ble hb (Nat.mod m fb)) (Int.negSucc (Nat.mod m fb)) (Int.ofNat (Nat.sub (Nat.sub fb 1) (Nat.mod m fb))))
noncomputable def uW (fb:Nat)(n:Int):Int:=Int.casesOn n (fun m=>Int.ofNat (Nat.mod m fb)) (fun m=>Int.ofNat (Nat.sub (Nat.sub fb 1) (Nat.mod m fb)))
noncomputable def zS (k:IntKind):Int->Int:=
 IntKind.casesOn k (sW 128 256) (sW 32768 65536) (sW 2147483648 4294967296) (sW 9223372036854775808 18446744073709551616) (uW 256) (uW 65536) (uW 4294967296) (uW 18446744073709551616)
theorem OH (hb fb:Nat)(h:fb=2*hb)(h0:0<hb)(n:Int):sW hb fb n=(let m:=n%(fb:Int);if m>=(hb:Int)then m-fb else m):=by
 cases n with
 |ofNat m=>
  show(Bool.casesOn (Nat.ble hb (m%fb)) (Int.ofNat (m%fb)) (Int.negSucc (fb-1-m%fb)):Int)=_
  have h1:(Int.ofNat m)%(fb:Int)=((m%fb:Nat):Int):=rfl
  simp only[h1]
  have hlt:m%fb<fb:=Nat.mod_lt _ (by omega)
  cases hc:Nat.ble hb (m%fb)
  ·have: ¬hb<=m%fb:=fun h=>by rw[Ag h]at hc;cases hc
   rw[if_neg (by omega)];rfl
  ·have:=aT hc
   rw[if_pos (by omega)]
   show Int.negSucc (fb-1-m%fb)=_
   omega
 |negSucc m=>
  show(Bool.casesOn (Nat.ble hb (m%fb)) (Int.negSucc (m%fb)) (Int.ofNat (fb-1-m%fb)):Int)=_
  have hlt:m%fb<fb:=Nat.mod_lt _ (by omega)
  have h1:(Int.negSucc m)%(fb:Int)=((fb-1-m%fb:Nat):Int):=by
   rw[Int.negSucc_emod _ (by omega:(0:Int)<fb)]
   omega
  simp only[h1]
  cases hc:Nat.ble hb (m%fb)
  ·have: ¬hb<=m%fb:=fun h=>by rw[Ag h]at hc;cases hc
   rw[if_pos (by omega)]
   show Int.negSucc (m%fb)=_
   omega
  ·have:=aT hc
   rw[if_neg (by omega)];rfl
theorem Iy (fb:Nat)(h0:0<fb)(n:Int):uW fb n=n%(fb:Int):=by
 cases n with
 |ofNat m=>rfl
 |negSucc m=>
  have hlt:m%fb<fb:=Nat.mod_lt _ h0
  rw[Int.negSucc_emod _ (by omega:(0:Int)<fb)]
  show((fb-1-m%fb:Nat):Int)=_
  omega
theorem Ip (k:IntKind)(hs:k.signed=true)(hb fb:Nat)(h1:(2:Int)^k.bits=fb)(h2:(2:Int)^(k.bits-1)=hb)(n:Int):k.wrap n=(let m:=n%(fb:Int);if m>=(hb:Int)then m-fb else m):=by
 simp only[IntKind.wrap,hs,h1,h2,Bool.true_and,decide_eq_true_eq]
theorem ou (k:IntKind)(n:Int):zS k n=k.wrap n:=by
 cases k
 ·rw[Ip .i8 rfl 128 256 rfl rfl];exact OH 128 256 rfl (by omega) n
 ·rw[Ip .i16 rfl 32768 65536 rfl rfl];exact OH 32768 65536 rfl (by omega) n
 ·rw[Ip .i32 rfl 2147483648 4294967296 rfl rfl];exact OH 2147483648 4294967296 rfl (by omega) n
 ·rw[Ip .i64 rfl 9223372036854775808 18446744073709551616 rfl rfl];exact OH 9223372036854775808 18446744073709551616 rfl (by omega) n
 ·exact Iy 256 (by omega) n
 ·exact Iy 65536 (by omega) n
 ·exact Iy 4294967296 (by omega) n
 ·exact Iy 18446744073709551616 (by omega) n
noncomputable def Jy (a b:Int):Bool:=Int.casesOn a (fun m=>Int.casesOn b (fun n=>Nat.ble (Nat.succ m) n) fun _=>false) (fun m=>Int.casesOn b (fun _=>true) fun n=>Nat.ble (Nat.succ n) m)
noncomputable def uy (a b:Int):Bool:=Int.casesOn a (fun m=>Int.casesOn b (fun n=>Nat.beq m n) fun _=>false) (fun m=>Int.casesOn b (fun _=>false) fun n=>Nat.beq m n)
theorem vM (a b:Int):Jy a b=decide (a<b):=by
 have key: ∀m n:Nat,Nat.ble (Nat.succ m) n=decide (m<n):=fun m n=>by
  by_cases h:m<n
  ·simp only[h,decide_true];exact Ag h
  ·simp[h];cases hc:Nat.ble (m+1) n
   ·rfl
   ·exact absurd (aT hc) (by omega)
 cases a with
 |ofNat m=>cases b with
  |ofNat n=>show Nat.ble (Nat.succ m) n=_;rw[key];simp
  |negSucc n=>show false=_;simp;omega
 |negSucc m=>cases b with
  |ofNat n=>show true=_;simp;omega
  |negSucc n=>show Nat.ble (Nat.succ n) m=_;rw[key];simp;omega
theorem qg (a b:Int):uy a b=decide (a=b):=by
 have key: ∀m n:Nat,Nat.beq m n=decide (m=n):=fun m n=>by
  by_cases h:m=n
  ·subst h;simp
  ·simp[h];cases hc:Nat.beq m n
   ·rfl
   ·exact absurd (Nat.eq_of_beq_eq_true hc) h
 cases a with
 |ofNat m=>cases b with
  |ofNat n=>show Nat.beq m n=_;rw[key];simp;omega
  |negSucc n=>show false=_;simp
 |negSucc m=>cases b with
  |ofNat n=>show false=_;simp
  |negSucc n=>show Nat.beq m n=_;rw[key];simp
end bU
end
section
namespace bU
open Go Go.RowKit
noncomputable def mB (q:IntKind):Nat:=IntKind.casesOn q 256 65536 4294967296 18446744073709551616 256 65536 4294967296 18446744073709551616
noncomputable def uN (fb:Nat)(a:Int):Nat:=Int.casesOn a (fun m=>Nat.mod m fb) (fun m=>Nat.sub (Nat.sub fb 1) (Nat.mod m fb))
theorem acS (q:IntKind):mB q=2^q.bits:=by cases q<;>rfl
theorem Iz (q:IntKind)(a:Int):uN (mB q) a=(BitVec.ofInt q.bits a).toNat:=by
 have h0:0<mB q:=by cases q<;>decide
 have h:=Iy (mB q) h0 a
 have h1:((uN (mB q) a:Nat):Int)=uW (mB q) a:=by cases a<;>rfl
 rw[BitVec.toNat_ofInt,<-acS,<-h,<-h1]
 rfl
noncomputable def kI (q:IntKind)(k:RV->Bool)(n:Int):Bool:=fI n fun n=>k (.c (.int q n))
noncomputable def kB (k:RV->Bool)(b:Bool):Bool:=fB b fun b=>k (.c (.bool b))
noncomputable def acd (op:BinOp)(q:IntKind)(a b:Int)(k:RV->Bool):Bool:=
 match op with
 | .add=>kI q k (zS q (Int.add a b))
 | .sub=>kI q k (zS q (Int.sub a b))
 | .mul=>kI q k (zS q (Int.mul a b))
 | .quo=>iff (!uy b 0) (kI q k (zS q (Int.tdiv a b)))
 | .rem=>iff (!uy b 0) (kI q k (Int.tmod a b))
 | .and=>kI q k (zS q (Int.ofNat (Nat.land (uN (mB q) a) (uN (mB q) b))))
 | .or=>kI q k (zS q (Int.ofNat (Nat.lor (uN (mB q) a) (uN (mB q) b))))
 | .xor=>kI q k (zS q (Int.ofNat (Nat.xor (uN (mB q) a) (uN (mB q) b))))
 | .andNot=>kI q k (zS q (Int.ofNat (Nat.land (uN (mB q) a) (Nat.sub (Nat.sub (mB q) 1) (uN (mB q) b)))))
 | .eql=>kB k (uy a b)
 | .neq=>kB k (!uy a b)
 | .lss=>kB k (Jy a b)
 | .leq=>kB k (!Jy b a)
 | .gtr=>kB k (Jy b a)
 | .geq=>kB k (!Jy a b)
 |_=>false
noncomputable def shI (op:BinOp)(q:IntKind)(a:Int)(b:Int)(k:RV->Bool):Bool:=
 Int.casesOn b (fun m=>match op with
  | .shl=>kI q k (zS q (Int.mul a (Int.ofNat (Nat.pow 2 (Nat.min m q.bits)))))
  | .shr=>kI q k (Int.fdiv a (Int.ofNat (Nat.pow 2 (Nat.min m q.bits))))
  |_=>false) fun _=>false
section
variable {P:Program} {ρ:Ren}
abbrev Pu (P:Program)(ρ:Ren)(k:RV->Bool)(s:Sem Value):Prop:= ∃r x,k r=true/\GR ρ r x/\ ∀w,s.run P w= .ok x w
theorem eH {q:IntKind}{k:RV->Bool}{n:Int}{s:Sem Value}(h:kI q k n=true)(hs: ∀w,s.run P w= .ok (.int q n) w):Pu P ρ k s:=by
 rw[kI,XF]at h
 exact⟨_,_,h, .c (.int _ _),hs⟩
theorem dF {k:RV->Bool}{b:Bool}{s:Sem Value}(h:kB k b=true)(hs: ∀w,s.run P w= .ok (.bool b) w):Pu P ρ k s:=by
 rw[kB,XH]at h
 exact⟨_,_,h, .c (.bool _),hs⟩
theorem aen {op:BinOp}{t:TypeId}{q:IntKind}{a b:Int}{k:RV->Bool}(h:acd op q a b k=true):Pu P ρ k (binOp op t (.int q a) (.int q b)):=by
 cases op<;>simp only[acd]at h
 case add=>exact eH h fun w=>by simp[binOp,Op.intArith,ou];try rfl
 case sub=>exact eH h fun w=>by simp[binOp,Op.intArith,ou];try rfl
 case mul=>exact eH h fun w=>by simp[binOp,Op.intArith,ou];try rfl
 case quo=>
  obtain⟨h0,h⟩:=aj h
  have h0: ¬b=0:=by simpa[qg]using h0
  exact eH h fun w=>by simp[binOp,Op.intDiv,h0,ou]
 case rem=>
  obtain⟨h0,h⟩:=aj h
  have h0: ¬b=0:=by simpa[qg]using h0
  exact eH h fun w=>by simp[binOp,Op.intDiv,h0]
 case and=>exact eH h fun w=>by simp only[binOp,Op.intBits,ou,Iz,ne_eq,not_true,if_false];simp only[BitVec.toNat_and];rfl
 case or=>exact eH h fun w=>by simp only[binOp,Op.intBits,ou,Iz,ne_eq,not_true,if_false];simp only[BitVec.toNat_or];rfl
 case xor=>exact eH h fun w=>by simp only[binOp,Op.intBits,ou,Iz,ne_eq,not_true,if_false];simp only[BitVec.toNat_xor];rfl
 case andNot=>exact eH h fun w=>by simp only[binOp,Op.intBits,ou,Iz,ne_eq,not_true,if_false];simp only[BitVec.toNat_and,BitVec.toNat_not,acS];rfl
 case eql=>exact dF h fun w=>by simp[binOp,Op.intCmp,qg];try rfl
 case neq=>exact dF h fun w=>by simp[binOp,Op.intCmp,qg];try rfl
 case lss=>exact dF h fun w=>by simp[binOp,Op.intCmp,vM]
 case leq=>exact dF h fun w=>by simp only[binOp,Op.intCmp,vM,ne_eq,not_true,if_false,Sem.run_pure,Result.ok.injEq,and_true,Value.bool.injEq];by_cases h:b<a<;>simp[h]<;>omega
 case gtr=>exact dF h fun w=>by simp[binOp,Op.intCmp,vM]
 case geq=>exact dF h fun w=>by simp only[binOp,Op.intCmp,vM,ne_eq,not_true,if_false,Sem.run_pure,Result.ok.injEq,and_true,Value.bool.injEq];by_cases h:a<b<;>simp[h]<;>omega
 all_goals cases h
theorem Yy {op:BinOp}{t:TypeId}{q q':IntKind}{a b:Int}{k:RV->Bool}(hop:op= .shl\/op= .shr)(h:shI op q a b k=true):Pu P ρ k (binOp op t (.int q a) (.int q' b)):=by
 cases b with
 |negSucc m=>cases h
 |ofNat m=>
  have h0: ¬(Int.ofNat m<0):=by simp
  have hp:(Int.ofNat (Nat.pow 2 (Nat.min m q.bits)))=(2:Int)^(min m q.bits):=by
   show((2^(min m q.bits):Nat):Int)=_
   push_cast;rfl
  rcases hop with rfl|rfl
  ·exact eH h fun w=>by rw[hp];simp[binOp,Op.shift,ou];intro hh;omega
  ·exact eH h fun w=>by rw[hp];simp[binOp,Op.shift];intro hh;omega
end
noncomputable def aaR (op:BinOp)(a b:List Nat)(k:RV->Bool):Bool:=
 match op with
 | .add=>iff (Nat.ble (Nat.add (llen a) (llen b)) 1099511627776) (fL (a++b) fun s=>k (.c (.str s)))
 | .eql=>kB k (Ea a b)
 | .neq=>kB k (!Ea a b)
 |_=>false
noncomputable def jH (x:Operand):Bool:=match x with| .const _=>true|_=>false
noncomputable def Ko (d:TypeDesc)(con:Bool)(a b:CV):Option Bool:=
 match a,b with
 | .bool x, .bool y=>(match d with| .bool=>some (x==y)|_=>none)
 | .nU, .nU=>(match d with| .pointer _=>some true|_=>none)
 | .nU, .ptr _ _=>(match d with| .pointer _=>some false|_=>none)
 | .ptr _ _, .nU=>(match d with| .pointer _=>some false|_=>none)
 | .bZ, .bZ=>(match d with| .slice _=>some true|_=>none)
 | .bZ, .sl .. =>(match d with| .slice _=>some false|_=>none)
 | .sl .., .bZ=>(match d with| .slice _=>some false|_=>none)
 | .nV, .nV=>(match d with| .map .. =>some true|_=>none)
 | .nV, .mp _=>(match d with| .map .. =>some false|_=>none)
 | .mp _, .nV=>(match d with| .map .. =>some false|_=>none)
 | .oQ, .oQ=>(match d with| .func .. =>some true|_=>none)
 | .oQ, .fn _=>(match d with| .func .. =>some false|_=>none)
 | .oQ, .clo _=>(match d with| .func .. =>some false|_=>none)
 | .fn _, .oQ=>(match d with| .func .. =>some false|_=>none)
 | .clo _, .oQ=>(match d with| .func .. =>some false|_=>none)
 | .qN, .qN=>(match d with| .interface _=>if con then some true else none|_=>none)
 | .qN, .gY _=>(match d with| .interface _=>some false|_=>none)
 | .gY _, .qN=>(match d with| .interface _=>some false|_=>none)
 |_,_=>none
noncomputable def Ld (a b:CV):Bool:=match a,b with
 | .ptr i o, .ptr j p=>Nat.beq i j&&Nat.beq o p
 |_,_=>false
noncomputable def ab4 (P:Program)(op:BinOp)(t:TypeId)(con:Bool)(a b:CV)(k:RV->Bool):Bool:=
 match op with
 | .eql=>au (dL P t) fun d=>au (Ko d con a b) fun r=>kB k r
 | .neq=>au (dL P t) fun d=>au (Ko d con a b) fun r=>kB k (!r)
 |_=>false
noncomputable def eqK (P:Program)(op:BinOp)(t:TypeId)(con:Bool)(a b:CV)(k:RV->Bool):Bool:=
 Bool.casesOn (Ld a b) (ab4 P op t con a b k) (au (dL P t) fun d=>(match d with
  | .pointer te=>au (pX P te) fun _=>(match op with| .eql=>kB k true| .neq=>kB k false|_=>false)
  |_=>false))
noncomputable def XY (P:Program)(t:TypeId):Option Nat:=match dL P t with
 |some (.array n e)=>(match dL P e,pX P t,pX P e with
  |some (.int _),some i,some j=>Bool.casesOn (Nat.beq i.size n) none (Bool.casesOn (Nat.beq j.size 1) none (some n))
  |_,_,_=>none)
 |_=>none
noncomputable def Ia (a b:List CV)(off:Nat)(is:List Nat):Option Bool:=List.rec (motive:=fun _=>Option Bool) (some true) (fun i _ rest=>match aF a (Nat.add off i),aF b (Nat.add off i)with
 |some (.int q x),some (.int q' y)=>if q=q' then Bool.casesOn (uy x y) (some false) rest else none
 |_,_=>none) is
noncomputable def CG (P:Program)(a b:List CV)(fs:List Field):Option Bool:=
 List.rec (motive:=fun _=>Option Bool) (some true) (fun f _ rest=>
  if f.name≠ "_" then
   match aF a f.offset,aF b f.offset,dL P f.type with
   |some (.int q x),some (.int q' y),some (.int _)=>if q=q' then Bool.casesOn (uy x y) (some false) rest else none
   |some (.str x),some (.str y),some .string=>Bool.casesOn (Ea x y) (some false) rest
   |some (.bool x),some (.bool y),some .bool=>Bool.casesOn (x==y) (some false) rest
   |_,_,_=>(match XY P f.type with
    |some n=>(match Ia a b f.offset (List.range n)with|some true=>rest|some false=>some false|none=>none)
    |none=>none)
  else none) fs
noncomputable def adg (P:Program)(op:BinOp)(t:TypeId)(a b:List CV)(k:RV->Bool):Bool:=
 iff (!P.stoodInHeld t) (iff (!P.eqGuardType P.depth t) (match dL P t with
  |some (.struct fs)=>au (CG P a b fs.toList) fun r=>(match op with| .eql=>kB k r| .neq=>kB k (!r)|_=>false)
  |_=>false))
noncomputable def ab9 (P:Program)(op:BinOp)(t:TypeId)(con:Bool)(x y:RV)(k:RV->Bool):Bool:=
 match x,y with
 | .c a, .c b=>(match a,b with
   | .int q m, .int q' n=>(match op with
     | .shl=>shI .shl q m n k
     | .shr=>shI .shr q m n k
     |op=>iff (decide (q=q')) (acd op q m n k))
   | .str m, .str n=>aaR op m n k
   |a,b=>eqK P op t con a b k)
 | .agg a, .agg b=>adg P op t a b k
 |_,_=>false
section
variable {P:Program} {ρ:Ren}
theorem Dy {a b:List Nat}(ha:small a)(hb:small b):(ba a==ba b)=(a==b):=by
 have inj: ∀{a b:List Nat},small a->small b->a.map UInt8.ofNat=b.map UInt8.ofNat->a=b:=by
  intro a
  induction a with
  |nil=>intro b _ _ h;cases b with
   |nil=>rfl
   |cons=>simp at h
  |cons x a ih=>
   intro b ha hb h
   cases b with
   |nil=>simp at h
   |cons y b=>
    simp at h
    have hx:=ha x (by simp)
    have hy:=hb y (by simp)
    have h1:x=y:=by
     have:=congrArg UInt8.toNat h.1
     simpa[UInt8.toNat_ofNat',Nat.mod_eq_of_lt hx,Nat.mod_eq_of_lt hy]using this
    rw[h1,ih (fun b hb=>ha b (by simp[hb])) (fun c hc=>hb c (by simp[hc])) h.2]
 rw[beq_toListBytes,ByteArray.toList_eq,ByteArray.toList_eq]
 have e: ∀l:List Nat,(ba l).data.toList=l.map UInt8.ofNat:=fun l=>by simp[ba]
 rw[e,e]
 by_cases h:a=b
 ·subst h;simp
 ·have h1:a.map UInt8.ofNat≠b.map UInt8.ofNat:=fun e=>h (inj ha hb e)
  rw[beq_false_of_ne h,beq_false_of_ne h1]
theorem lQ (a:List Nat):(ba a).size=a.length:=by simp[ba,ByteArray.size]
theorem aaz (a b:List Nat):ba a++ba b=ba (a++b):=by
 apply ByteArray.ext
 simp[ba]
theorem PS {a b:List Nat}(ha:small a)(hb:small b):small (a++b):=fun x hx=>by
 rcases List.mem_append.1 hx with h|h
 ·exact ha x h
 ·exact hb x h
theorem adv {op:BinOp}{t:TypeId}{a b:List Nat}{k:RV->Bool}(ha:small a)(hb:small b)(h:aaR op a b k=true):Pu P ρ k (binOp op t (.string (ba a)) (.string (ba b))):=by
 have he:((ba a).toList==(ba b).toList)=Ea a b:=by rw[<-beq_toListBytes,Dy ha hb,Ai]
 cases op<;>simp only[aaR]at h
 case add=>
  obtain⟨h0,h⟩:=aj h
  have h0:=aT h0
  rw[aI,aI]at h0
  rw[iF]at h
  refine⟨_,_,h, .c (.str _ (PS ha hb)),fun w=>?_⟩
  show(Op.stringOp .add (ba a) (ba b)).run P w=_
  rw[run_string_add_sum w (ba a) (ba b) (by rw[lQ,lQ];exact Nat.le_trans h0 (by omega)),aaz]
 case eql=>exact dF h fun w=>by show(Op.stringOp .eql (ba a) (ba b)).run P w=_;simp[Op.stringOp,he]
 case neq=>exact dF h fun w=>by show(Op.stringOp .neq (ba a) (ba b)).run P w=_;simp[Op.stringOp,he]
 all_goals cases h
theorem agn {t:TypeId}{d:TypeDesc}(hd:P.underlying t=some d){con:Bool}{a b:CV}{r:Bool}{x y:Value}(h:Ko d con a b=some r)(hx:G ρ a x)(hy:G ρ b y)(n:Nat)(w:World):
 (Op.equalIn (n+1) t x y).run P w= .ok r w:=by
 unfold Ko at h
 (repeat' split at h)<;>(try cases h)<;>cases hx<;>cases hy<;>simp[Op.equalIn,run_underlying hd]
theorem agm {t:TypeId}{d:TypeDesc}(hd:P.underlying t=some d){con:Bool}{a b:CV}{r:Bool}{x y:Value}(h:Ko d con a b=some r)(hx:G ρ a x)(hy:G ρ b y)(w:World):
 (Op.equal t x y).run P w= .ok r w:=agn hd h hx hy 9999 w
theorem zG {op:BinOp}{t:TypeId}{xo yo:Operand}{a b:CV}{x y:Value}(hx:G ρ a x)(hy:G ρ b y)(h:x≠ .nilIface\/y≠ .nilIface\/(jH xo||jH yo)=true)(w:World):(eqGuard op t xo yo x y).run P w= .ok () w:=by
 by_cases hxn:x= .nilIface
 ·by_cases hyn:y= .nilIface
  ·have h:(jH xo||jH yo)=true:=by
    rcases h with h|h|h
    ·exact absurd hxn h
    ·exact absurd hyn h
    ·exact h
   subst hxn hyn
   cases op<;>first|rfl|(cases xo<;>cases yo<;>first|rfl|(simp[jH]at h))
  ·subst hxn
   cases hy<;>first|exact absurd rfl hyn|(cases op<;>rfl)
 ·cases hx<;>first|exact absurd rfl hxn|(cases op<;>first|rfl|(cases hy<;>rfl))
theorem ad8 {op:BinOp}{t:TypeId}{xo yo:Operand}{a b:CV}{x y:Value}{k:RV->Bool}(hx:G ρ a x)(hy:G ρ b y)(hk:ab4 P op t (jH xo||jH yo) a b k=true):
 Pu P ρ k (do eqGuard op t xo yo x y;binOp op t x y):=by
 have core: ∀{d:TypeDesc}{r:Bool},P.underlying t=some d->Ko d (jH xo||jH yo) a b=some r->(∀w,(eqGuard op t xo yo x y).run P w= .ok () w)/\
  (∀w,(binOp .eql t x y).run P w= .ok (.bool r) w)/\(∀w,(binOp .neq t x y).run P w= .ok (.bool !r) w):=fun{d r} hd hr=>by
  have he:=fun w=>agm hd hr hx hy w
  refine⟨fun w=>zG hx hy ?_ w,fun w=>?_,fun w=>?_⟩
  ·by_cases hc:(jH xo||jH yo)=true
   ·exact .inr (.inr hc)
   ·have hc:(jH xo||jH yo)=false:=by simpa using hc
    rw[hc]at hr
    unfold Ko at hr
    (repeat' split at hr)<;>(try cases hr)<;>cases hx<;>cases hy<;>first|(simp;done)|simp_all
  ·have he:=he w
   unfold Ko at hr
   (repeat' split at hr)<;>(try cases hr)<;>cases hx<;>cases hy<;>simp only[binOp,Sem.run_bind,he,Result.andThen_ok,Sem.run_pure]
  ·have he:=he w
   unfold Ko at hr
   (repeat' split at hr)<;>(try cases hr)<;>cases hx<;>cases hy<;>simp only[binOp,Sem.run_bind,he,Result.andThen_ok,Sem.run_pure]
 unfold ab4 at hk
 split at hk
 ·obtain⟨d,hd,hk⟩:=ah hk
  try simp only[aG,aH,aW]at hd
  obtain⟨r,hr,hk⟩:=ah hk
  obtain⟨h1,h2,_⟩:=core hd hr
  exact dF hk fun w=>by simp only[Sem.run_bind,h1,Result.andThen_ok,h2]
 ·obtain⟨d,hd,hk⟩:=ah hk
  try simp only[aG,aH,aW]at hd
  obtain⟨r,hr,hk⟩:=ah hk
  obtain⟨h1,_,h2⟩:=core hd hr
  exact dF hk fun w=>by simp only[Sem.run_bind,h1,Result.andThen_ok,h2]
 ·cases hk
theorem agl {op:BinOp}{t:TypeId}{xo yo:Operand}{a b:CV}{x y:Value}{k:RV->Bool}(hx:G ρ a x)(hy:G ρ b y)(hk:eqK P op t (jH xo||jH yo) a b k=true):
 Pu P ρ k (do eqGuard op t xo yo x y;binOp op t x y):=by
 unfold eqK at hk
 cases hs:Ld a b with
 |false=>rw[hs]at hk;exact ad8 hx hy hk
 |true=>
  rw[hs]at hk
  obtain⟨d,hd,hk1⟩:=ah hk
  try simp only[aG,aH,aW]at hd
  split at hk1
  case h_2=>cases hk1
  rename_i te
  obtain⟨j,hj,hk2⟩:=ah hk1
  try simp only[aG,aH,aW]at hj
  unfold Ld at hs
  split at hs
  case h_2=>cases hs
  rename_i i o i' o'
  rw[Bool.and_eq_true]at hs
  have e1:=aQ hs.1
  have e2:=aQ hs.2
  subst e1 e2
  have hg: ∀w,(eqGuard op t xo yo x y).run P w= .ok () w:=fun w=>zG hx hy (.inl (by cases hx;simp)) w
  cases hx with
  |ptr _ hr=>cases hy with
   |ptr _ hr'=>
    rw[hr]at hr';cases hr'
    rename_i bk base cap
    have h: ∀(m:Nat) w,(Op.equalIn (m+1) t (.pointer (some ⟨bk,base+o,none⟩)) (.pointer (some ⟨bk,base+o,none⟩))).run P w= .ok true w:=fun m w=>by
     simp[Op.equalIn,run_underlying hd,sizeOf,typeInfo,hj,run_sameAddr_same]
    split at hk2
    ·exact dF hk2 fun w=>by simp only[Sem.run_bind,hg,Result.andThen_ok,binOp];simp[Op.equal,Op.maxDepth,h 9999]
    ·exact dF hk2 fun w=>by simp only[Sem.run_bind,hg,Result.andThen_ok,binOp];simp[Op.equal,Op.maxDepth,h 9999]
    ·cases hk2
theorem SQ {t:TypeId}{n:Nat}(h:XY P t=some n): ∃e q i j,P.underlying t=some (.array n e)/\P.underlying e=some (.int q)/\P.info? t=some i/\i.size=n/\P.info? e=some j/\j.size=1:=by
 unfold XY at h
 simp only[aG,aH]at h
 split at h
 ·rename_i m e hu
  split at h
  ·rename_i q i j he hi hj
   cases h1:Nat.beq i.size m with
   |false=>rw[h1]at h;cases h
   |true=>
    rw[h1]at h
    cases h2:Nat.beq j.size 1 with
    |false=>rw[h2]at h;cases h
    |true=>
     rw[h2]at h
     cases h
     exact⟨e,q,i,j,hu,he,hi,aQ h1,hj,aQ h2⟩
  ·cases h
 ·cases h
theorem yI {t e:TypeId}{n:Nat}{i:TypeInfo}(hu:P.underlying t=some (.array n e))(hi:P.info? t=some i)(hs:i.size=n)(xs:Array Value)(off:Nat)(w:World):(part t xs off).run P w= .ok (.agg (xs.extract off (off+n))) w:=by
 simp[part,isAgg,run_underlying hu,sizeOf,typeInfo,hi,hs]
theorem Ij {e:TypeId}{q:IntKind}(he:P.underlying e=some (.int q)){a:List CV}{xs:List Value}(hx:F2 (G ρ) a xs){off n i:Nat}(hin:i<n){q':IntKind}{x:Int}(hv:aF a (Nat.add off i)=some (.int q' x))(w:World):(part e (xs.toArray.extract off (off+n)) i).run P w= .ok (.int q' x) w:=by
 rw[aJ]at hv
 obtain⟨z,h1,h2⟩:=fO hx hv
 cases h2
 have h1:xs[off+i]?=some (Value.int q' x):=h1
 have:(xs.toArray.extract off (off+n))[i]?=some (Value.int q' x):=by
  have hlt:=(List.getElem?_eq_some_iff.1 h1).1
  rw[Array.getElem?_extract]
  rw[if_pos (by simp;omega)]
  simpa using h1
 generalize xs.toArray.extract off (off+n)=zs at this⊢
 simp[part,isAgg,run_underlying he,this]
theorem VF {e:TypeId}{q:IntKind}(he:P.underlying e=some (.int q)){a b:List CV}{xs ys:List Value}(hx:F2 (G ρ) a xs)(hy:F2 (G ρ) b ys)(off n d:Nat)(w:World): ∀{is:List Nat}{r:Bool},(∀i∈is,i<n)->Ia a b off is=some r->
 (Op.eqItems (d+1) e 1 (xs.toArray.extract off (off+n)) (ys.toArray.extract off (off+n)) is).run P w= .ok r w
 |[],r,_,h=>by cases h;simp[Op.eqItems]
 |i::is,r,hall,h=>by
  change(match aF a (Nat.add off i),aF b (Nat.add off i)with|some (.int q x),some (.int q' y)=>if q=q' then Bool.casesOn (uy x y) (some false) (Ia a b off is)else none|_,_=>none)=some r at h
  split at h
  ·rename_i q1 x q2 y e1 e2
   split at h
   ·rename_i hq
    subst hq
    have hi:=hall i (by simp)
    have p1:=Ij he hx hi e1 w
    have p2:=Ij he hy hi e2 w
    have p3:(Op.equalIn (d+1) e (.int q1 x) (.int q1 y)).run P w= .ok (uy x y) w:=by simp[Op.equalIn,run_underlying he,qg];try rfl
    unfold Op.eqItems
    rw[Nat.mul_one]
    simp only[Sem.run_bind,p1,p2,p3,Result.andThen_ok]
    cases hb:uy x y with
    |false=>rw[hb]at h;cases h;simp
    |true=>rw[hb]at h;rw[if_neg (by simp)];exact VF he hx hy off n d w (fun i hi=>hall i (by simp[hi])) h
   ·cases h
  ·cases h
theorem LY {a b:List CV}{xs ys:List Value}(hx:F2 (G ρ) a xs)(hy:F2 (G ρ) b ys)(n:Nat)(w:World): ∀{fs:List Field}{r:Bool},CG P a b fs=some r->(Op.eqFields (n+2) xs.toArray ys.toArray fs).run P w= .ok r w
 |[],r,h=>by cases h;simp[Op.eqFields]
 |f::fs,r,h=>by
  change(if f.name≠ "_" then _ else none)=some r at h
  split at h
  ·rename_i hn
   have y7: ∀{zs:List Value}{c:List CV}{v:CV}{d:TypeDesc},F2 (G ρ) c zs->aF c f.offset=some v->P.underlying f.type=some d->(d= .bool\/d= .string\/ ∃q,d= .int q)-> ∃z,G ρ v z/\(part f.type zs.toArray f.offset).run P w= .ok z w:=fun{zs c v d} hz hv hd hs=>by
    rw[aJ]at hv
    obtain⟨z,h1,h2⟩:=fO hz hv
    refine⟨z,h2,?_⟩
    rcases hs with rfl|rfl|⟨q,rfl⟩<;>simp[part,isAgg,run_underlying hd,h1]
   have fin: ∀{z z':Value}{e:Bool},(part f.type xs.toArray f.offset).run P w= .ok z w->(part f.type ys.toArray f.offset).run P w= .ok z' w->(Op.equalIn (n+2) f.type z z').run P w= .ok e w->
    (Bool.casesOn (motive:=fun _=>Option Bool) e (some false) (CG P a b fs))=some r->(Op.eqFields (n+2) xs.toArray ys.toArray (f::fs)).run P w= .ok r w:=fun{z z' e} h1 h2 h3 h4=>by
    unfold Op.eqFields
    rw[if_pos hn]
    simp only[Sem.run_bind,h1,Result.andThen_ok,h2,h3]
    cases e with
    |false=>cases h4;simp
    |true=>simp;exact LY hx hy n w h4
   split at h
   ·rename_i q x q' y q'' e1 e2 e3
    rw[aG]at e3
    obtain⟨z,hz,hz1⟩:=y7 hx e1 e3 (.inr (.inr ⟨_,rfl⟩))
    obtain⟨z',hz',hz2⟩:=y7 hy e2 e3 (.inr (.inr ⟨_,rfl⟩))
    cases hz;cases hz'
    split at h
    ·rename_i hq
     subst hq
     exact fin hz1 hz2 (by simp[Op.equalIn,run_underlying e3,qg];try rfl) h
    ·cases h
   ·rename_i x y e1 e2 e3
    rw[aG]at e3
    obtain⟨z,hz,hz1⟩:=y7 hx e1 e3 (.inr (.inl rfl))
    obtain⟨z',hz',hz2⟩:=y7 hy e2 e3 (.inr (.inl rfl))
    cases hz with
    |str _ s1=>cases hz' with
     |str _ s2=>exact fin hz1 hz2 (by simp[Op.equalIn,run_underlying e3,Dy s1 s2,Ai]) h
   ·rename_i x y e1 e2 e3
    rw[aG]at e3
    obtain⟨z,hz,hz1⟩:=y7 hx e1 e3 (.inl rfl)
    obtain⟨z',hz',hz2⟩:=y7 hy e2 e3 (.inl rfl)
    cases hz;cases hz'
    exact fin hz1 hz2 (by simp[Op.equalIn,run_underlying e3]) h
   ·split at h
    ·rename_i m hm
     obtain⟨e,q,i,j,hu,he,hi,hs,hj,hs1⟩:=SQ hm
     have hc:P.cellsOf e=1:=by
      have h1:=run_sizeOf w hj
      have h2:(sizeOf e).run P w= .ok 1 w:=by simp[sizeOf,typeInfo,hj,hs1]
      rw[h2]at h1
      injection h1 with h1
      exact h1.symm
     have key: ∀{r:Bool},Ia a b f.offset (List.range m)=some r->(Op.equalIn (n+2) f.type (.agg (xs.toArray.extract f.offset (f.offset+m))) (.agg (ys.toArray.extract f.offset (f.offset+m)))).run P w= .ok r w:=fun hr=>by
      rw[show n+2=(n+1)+1 from rfl,run_equalIn_array w (n+1) _ _ hu hj,hc]
      exact VF he hx hy f.offset m n w (fun i hi=>List.mem_range.1 hi) hr
     split at h
     ·rename_i hr;exact fin (yI hu hi hs _ _ w) (yI hu hi hs _ _ w) (key hr) h
     ·rename_i hr;exact fin (yI hu hi hs _ _ w) (yI hu hi hs _ _ w) (key hr) h
     ·cases h
    ·cases h
  ·cases h
theorem acn {op:BinOp}{t:TypeId}{xo yo:Operand}{a b:List CV}{xs ys:List Value}{k:RV->Bool}(hx:F2 (G ρ) a xs)(hy:F2 (G ρ) b ys)(hk:adg P op t a b k=true):
 Pu P ρ k (do eqGuard op t xo yo (.agg xs.toArray) (.agg ys.toArray);binOp op t (.agg xs.toArray) (.agg ys.toArray)):=by
 obtain⟨h1,hk⟩:=aj hk
 obtain⟨h2,hk⟩:=aj hk
 have h1:P.stoodInHeld t=false:=by simpa using h1
 have h2:P.eqGuardType P.depth t=false:=by simpa using h2
 split at hk
 ·rename_i fs hd
  simp only[aG]at hd
  obtain⟨r,hr,hk⟩:=ah hk
  have hf:P.fieldsOf t=fs:=by simp[Program.fieldsOf,hd]
  have he: ∀w,(Op.equalIn 10000 t (.agg xs.toArray) (.agg ys.toArray)).run P w= .ok r w:=fun w=>by
   rw[run_equalIn_struct w 9999 t _ _ (by rw[hf];exact hd) h1,hf]
   exact LY hx hy 9997 w hr
  have hg: ∀w,(eqGuard op t xo yo (.agg xs.toArray) (.agg ys.toArray)).run P w= .ok () w:=fun w=>run_eqGuard_agg w op t xo yo _ _ h2
  split at hk
  ·exact dF hk fun w=>by simp only[Sem.run_bind,hg,Result.andThen_ok,run_eql_struct,he]
  ·exact dF hk fun w=>by simp only[Sem.run_bind,hg,Result.andThen_ok,run_neq_struct,he]
  ·cases hk
 ·cases hk
theorem aem {op:BinOp}{t:TypeId}{xo yo:Operand}{x y:RV}{vx vy:Value}{k:RV->Bool}(hx:GR ρ x vx)(hy:GR ρ y vy)(hk:ab9 P op t (jH xo||jH yo) x y k=true):
 Pu P ρ k (do eqGuard op t xo yo vx vy;binOp op t vx vy):=by
 have plain: ∀{a b:CV},G ρ a vx->G ρ b vy->vx≠ .nilIface->Pu P ρ k (binOp op t vx vy)->Pu P ρ k (do eqGuard op t xo yo vx vy;binOp op t vx vy):=fun ha hb hn ⟨r,v,h1,h2,h3⟩=>
  ⟨r,v,h1,h2,fun w=>by simp only[Sem.run_bind,zG ha hb (.inl hn) w,Result.andThen_ok,h3]⟩
 unfold ab9 at hk
 split at hk
 ·cases hx with
  |c hx=>cases hy with
   |c hy=>
    split at hk
    ·cases hx;cases hy
     refine plain (.int _ _) (.int _ _) (by simp) ?_
     split at hk
     ·exact Yy (.inl rfl) hk
     ·exact Yy (.inr rfl) hk
     ·obtain⟨hq,hk2⟩:=aj hk
      have hq:=of_decide_eq_true hq
      subst hq
      exact aen hk2
    ·cases hx with
     |str _ h1=>cases hy with
      |str _ h2=>exact plain (.str _ h1) (.str _ h2) (by simp) (adv h1 h2 hk)
    ·exact agl hx hy hk
 ·cases hx with
  |agg hx=>cases hy with
   |agg hy=>exact acn hx hy hk
 ·cases hk
end
end bU
end
end Go.Proofs.YtakhobfamnjnoaaGreatDoor
