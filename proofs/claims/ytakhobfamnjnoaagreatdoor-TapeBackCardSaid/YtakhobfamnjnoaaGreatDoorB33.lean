/- The machine's steps. -/
import Derived.Test.YtakhobfamnjnoaaGreatDoorB32
set_option linter.unusedVariables false
set_option linter.unusedSimpArgs false
namespace Go.Proofs.YtakhobfamnjnoaaGreatDoor
namespace bC
open Go Go.RowKit
theorem aK {a b:Nat}(h:Nat.ble a b=true):a<=b:=Nat.le_of_ble_eq_true h
theorem xI {a b:Nat}(h:a<=b):Nat.ble a b=true:=Nat.ble_eq_true_of_le h
theorem aJ {a b:Nat}(h:Nat.beq a b=true):a=b:=Nat.eq_of_beq_eq_true h
theorem nN {a b:Nat}(h:Nat.beq a b=false):a≠b:=fun e=>by subst e;simp at h
noncomputable def au {α:Type}(o:Option α)(k:α->Bool):Bool:=Option.casesOn o false k
theorem ah {α:Type}{o:Option α}{k:α->Bool}(h:au o k=true): ∃a,o=some a/\k a=true:=by
 cases o with
 |none=>cases h
 |some a=>exact⟨a,rfl,h⟩
noncomputable def iff (b:Bool)(k:Bool):Bool:=Bool.casesOn b false k
theorem aj {b k:Bool}(h:iff b k=true):b=true/\k=true:=by
 cases b with
 |false=>cases h
 |true=>exact⟨rfl,h⟩
noncomputable def aA {α:Type}(l:List α):Nat->Option α:=List.rec (motive:=fun _=>Nat->Option α) (fun _=>none) (fun a _ ih n=>Nat.casesOn n (some a) ih) l
theorem aF {α:Type}(l:List α)(n:Nat):aA l n=l[n]?:=by
 induction l generalizing n with
 |nil=>rfl
 |cons a l ih=>cases n with
  |zero=>rfl
  |succ n=>show aA l n=_;rw[ih];simp
noncomputable def eo {α:Type}(l:List α):List α×List α:=List.rec ([],[]) (fun a _ ih=>(a::ih.2,ih.1)) l
theorem WE {α:Type}(l:List α): ∀k,(eo l).1[k]?=l[2*k]?/\(eo l).2[k]?=l[2*k+1]?:=by
 induction l with
 |nil=>intro k;simp[eo]
 |cons a l ih=>
  intro k
  refine⟨?_,?_⟩
  ·show(a::(eo l).2)[k]?=_
   cases k with
   |zero=>rfl
   |succ k=>rw[List.getElem?_cons_succ,(ih k).2,show 2*(k+1)=2*k+1+1 by omega,List.getElem?_cons_succ]
  ·show(eo l).1[k]?=_
   rw[(ih k).1,List.getElem?_cons_succ]
noncomputable def Tr.Vr {α:Type}(fuel:Nat):List α->Tr α:=Nat.rec (motive:=fun _=>List α->Tr α) (fun _=> .leaf) (fun _ ih l=>List.casesOn l .leaf fun a r=> .node (some a) (ih (eo r).1) (ih (eo r).2)) fuel
theorem Tr.Qb {α:Type}(fuel:Nat): ∀(l:List α)(n:Nat)(a:α),(Tr.Vr fuel l).get n=some a->l[n]?=some a:=by
 induction fuel with
 |zero=>intro l n a h;cases h
 |succ f ih=>
  intro l n a h
  cases l with
  |nil=>cases h
  |cons b r=>
   change(Tr.node (some b) (Tr.Vr f (eo r).1) (Tr.Vr f (eo r).2)).get n=some a at h
   cases n with
   |zero=>cases h;rfl
   |succ m=>
    rw[Tr.jU]at h
    rw[List.getElem?_cons_succ]
    split at h
    ·have:=ih _ _ _ h
     rw[(WE r _).1]at this
     rwa[show 2*(m/2)=m by omega]at this
    ·have:=ih _ _ _ h
     rw[(WE r _).2]at this
     rwa[show 2*(m/2)+1=m by omega]at this
noncomputable def aaZ (P:Program):Tr TypeInfo:=Tr.Vr 12 P.types.toList
noncomputable def FY (P:Program):Tr Func:=Tr.Vr 12 P.funcs.toList
noncomputable def mY (P:Program)(t:TypeId):Option TypeInfo:=Option.casesOn ((aaZ P).get t) (P.info? t) fun i=>some i
theorem aC (P:Program)(t:TypeId):mY P t=P.info? t:=by
 unfold mY
 cases h:(aaZ P).get t with
 |none=>rfl
 |some i=>
  have e:=Tr.Qb _ _ _ _ h
  have e2:P.types[t]?=some i:=by simpa using e
  have h2:t<P.types.size:=(Array.getElem?_eq_some_iff.1 e2).1
  have:P.info? t=P.types[t]?:=by show(if t<P.types.size then P.types[t]? else _)=_;rw[if_pos h2]
  rw[this,e2]
noncomputable def bQ (P:Program)(t:TypeId):Option TypeDesc:=match mY P t with
 |some {desc:= .named _ u, ..}=>(mY P u).map (·.desc)
 |some i=>some i.desc
 |none=>none
theorem aB (P:Program)(t:TypeId):bQ P t=P.underlying t:=by
 unfold bQ Program.underlying
 simp only[aC]
 cases P.info? t with
 |none=>rfl
 |some i=>obtain⟨desc⟩:=i;cases desc<;>rfl
noncomputable def Zp (P:Program)(f:FuncId):Option Func:=Option.casesOn ((FY P).get f) (P.funcs[f]?) fun i=>some i
theorem aO (P:Program)(f:FuncId):Zp P f=P.funcs[f]?:=by
 unfold Zp
 cases h:(FY P).get f with
 |none=>rfl
 |some i=>
  have e:=Tr.Qb _ _ _ _ h
  have e2:P.funcs[f]?=some i:=by simpa using e
  rw[e2]
noncomputable def llen {α:Type}(l:List α):Nat:=List.rec (motive:=fun _=>Nat) 0 (fun _ _ n=>Nat.succ n) l
theorem aG {α:Type}(l:List α):llen l=l.length:=by
 induction l with
 |nil=>rfl
 |cons a l ih=>exact congrArg Nat.succ ih
noncomputable def J6 {α:Type}(l:List α):Nat->α->(List α->Bool)->Bool:=
 List.rec (motive:=fun _=>Nat->α->(List α->Bool)->Bool) (fun _ _ _=>false) (fun a l ih n x k=>Nat.casesOn n (k (x::l)) fun m=>ih m x fun l=>k (a::l)) l
theorem DJ {α:Type}{l:List α}: ∀{n:Nat}{x:α}{k:List α->Bool},J6 l n x k=true->n<l.length/\k (l.set n x)=true:=by
 induction l with
 |nil=>intro n x k h;cases h
 |cons a l ih=>
  intro n x k h
  cases n with
  |zero=>exact⟨by simp,h⟩
  |succ n=>
   obtain⟨h1,h2⟩:=ih (k:=fun l=>k (a::l)) h
   exact⟨by simp;omega,h2⟩
noncomputable def SA {α:Type}(xs:List α):List α->Nat->(List α->Bool)->Bool:=
 List.rec (motive:=fun _=>List α->Nat->(List α->Bool)->Bool) (fun l _ k=>k l) (fun x _ ih l n k=>J6 l n x fun l=>ih l (Nat.succ n) k) xs
def dW {α:Type}:List α->List α->Nat->List α
 |[],l,_=>l
 |x::xs,l,n=>dW xs (l.set n x) (n+1)
theorem ML {α:Type}{xs:List α}: ∀{l:List α}{n:Nat}{k:List α->Bool},SA xs l n k=true->(xs=[]\/n+xs.length<=l.length)/\k (dW xs l n)=true:=by
 induction xs with
 |nil=>intro l n k h;exact⟨.inl rfl,h⟩
 |cons x xs ih=>
  intro l n k h
  obtain⟨h1,h2⟩:=DJ h
  obtain⟨h3,h4⟩:=ih h2
  refine⟨.inr ?_,h4⟩
  rcases h3 with rfl|h3
  ·simp;omega
  ·simp at h3⊢;omega
theorem nZ {α:Type}: ∀(xs l:List α)(n:Nat),(dW xs l n).length=l.length
 |[],_,_=>rfl
 |x::xs,l,n=>by rw[dW,nZ];simp
noncomputable def Aq (a:List Nat):List Nat->Bool:=
 List.rec (motive:=fun _=>List Nat->Bool) (fun b=>List.casesOn b true fun _ _=>false) (fun x _ ih b=>List.casesOn b false fun y b=>Bool.casesOn (Nat.beq x y) false (ih b)) a
theorem xK (a b:List Nat):Aq a b=(a==b):=by
 induction a generalizing b with
 |nil=>cases b<;>rfl
 |cons x a ih=>
  cases b with
  |nil=>rfl
  |cons y b=>
   show(Bool.casesOn (Nat.beq x y) false (Aq a b):Bool)=_
   rw[List.cons_beq_cons,<-ih]
   have:(x==y)=Nat.beq x y:=by
    cases h:Nat.beq x y
    ·simp[nN h]
    ·simp[aJ h]
   rw[this]
   cases Nat.beq x y<;>rfl
noncomputable def Za (v:Value):Option CV:=
 Value.casesOn v (fun b=>some (.bool b)) (fun k n=>some (.int k n)) (fun _ _=>none) (fun _ _ _=>none) (fun s=>some (.str (s.data.toList.map UInt8.toNat)))
  (fun a=>Option.casesOn a (some .lD) fun _=>none) (fun a l c=>Option.casesOn a (Nat.casesOn l (Nat.casesOn c (some .bW) fun _=>none) fun _=>none) fun _=>none) (fun r=>Option.casesOn r (some .lF) fun _=>none) (fun r=>Option.casesOn r (some .qN) fun _=>none)
  (fun _ _ _=>none) (some .l7) (fun _ _=>none) (some .nT) (fun _=>none) (fun _=>none)
noncomputable def fC (c:CV)(k:CV->Bool):Bool:=
 match c with
 | .bool b=>fB b fun b=>k (.bool b)
 | .int q n=>fI n fun n=>k (.int q n)
 | .str s=>Wn s fun s=>k (.str s)
 |c=>k c
theorem TK (c:CV)(k:CV->Bool):fC c k=k c:=by cases c<;>simp[fC,TL,TJ,NJ]
noncomputable def J4 (l:List Value):(List CV->Bool)->Bool:=
 List.rec (motive:=fun _=>(List CV->Bool)->Bool) (fun k=>k []) (fun v _ ih k=>au (Za v) fun c=>fC c fun c=>ih fun l=>k (c::l)) l
noncomputable def XQ (v:Value)(k:RV->Bool):Bool:=
 match v with
 | .agg cs=>J4 cs.toList fun l=>k (.agg l)
 | .tuple ts=>List.casesOn ts.toList (k .undef) fun _ _=>false
 |v=>au (Za v) fun c=>fC c fun c=>k (.c c)
noncomputable def bU (g:Nat)(env:Env)(x:Operand)(k:RV->Bool):Bool:=
 match x with
 | .tmp t=>au (env.get t) k
 | .const v=>XQ v k
 | .global i=>iff (Nat.ble (Nat.succ i) g) (k (.c (.ptr i 0)))
 | .func f=>k (.c (.fn f))
def ER (ρ:Ren)(env:Env)(tmps:Array Value):Prop:= ∀i v,env.get i=some v-> ∃x,tmps[i]?=some x/\GR ρ v x
section
variable {ρ ρ':Ren}
theorem ac9 (s:ByteArray):ba (s.data.toList.map UInt8.toNat)=s:=by
 unfold ba
 rw[List.map_map]
 have:UInt8.ofNat∘UInt8.toNat=id:=by funext b;simp
 rw[this,List.map_id]
theorem UL (s:ByteArray):small (s.data.toList.map UInt8.toNat):=by
 intro b hb
 obtain⟨x,_,rfl⟩:=List.mem_map.1 hb
 exact x.toNat_lt
theorem LZ {v:Value}{c:CV}(h:Za v=some c):G ρ c v:=by
 cases v with
 |bool b=>cases h;exact .bool _
 |int k n=>cases h;exact .int _ _
 |float=>cases h
 |complex=>cases h
 |string s=>
  cases h
  have:=G.str (ρ:=ρ) _ (UL s)
  rwa[ac9]at this
 |pointer a=>cases a<;>cases h;exact .lD
 |slice a l c'=>
  cases a with
  |some a=>cases h
  |none=>
   cases l with
   |succ l=>cases h
   |zero=>cases c' with
    |succ c=>cases h
    |zero=>cases h;exact .bW
 |map r=>cases r<;>cases h;exact .lF
 |chan r=>cases r<;>cases h;exact .qN
 |func=>cases h
 |nilFunc=>cases h;exact .l7
 |iface=>cases h
 |nilIface=>cases h;exact .nT
 |agg=>cases h
 |tuple=>cases h
theorem LY {l:List Value}: ∀{k:List CV->Bool},J4 l k=true-> ∃cs,k cs=true/\F2 (G ρ) cs l:=by
 induction l with
 |nil=>intro k h;exact⟨[],h, .nil⟩
 |cons v l ih=>
  intro k h
  obtain⟨c,hc,h⟩:=ah h
  rw[TK]at h
  obtain⟨cs,hk,hl⟩:=ih h
  exact⟨_,hk, .cons (LZ hc) hl⟩
theorem Qa {v:Value}{k:RV->Bool}(h:XQ v k=true): ∃r,k r=true/\GR ρ r v:=by
 have gen: ∀v:Value,au (Za v) (fun c=>fC c fun c=>k (.c c))=true-> ∃r,k r=true/\GR ρ r v:=fun v h=>by
  obtain⟨c,hc,h⟩:=ah h
  rw[TK]at h
  exact⟨_,h, .c (LZ hc)⟩
 cases v with
 |agg cs=>
  obtain⟨l,hk,hl⟩:=LY (ρ:=ρ) (l:=cs.toList) (k:=fun l=>k (.agg l)) h
  have:=GR.agg hl
  exact⟨_,hk,by simpa using this⟩
 |tuple ts=>
  obtain⟨l⟩:=ts
  cases l with
  |nil=>exact⟨_,h, .aN .nil⟩
  |cons a l=>cases h
 |_=>exact gen _ h
theorem qj {g:Nat}(hg: ∀i,i<g-> ∃cap,ρ i=some (.blk i 0 cap)){env:Env}{a:Act}(hE:ER ρ env a.tmps){x:Operand}{k:RV->Bool}(h:bU g env x k=true):
 ∃r,k r=true/\GR ρ r (a.eval x):=by
 cases x with
 |tmp t=>
  obtain⟨r,hr,h⟩:=ah h
  obtain⟨x,hx,hG⟩:=hE t r hr
  refine⟨r,h,?_⟩
  have:a.eval (.tmp t)=x:=by simp[Act.eval,Array.getD_eq_getD_getElem?,hx]
  rw[this];exact hG
 |const v=>exact Qa h
 |global i=>
  obtain⟨hi,h⟩:=aj h
  obtain⟨cap,hc⟩:=hg i (aK hi)
  exact⟨_,h, .c (.ptr 0 hc)⟩
 |func f=>exact⟨_,h, .c (.fn f)⟩
end
noncomputable def sW (hb fb:Nat)(n:Int):Int:=
 Int.casesOn n (fun m=>Bool.casesOn (Nat.ble hb (Nat.mod m fb)) (Int.ofNat (Nat.mod m fb)) (Int.negSucc (Nat.sub (Nat.sub fb 1) (Nat.mod m fb))))
  (fun m=>Bool.casesOn (Nat.ble hb (Nat.mod m fb)) (Int.negSucc (Nat.mod m fb)) (Int.ofNat (Nat.sub (Nat.sub fb 1) (Nat.mod m fb))))
noncomputable def uW (fb:Nat)(n:Int):Int:=Int.casesOn n (fun m=>Int.ofNat (Nat.mod m fb)) (fun m=>Int.ofNat (Nat.sub (Nat.sub fb 1) (Nat.mod m fb)))
noncomputable def wZ (k:IntKind):Int->Int:=
 IntKind.casesOn k (sW 128 256) (sW 32768 65536) (sW 2147483648 4294967296) (sW 9223372036854775808 18446744073709551616) (uW 256) (uW 65536) (uW 4294967296) (uW 18446744073709551616)
theorem JY (hb fb:Nat)(h:fb=2*hb)(h0:0<hb)(n:Int):sW hb fb n=(let m:=n%(fb:Int);if m>=(hb:Int)then m-fb else m):=by
 cases n with
 |ofNat m=>
  show(Bool.casesOn (Nat.ble hb (m%fb)) (Int.ofNat (m%fb)) (Int.negSucc (fb-1-m%fb)):Int)=_
  have h1:(Int.ofNat m)%(fb:Int)=((m%fb:Nat):Int):=rfl
  simp only[h1]
  have hlt:m%fb<fb:=Nat.mod_lt _ (by omega)
  cases hc:Nat.ble hb (m%fb)
  ·have: ¬hb<=m%fb:=fun h=>by rw[xI h]at hc;cases hc
   rw[if_neg (by omega)];rfl
  ·have:=aK hc
   rw[if_pos (by omega)]
   show Int.negSucc (fb-1-m%fb)=_
   omega
 |negSucc m=>
  show(Bool.casesOn (Nat.ble hb (m%fb)) (Int.negSucc (m%fb)) (Int.ofNat (fb-1-m%fb)):Int)=_
  have hlt:m%fb<fb:=Nat.mod_lt _ (by omega)
  have h1:(Int.negSucc m)%(fb:Int)=((fb-1-m%fb:Nat):Int):=by
   rw[Int.negSucc_emod _ (by omega:(0:Int)<fb)]
   omega
  simp only[h1]
  cases hc:Nat.ble hb (m%fb)
  ·have: ¬hb<=m%fb:=fun h=>by rw[xI h]at hc;cases hc
   rw[if_pos (by omega)]
   show Int.negSucc (m%fb)=_
   omega
  ·have:=aK hc
   rw[if_neg (by omega)];rfl
theorem Eo (fb:Nat)(h0:0<fb)(n:Int):uW fb n=n%(fb:Int):=by
 cases n with
 |ofNat m=>rfl
 |negSucc m=>
  have hlt:m%fb<fb:=Nat.mod_lt _ h0
  rw[Int.negSucc_emod _ (by omega:(0:Int)<fb)]
  show((fb-1-m%fb:Nat):Int)=_
  omega
theorem Eh (k:IntKind)(hs:k.signed=true)(hb fb:Nat)(h1:(2:Int)^k.bits=fb)(h2:(2:Int)^(k.bits-1)=hb)(n:Int):k.wrap n=(let m:=n%(fb:Int);if m>=(hb:Int)then m-fb else m):=by
 simp only[IntKind.wrap,hs,h1,h2,Bool.true_and,decide_eq_true_eq]
theorem lM (k:IntKind)(n:Int):wZ k n=k.wrap n:=by
 cases k
 ·rw[Eh .i8 rfl 128 256 rfl rfl];exact JY 128 256 rfl (by omega) n
 ·rw[Eh .i16 rfl 32768 65536 rfl rfl];exact JY 32768 65536 rfl (by omega) n
 ·rw[Eh .i32 rfl 2147483648 4294967296 rfl rfl];exact JY 2147483648 4294967296 rfl (by omega) n
 ·rw[Eh .i64 rfl 9223372036854775808 18446744073709551616 rfl rfl];exact JY 9223372036854775808 18446744073709551616 rfl (by omega) n
 ·exact Eo 256 (by omega) n
 ·exact Eo 65536 (by omega) n
 ·exact Eo 4294967296 (by omega) n
 ·exact Eo 18446744073709551616 (by omega) n
noncomputable def Fh (a b:Int):Bool:=Int.casesOn a (fun m=>Int.casesOn b (fun n=>Nat.ble (Nat.succ m) n) fun _=>false) (fun m=>Int.casesOn b (fun _=>true) fun n=>Nat.ble (Nat.succ n) m)
noncomputable def qC (a b:Int):Bool:=Int.casesOn a (fun m=>Int.casesOn b (fun n=>Nat.beq m n) fun _=>false) (fun m=>Int.casesOn b (fun _=>false) fun n=>Nat.beq m n)
theorem rU (a b:Int):Fh a b=decide (a<b):=by
 have key: ∀m n:Nat,Nat.ble (Nat.succ m) n=decide (m<n):=fun m n=>by
  by_cases h:m<n
  ·simp only[h,decide_true];exact xI h
  ·simp[h];cases hc:Nat.ble (m+1) n
   ·rfl
   ·exact absurd (aK hc) (by omega)
 cases a with
 |ofNat m=>cases b with
  |ofNat n=>show Nat.ble (Nat.succ m) n=_;rw[key];simp
  |negSucc n=>show false=_;simp;omega
 |negSucc m=>cases b with
  |ofNat n=>show true=_;simp;omega
  |negSucc n=>show Nat.ble (Nat.succ n) m=_;rw[key];simp;omega
theorem ny (a b:Int):qC a b=decide (a=b):=by
 have key: ∀m n:Nat,Nat.beq m n=decide (m=n):=fun m n=>by
  by_cases h:m=n
  ·subst h;simp
  ·simp[h];cases hc:Nat.beq m n
   ·rfl
   ·exact absurd (Nat.eq_of_beq_eq_true hc) h
 cases a with
 |ofNat m=>cases b with
  |ofNat n=>show Nat.beq m n=_;rw[key];simp;omega
  |negSucc n=>show false=_;simp
 |negSucc m=>cases b with
  |ofNat n=>show false=_;simp
  |negSucc n=>show Nat.beq m n=_;rw[key];simp
end bC
end Go.Proofs.YtakhobfamnjnoaaGreatDoor
