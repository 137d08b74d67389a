/- The machine's operations that look at no memory. -/
import Derived.Test.YtakhobfamnjnoaaGreatDoorB33
set_option linter.unusedVariables false
set_option linter.unusedSimpArgs false
namespace Go.Proofs.YtakhobfamnjnoaaGreatDoor
namespace bC
open Go Go.RowKit
noncomputable def mB (q:IntKind):Nat:=IntKind.casesOn q 256 65536 4294967296 18446744073709551616 256 65536 4294967296 18446744073709551616
noncomputable def uN (fb:Nat)(a:Int):Nat:=Int.casesOn a (fun m=>Nat.mod m fb) (fun m=>Nat.sub (Nat.sub fb 1) (Nat.mod m fb))
theorem Zg (q:IntKind):mB q=2^q.bits:=by cases q<;>rfl
theorem Ep (q:IntKind)(a:Int):uN (mB q) a=(BitVec.ofInt q.bits a).toNat:=by
 have h0:0<mB q:=by cases q<;>decide
 have h:=Eo (mB q) h0 a
 have h1:((uN (mB q) a:Nat):Int)=uW (mB q) a:=by cases a<;>rfl
 rw[BitVec.toNat_ofInt,<-Zg,<-h,<-h1]
 rfl
noncomputable def kI (q:IntKind)(k:RV->Bool)(n:Int):Bool:=fI n fun n=>k (.c (.int q n))
noncomputable def kB (k:RV->Bool)(b:Bool):Bool:=fB b fun b=>k (.c (.bool b))
noncomputable def YI (op:BinOp)(q:IntKind)(a b:Int)(k:RV->Bool):Bool:=
 match op with
 | .add=>kI q k (wZ q (Int.add a b))
 | .sub=>kI q k (wZ q (Int.sub a b))
 | .mul=>kI q k (wZ q (Int.mul a b))
 | .quo=>iff (!qC b 0) (kI q k (wZ q (Int.tdiv a b)))
 | .rem=>iff (!qC b 0) (kI q k (Int.tmod a b))
 | .and=>kI q k (wZ q (Int.ofNat (Nat.land (uN (mB q) a) (uN (mB q) b))))
 | .or=>kI q k (wZ q (Int.ofNat (Nat.lor (uN (mB q) a) (uN (mB q) b))))
 | .xor=>kI q k (wZ q (Int.ofNat (Nat.xor (uN (mB q) a) (uN (mB q) b))))
 | .andNot=>kI q k (wZ q (Int.ofNat (Nat.land (uN (mB q) a) (Nat.sub (Nat.sub (mB q) 1) (uN (mB q) b)))))
 | .eql=>kB k (qC a b)
 | .neq=>kB k (!qC a b)
 | .lss=>kB k (Fh a b)
 | .leq=>kB k (!Fh b a)
 | .gtr=>kB k (Fh b a)
 | .geq=>kB k (!Fh a b)
 |_=>false
noncomputable def shI (op:BinOp)(q:IntKind)(a:Int)(b:Int)(k:RV->Bool):Bool:=
 Int.casesOn b (fun m=>match op with
  | .shl=>kI q k (wZ q (Int.mul a (Int.ofNat (Nat.pow 2 (Nat.min m q.bits)))))
  | .shr=>kI q k (Int.fdiv a (Int.ofNat (Nat.pow 2 (Nat.min m q.bits))))
  |_=>false) fun _=>false
section
variable {P:Program} {ρ:Ren}
abbrev Pu (P:Program)(ρ:Ren)(k:RV->Bool)(s:Sem Value):Prop:= ∃r x,k r=true/\GR ρ r x/\ ∀w,s.run P w= .ok x w
theorem dh {q:IntKind}{k:RV->Bool}{n:Int}{s:Sem Value}(h:kI q k n=true)(hs: ∀w,s.run P w= .ok (.int q n) w):Pu P ρ k s:=by
 rw[kI,TJ]at h
 exact⟨_,_,h, .c (.int _ _),hs⟩
theorem bM {k:RV->Bool}{b:Bool}{s:Sem Value}(h:kB k b=true)(hs: ∀w,s.run P w= .ok (.bool b) w):Pu P ρ k s:=by
 rw[kB,TL]at h
 exact⟨_,_,h, .c (.bool _),hs⟩
theorem aaO {op:BinOp}{t:TypeId}{q:IntKind}{a b:Int}{k:RV->Bool}(h:YI op q a b k=true):Pu P ρ k (binOp op t (.int q a) (.int q b)):=by
 cases op<;>simp only[YI]at h
 case add=>exact dh h fun w=>by simp[binOp,Op.intArith,lM];try rfl
 case sub=>exact dh h fun w=>by simp[binOp,Op.intArith,lM];try rfl
 case mul=>exact dh h fun w=>by simp[binOp,Op.intArith,lM];try rfl
 case quo=>
  obtain⟨h0,h⟩:=aj h
  have h0: ¬b=0:=by simpa[ny]using h0
  exact dh h fun w=>by simp[binOp,Op.intDiv,h0,lM]
 case rem=>
  obtain⟨h0,h⟩:=aj h
  have h0: ¬b=0:=by simpa[ny]using h0
  exact dh h fun w=>by simp[binOp,Op.intDiv,h0]
 case and=>exact dh h fun w=>by simp only[binOp,Op.intBits,lM,Ep,ne_eq,not_true,if_false];simp only[BitVec.toNat_and];rfl
 case or=>exact dh h fun w=>by simp only[binOp,Op.intBits,lM,Ep,ne_eq,not_true,if_false];simp only[BitVec.toNat_or];rfl
 case xor=>exact dh h fun w=>by simp only[binOp,Op.intBits,lM,Ep,ne_eq,not_true,if_false];simp only[BitVec.toNat_xor];rfl
 case andNot=>exact dh h fun w=>by simp only[binOp,Op.intBits,lM,Ep,ne_eq,not_true,if_false];simp only[BitVec.toNat_and,BitVec.toNat_not,Zg];rfl
 case eql=>exact bM h fun w=>by simp[binOp,Op.intCmp,ny];try rfl
 case neq=>exact bM h fun w=>by simp[binOp,Op.intCmp,ny];try rfl
 case lss=>exact bM h fun w=>by simp[binOp,Op.intCmp,rU]
 case leq=>exact bM h fun w=>by simp only[binOp,Op.intCmp,rU,ne_eq,not_true,if_false,Sem.run_pure,Result.ok.injEq,and_true,Value.bool.injEq];by_cases h:b<a<;>simp[h]<;>omega
 case gtr=>exact bM h fun w=>by simp[binOp,Op.intCmp,rU]
 case geq=>exact bM h fun w=>by simp only[binOp,Op.intCmp,rU,ne_eq,not_true,if_false,Sem.run_pure,Result.ok.injEq,and_true,Value.bool.injEq];by_cases h:a<b<;>simp[h]<;>omega
 all_goals cases h
theorem UR {op:BinOp}{t:TypeId}{q q':IntKind}{a b:Int}{k:RV->Bool}(hop:op= .shl\/op= .shr)(h:shI op q a b k=true):Pu P ρ k (binOp op t (.int q a) (.int q' b)):=by
 cases b with
 |negSucc m=>cases h
 |ofNat m=>
  have h0: ¬(Int.ofNat m<0):=by simp
  have hp:(Int.ofNat (Nat.pow 2 (Nat.min m q.bits)))=(2:Int)^(min m q.bits):=by
   show((2^(min m q.bits):Nat):Int)=_
   push_cast;rfl
  rcases hop with rfl|rfl
  ·exact dh h fun w=>by rw[hp];simp[binOp,Op.shift,lM];intro hh;omega
  ·exact dh h fun w=>by rw[hp];simp[binOp,Op.shift];intro hh;omega
end
noncomputable def Xn (op:BinOp)(a b:List Nat)(k:RV->Bool):Bool:=
 match op with
 | .add=>iff (Nat.ble (Nat.add (llen a) (llen b)) 1099511627776) (fL (a++b) fun s=>k (.c (.str s)))
 | .eql=>kB k (Aq a b)
 | .neq=>kB k (!Aq a b)
 |_=>false
noncomputable def ig (x:Operand):Bool:=match x with| .const _=>true|_=>false
noncomputable def Gi (d:TypeDesc)(con:Bool)(a b:CV):Option Bool:=
 match a,b with
 | .bool x, .bool y=>(match d with| .bool=>some (x==y)|_=>none)
 | .lD, .lD=>(match d with| .pointer _=>some true|_=>none)
 | .lD, .ptr _ _=>(match d with| .pointer _=>some false|_=>none)
 | .ptr _ _, .lD=>(match d with| .pointer _=>some false|_=>none)
 | .bW, .bW=>(match d with| .slice _=>some true|_=>none)
 | .bW, .sl .. =>(match d with| .slice _=>some false|_=>none)
 | .sl .., .bW=>(match d with| .slice _=>some false|_=>none)
 | .lF, .lF=>(match d with| .map .. =>some true|_=>none)
 | .lF, .mp _=>(match d with| .map .. =>some false|_=>none)
 | .mp _, .lF=>(match d with| .map .. =>some false|_=>none)
 | .l7, .l7=>(match d with| .func .. =>some true|_=>none)
 | .l7, .fn _=>(match d with| .func .. =>some false|_=>none)
 | .l7, .clo _=>(match d with| .func .. =>some false|_=>none)
 | .fn _, .l7=>(match d with| .func .. =>some false|_=>none)
 | .clo _, .l7=>(match d with| .func .. =>some false|_=>none)
 | .nT, .nT=>(match d with| .interface _=>if con then some true else none|_=>none)
 | .nT, .eF _=>(match d with| .interface _=>some false|_=>none)
 | .eF _, .nT=>(match d with| .interface _=>some false|_=>none)
 |_,_=>none
noncomputable def GZ (a b:CV):Bool:=match a,b with
 | .ptr i o, .ptr j p=>Nat.beq i j&&Nat.beq o p
 |_,_=>false
noncomputable def YC (P:Program)(op:BinOp)(t:TypeId)(con:Bool)(a b:CV)(k:RV->Bool):Bool:=
 match op with
 | .eql=>au (bQ P t) fun d=>au (Gi d con a b) fun r=>kB k r
 | .neq=>au (bQ P t) fun d=>au (Gi d con a b) fun r=>kB k (!r)
 |_=>false
noncomputable def eqK (P:Program)(op:BinOp)(t:TypeId)(con:Bool)(a b:CV)(k:RV->Bool):Bool:=
 Bool.casesOn (GZ a b) (YC P op t con a b k) (au (bQ P t) fun d=>(match d with
  | .pointer te=>au (mY P te) fun _=>(match op with| .eql=>kB k true| .neq=>kB k false|_=>false)
  |_=>false))
noncomputable def Uc (P:Program)(t:TypeId):Option Nat:=match bQ P t with
 |some (.array n e)=>(match bQ P e,mY P t,mY P e with
  |some (.int _),some i,some j=>Bool.casesOn (Nat.beq i.size n) none (Bool.casesOn (Nat.beq j.size 1) none (some n))
  |_,_,_=>none)
 |_=>none
noncomputable def DY (a b:List CV)(off:Nat)(is:List Nat):Option Bool:=List.rec (motive:=fun _=>Option Bool) (some true) (fun i _ rest=>match aA a (Nat.add off i),aA b (Nat.add off i)with
 |some (.int q x),some (.int q' y)=>if q=q' then Bool.casesOn (qC x y) (some false) rest else none
 |_,_=>none) is
noncomputable def zn (P:Program)(a b:List CV)(fs:List Field):Option Bool:=
 List.rec (motive:=fun _=>Option Bool) (some true) (fun f _ rest=>
  if f.name≠ "_" then
   match aA a f.offset,aA b f.offset,bQ P f.type with
   |some (.int q x),some (.int q' y),some (.int _)=>if q=q' then Bool.casesOn (qC x y) (some false) rest else none
   |some (.str x),some (.str y),some .string=>Bool.casesOn (Aq x y) (some false) rest
   |some (.bool x),some (.bool y),some .bool=>Bool.casesOn (x==y) (some false) rest
   |_,_,_=>(match Uc P f.type with
    |some n=>(match DY a b f.offset (List.range n)with|some true=>rest|some false=>some false|none=>none)
    |none=>none)
  else none) fs
noncomputable def Zz (P:Program)(op:BinOp)(t:TypeId)(a b:List CV)(k:RV->Bool):Bool:=
 iff (!P.stoodInHeld t) (iff (!P.eqGuardType P.depth t) (match bQ P t with
  |some (.struct fs)=>au (zn P a b fs.toList) fun r=>(match op with| .eql=>kB k r| .neq=>kB k (!r)|_=>false)
  |_=>false))
noncomputable def YH (P:Program)(op:BinOp)(t:TypeId)(con:Bool)(x y:RV)(k:RV->Bool):Bool:=
 match x,y with
 | .c a, .c b=>(match a,b with
   | .int q m, .int q' n=>(match op with
     | .shl=>shI .shl q m n k
     | .shr=>shI .shr q m n k
     |op=>iff (decide (q=q')) (YI op q m n k))
   | .str m, .str n=>Xn op m n k
   |a,b=>eqK P op t con a b k)
 | .agg a, .agg b=>Zz P op t a b k
 |_,_=>false
section
variable {P:Program} {ρ:Ren}
theorem zX {a b:List Nat}(ha:small a)(hb:small b):(ba a==ba b)=(a==b):=by
 have inj: ∀{a b:List Nat},small a->small b->a.map UInt8.ofNat=b.map UInt8.ofNat->a=b:=by
  intro a
  induction a with
  |nil=>intro b _ _ h;cases b with
   |nil=>rfl
   |cons=>simp at h
  |cons x a ih=>
   intro b ha hb h
   cases b with
   |nil=>simp at h
   |cons y b=>
    simp at h
    have hx:=ha x (by simp)
    have hy:=hb y (by simp)
    have h1:x=y:=by
     have:=congrArg UInt8.toNat h.1
     simpa[UInt8.toNat_ofNat',Nat.mod_eq_of_lt hx,Nat.mod_eq_of_lt hy]using this
    rw[h1,ih (fun b hb=>ha b (by simp[hb])) (fun c hc=>hb c (by simp[hc])) h.2]
 rw[beq_toListBytes,ByteArray.toList_eq,ByteArray.toList_eq]
 have e: ∀l:List Nat,(ba l).data.toList=l.map UInt8.ofNat:=fun l=>by simp[ba]
 rw[e,e]
 by_cases h:a=b
 ·subst h;simp
 ·have h1:a.map UInt8.ofNat≠b.map UInt8.ofNat:=fun e=>h (inj ha hb e)
  rw[beq_false_of_ne h,beq_false_of_ne h1]
theorem jH (a:List Nat):(ba a).size=a.length:=by simp[ba,ByteArray.size]
theorem WW (a b:List Nat):ba a++ba b=ba (a++b):=by
 apply ByteArray.ext
 simp[ba]
theorem Lc {a b:List Nat}(ha:small a)(hb:small b):small (a++b):=fun x hx=>by
 rcases List.mem_append.1 hx with h|h
 ·exact ha x h
 ·exact hb x h
theorem ZP {op:BinOp}{t:TypeId}{a b:List Nat}{k:RV->Bool}(ha:small a)(hb:small b)(h:Xn op a b k=true):Pu P ρ k (binOp op t (.string (ba a)) (.string (ba b))):=by
 have he:((ba a).toList==(ba b).toList)=Aq a b:=by rw[<-beq_toListBytes,zX ha hb,xK]
 cases op<;>simp only[Xn]at h
 case add=>
  obtain⟨h0,h⟩:=aj h
  have h0:=aK h0
  rw[aG,aG]at h0
  rw[eP]at h
  refine⟨_,_,h, .c (.str _ (Lc ha hb)),fun w=>?_⟩
  show(Op.stringOp .add (ba a) (ba b)).run P w=_
  rw[run_string_add_sum w (ba a) (ba b) (by rw[jH,jH];exact Nat.le_trans h0 (by omega)),WW]
 case eql=>exact bM h fun w=>by show(Op.stringOp .eql (ba a) (ba b)).run P w=_;simp[Op.stringOp,he]
 case neq=>exact bM h fun w=>by show(Op.stringOp .neq (ba a) (ba b)).run P w=_;simp[Op.stringOp,he]
 all_goals cases h
theorem acK {t:TypeId}{d:TypeDesc}(hd:P.underlying t=some d){con:Bool}{a b:CV}{r:Bool}{x y:Value}(h:Gi d con a b=some r)(hx:G ρ a x)(hy:G ρ b y)(n:Nat)(w:World):
 (Op.equalIn (n+1) t x y).run P w= .ok r w:=by
 unfold Gi at h
 (repeat' split at h)<;>(try cases h)<;>cases hx<;>cases hy<;>simp[Op.equalIn,run_underlying hd]
theorem acJ {t:TypeId}{d:TypeDesc}(hd:P.underlying t=some d){con:Bool}{a b:CV}{r:Bool}{x y:Value}(h:Gi d con a b=some r)(hx:G ρ a x)(hy:G ρ b y)(w:World):
 (Op.equal t x y).run P w= .ok r w:=acK hd h hx hy 9999 w
theorem wR {op:BinOp}{t:TypeId}{xo yo:Operand}{a b:CV}{x y:Value}(hx:G ρ a x)(hy:G ρ b y)(h:x≠ .nilIface\/y≠ .nilIface\/(ig xo||ig yo)=true)(w:World):(eqGuard op t xo yo x y).run P w= .ok () w:=by
 by_cases hxn:x= .nilIface
 ·by_cases hyn:y= .nilIface
  ·have h:(ig xo||ig yo)=true:=by
    rcases h with h|h|h
    ·exact absurd hxn h
    ·exact absurd hyn h
    ·exact h
   subst hxn hyn
   cases op<;>first|rfl|(cases xo<;>cases yo<;>first|rfl|(simp[ig]at h))
  ·subst hxn
   cases hy<;>first|exact absurd rfl hyn|(cases op<;>rfl)
 ·cases hx<;>first|exact absurd rfl hxn|(cases op<;>first|rfl|(cases hy<;>rfl))
theorem aax {op:BinOp}{t:TypeId}{xo yo:Operand}{a b:CV}{x y:Value}{k:RV->Bool}(hx:G ρ a x)(hy:G ρ b y)(hk:YC P op t (ig xo||ig yo) a b k=true):
 Pu P ρ k (do eqGuard op t xo yo x y;binOp op t x y):=by
 have core: ∀{d:TypeDesc}{r:Bool},P.underlying t=some d->Gi d (ig xo||ig yo) a b=some r->(∀w,(eqGuard op t xo yo x y).run P w= .ok () w)/\
  (∀w,(binOp .eql t x y).run P w= .ok (.bool r) w)/\(∀w,(binOp .neq t x y).run P w= .ok (.bool !r) w):=fun{d r} hd hr=>by
  have he:=fun w=>acJ hd hr hx hy w
  refine⟨fun w=>wR hx hy ?_ w,fun w=>?_,fun w=>?_⟩
  ·by_cases hc:(ig xo||ig yo)=true
   ·exact .inr (.inr hc)
   ·have hc:(ig xo||ig yo)=false:=by simpa using hc
    rw[hc]at hr
    unfold Gi at hr
    (repeat' split at hr)<;>(try cases hr)<;>cases hx<;>cases hy<;>first|(simp;done)|simp_all
  ·have he:=he w
   unfold Gi at hr
   (repeat' split at hr)<;>(try cases hr)<;>cases hx<;>cases hy<;>simp only[binOp,Sem.run_bind,he,Result.andThen_ok,Sem.run_pure]
  ·have he:=he w
   unfold Gi at hr
   (repeat' split at hr)<;>(try cases hr)<;>cases hx<;>cases hy<;>simp only[binOp,Sem.run_bind,he,Result.andThen_ok,Sem.run_pure]
 unfold YC at hk
 split at hk
 ·obtain⟨d,hd,hk⟩:=ah hk
  try simp only[aB,aC,aO]at hd
  obtain⟨r,hr,hk⟩:=ah hk
  obtain⟨h1,h2,_⟩:=core hd hr
  exact bM hk fun w=>by simp only[Sem.run_bind,h1,Result.andThen_ok,h2]
 ·obtain⟨d,hd,hk⟩:=ah hk
  try simp only[aB,aC,aO]at hd
  obtain⟨r,hr,hk⟩:=ah hk
  obtain⟨h1,_,h2⟩:=core hd hr
  exact bM hk fun w=>by simp only[Sem.run_bind,h1,Result.andThen_ok,h2]
 ·cases hk
theorem acI {op:BinOp}{t:TypeId}{xo yo:Operand}{a b:CV}{x y:Value}{k:RV->Bool}(hx:G ρ a x)(hy:G ρ b y)(hk:eqK P op t (ig xo||ig yo) a b k=true):
 Pu P ρ k (do eqGuard op t xo yo x y;binOp op t x y):=by
 unfold eqK at hk
 cases hs:GZ a b with
 |false=>rw[hs]at hk;exact aax hx hy hk
 |true=>
  rw[hs]at hk
  obtain⟨d,hd,hk1⟩:=ah hk
  try simp only[aB,aC,aO]at hd
  split at hk1
  case h_2=>cases hk1
  rename_i te
  obtain⟨j,hj,hk2⟩:=ah hk1
  try simp only[aB,aC,aO]at hj
  unfold GZ at hs
  split at hs
  case h_2=>cases hs
  rename_i i o i' o'
  rw[Bool.and_eq_true]at hs
  have e1:=aJ hs.1
  have e2:=aJ hs.2
  subst e1 e2
  have hg: ∀w,(eqGuard op t xo yo x y).run P w= .ok () w:=fun w=>wR hx hy (.inl (by cases hx;simp)) w
  cases hx with
  |ptr _ hr=>cases hy with
   |ptr _ hr'=>
    rw[hr]at hr';cases hr'
    rename_i bk base cap
    have h: ∀(m:Nat) w,(Op.equalIn (m+1) t (.pointer (some ⟨bk,base+o,none⟩)) (.pointer (some ⟨bk,base+o,none⟩))).run P w= .ok true w:=fun m w=>by
     simp[Op.equalIn,run_underlying hd,sizeOf,typeInfo,hj,run_sameAddr_same]
    split at hk2
    ·exact bM hk2 fun w=>by simp only[Sem.run_bind,hg,Result.andThen_ok,binOp];simp[Op.equal,Op.maxDepth,h 9999]
    ·exact bM hk2 fun w=>by simp only[Sem.run_bind,hg,Result.andThen_ok,binOp];simp[Op.equal,Op.maxDepth,h 9999]
    ·cases hk2
theorem Om {t:TypeId}{n:Nat}(h:Uc P t=some n): ∃e q i j,P.underlying t=some (.array n e)/\P.underlying e=some (.int q)/\P.info? t=some i/\i.size=n/\P.info? e=some j/\j.size=1:=by
 unfold Uc at h
 simp only[aB,aC]at h
 split at h
 ·rename_i m e hu
  split at h
  ·rename_i q i j he hi hj
   cases h1:Nat.beq i.size m with
   |false=>rw[h1]at h;cases h
   |true=>
    rw[h1]at h
    cases h2:Nat.beq j.size 1 with
    |false=>rw[h2]at h;cases h
    |true=>
     rw[h2]at h
     cases h
     exact⟨e,q,i,j,hu,he,hi,aJ h1,hj,aJ h2⟩
  ·cases h
 ·cases h
theorem uZ {t e:TypeId}{n:Nat}{i:TypeInfo}(hu:P.underlying t=some (.array n e))(hi:P.info? t=some i)(hs:i.size=n)(xs:Array Value)(off:Nat)(w:World):(part t xs off).run P w= .ok (.agg (xs.extract off (off+n))) w:=by
 simp[part,isAgg,run_underlying hu,sizeOf,typeInfo,hi,hs]
theorem Ea {e:TypeId}{q:IntKind}(he:P.underlying e=some (.int q)){a:List CV}{xs:List Value}(hx:F2 (G ρ) a xs){off n i:Nat}(hin:i<n){q':IntKind}{x:Int}(hv:aA a (Nat.add off i)=some (.int q' x))(w:World):(part e (xs.toArray.extract off (off+n)) i).run P w= .ok (.int q' x) w:=by
 rw[aF]at hv
 obtain⟨z,h1,h2⟩:=dQ hx hv
 cases h2
 have h1:xs[off+i]?=some (Value.int q' x):=h1
 have:(xs.toArray.extract off (off+n))[i]?=some (Value.int q' x):=by
  have hlt:=(List.getElem?_eq_some_iff.1 h1).1
  rw[Array.getElem?_extract]
  rw[if_pos (by simp;omega)]
  simpa using h1
 generalize xs.toArray.extract off (off+n)=zs at this⊢
 simp[part,isAgg,run_underlying he,this]
theorem QM {e:TypeId}{q:IntKind}(he:P.underlying e=some (.int q)){a b:List CV}{xs ys:List Value}(hx:F2 (G ρ) a xs)(hy:F2 (G ρ) b ys)(off n d:Nat)(w:World): ∀{is:List Nat}{r:Bool},(∀i∈is,i<n)->DY a b off is=some r->
 (Op.eqItems (d+1) e 1 (xs.toArray.extract off (off+n)) (ys.toArray.extract off (off+n)) is).run P w= .ok r w
 |[],r,_,h=>by cases h;simp[Op.eqItems]
 |i::is,r,hall,h=>by
  change(match aA a (Nat.add off i),aA b (Nat.add off i)with|some (.int q x),some (.int q' y)=>if q=q' then Bool.casesOn (qC x y) (some false) (DY a b off is)else none|_,_=>none)=some r at h
  split at h
  ·rename_i q1 x q2 y e1 e2
   split at h
   ·rename_i hq
    subst hq
    have hi:=hall i (by simp)
    have p1:=Ea he hx hi e1 w
    have p2:=Ea he hy hi e2 w
    have p3:(Op.equalIn (d+1) e (.int q1 x) (.int q1 y)).run P w= .ok (qC x y) w:=by simp[Op.equalIn,run_underlying he,ny];try rfl
    unfold Op.eqItems
    rw[Nat.mul_one]
    simp only[Sem.run_bind,p1,p2,p3,Result.andThen_ok]
    cases hb:qC x y with
    |false=>rw[hb]at h;cases h;simp
    |true=>rw[hb]at h;rw[if_neg (by simp)];exact QM he hx hy off n d w (fun i hi=>hall i (by simp[hi])) h
   ·cases h
  ·cases h
theorem Ib {a b:List CV}{xs ys:List Value}(hx:F2 (G ρ) a xs)(hy:F2 (G ρ) b ys)(n:Nat)(w:World): ∀{fs:List Field}{r:Bool},zn P a b fs=some r->(Op.eqFields (n+2) xs.toArray ys.toArray fs).run P w= .ok r w
 |[],r,h=>by cases h;simp[Op.eqFields]
 |f::fs,r,h=>by
  change(if f.name≠ "_" then _ else none)=some r at h
  split at h
  ·rename_i hn
   have vY: ∀{zs:List Value}{c:List CV}{v:CV}{d:TypeDesc},F2 (G ρ) c zs->aA c f.offset=some v->P.underlying f.type=some d->(d= .bool\/d= .string\/ ∃q,d= .int q)-> ∃z,G ρ v z/\(part f.type zs.toArray f.offset).run P w= .ok z w:=fun{zs c v d} hz hv hd hs=>by
    rw[aF]at hv
    obtain⟨z,h1,h2⟩:=dQ hz hv
    refine⟨z,h2,?_⟩
    rcases hs with rfl|rfl|⟨q,rfl⟩<;>simp[part,isAgg,run_underlying hd,h1]
   have fin: ∀{z z':Value}{e:Bool},(part f.type xs.toArray f.offset).run P w= .ok z w->(part f.type ys.toArray f.offset).run P w= .ok z' w->(Op.equalIn (n+2) f.type z z').run P w= .ok e w->
    (Bool.casesOn (motive:=fun _=>Option Bool) e (some false) (zn P a b fs))=some r->(Op.eqFields (n+2) xs.toArray ys.toArray (f::fs)).run P w= .ok r w:=fun{z z' e} h1 h2 h3 h4=>by
    unfold Op.eqFields
    rw[if_pos hn]
    simp only[Sem.run_bind,h1,Result.andThen_ok,h2,h3]
    cases e with
    |false=>cases h4;simp
    |true=>simp;exact Ib hx hy n w h4
   split at h
   ·rename_i q x q' y q'' e1 e2 e3
    rw[aB]at e3
    obtain⟨z,hz,hz1⟩:=vY hx e1 e3 (.inr (.inr ⟨_,rfl⟩))
    obtain⟨z',hz',hz2⟩:=vY hy e2 e3 (.inr (.inr ⟨_,rfl⟩))
    cases hz;cases hz'
    split at h
    ·rename_i hq
     subst hq
     exact fin hz1 hz2 (by simp[Op.equalIn,run_underlying e3,ny];try rfl) h
    ·cases h
   ·rename_i x y e1 e2 e3
    rw[aB]at e3
    obtain⟨z,hz,hz1⟩:=vY hx e1 e3 (.inr (.inl rfl))
    obtain⟨z',hz',hz2⟩:=vY hy e2 e3 (.inr (.inl rfl))
    cases hz with
    |str _ s1=>cases hz' with
     |str _ s2=>exact fin hz1 hz2 (by simp[Op.equalIn,run_underlying e3,zX s1 s2,xK]) h
   ·rename_i x y e1 e2 e3
    rw[aB]at e3
    obtain⟨z,hz,hz1⟩:=vY hx e1 e3 (.inl rfl)
    obtain⟨z',hz',hz2⟩:=vY hy e2 e3 (.inl rfl)
    cases hz;cases hz'
    exact fin hz1 hz2 (by simp[Op.equalIn,run_underlying e3]) h
   ·split at h
    ·rename_i m hm
     obtain⟨e,q,i,j,hu,he,hi,hs,hj,hs1⟩:=Om hm
     have hc:P.cellsOf e=1:=by
      have h1:=run_sizeOf w hj
      have h2:(sizeOf e).run P w= .ok 1 w:=by simp[sizeOf,typeInfo,hj,hs1]
      rw[h2]at h1
      injection h1 with h1
      exact h1.symm
     have key: ∀{r:Bool},DY a b f.offset (List.range m)=some r->(Op.equalIn (n+2) f.type (.agg (xs.toArray.extract f.offset (f.offset+m))) (.agg (ys.toArray.extract f.offset (f.offset+m)))).run P w= .ok r w:=fun hr=>by
      rw[show n+2=(n+1)+1 from rfl,run_equalIn_array w (n+1) _ _ hu hj,hc]
      exact QM he hx hy f.offset m n w (fun i hi=>List.mem_range.1 hi) hr
     split at h
     ·rename_i hr;exact fin (uZ hu hi hs _ _ w) (uZ hu hi hs _ _ w) (key hr) h
     ·rename_i hr;exact fin (uZ hu hi hs _ _ w) (uZ hu hi hs _ _ w) (key hr) h
     ·cases h
    ·cases h
  ·cases h
theorem YR {op:BinOp}{t:TypeId}{xo yo:Operand}{a b:List CV}{xs ys:List Value}{k:RV->Bool}(hx:F2 (G ρ) a xs)(hy:F2 (G ρ) b ys)(hk:Zz P op t a b k=true):
 Pu P ρ k (do eqGuard op t xo yo (.agg xs.toArray) (.agg ys.toArray);binOp op t (.agg xs.toArray) (.agg ys.toArray)):=by
 obtain⟨h1,hk⟩:=aj hk
 obtain⟨h2,hk⟩:=aj hk
 have h1:P.stoodInHeld t=false:=by simpa using h1
 have h2:P.eqGuardType P.depth t=false:=by simpa using h2
 split at hk
 ·rename_i fs hd
  simp only[aB]at hd
  obtain⟨r,hr,hk⟩:=ah hk
  have hf:P.fieldsOf t=fs:=by simp[Program.fieldsOf,hd]
  have he: ∀w,(Op.equalIn 10000 t (.agg xs.toArray) (.agg ys.toArray)).run P w= .ok r w:=fun w=>by
   rw[run_equalIn_struct w 9999 t _ _ (by rw[hf];exact hd) h1,hf]
   exact Ib hx hy 9997 w hr
  have hg: ∀w,(eqGuard op t xo yo (.agg xs.toArray) (.agg ys.toArray)).run P w= .ok () w:=fun w=>run_eqGuard_agg w op t xo yo _ _ h2
  split at hk
  ·exact bM hk fun w=>by simp only[Sem.run_bind,hg,Result.andThen_ok,run_eql_struct,he]
  ·exact bM hk fun w=>by simp only[Sem.run_bind,hg,Result.andThen_ok,run_neq_struct,he]
  ·cases hk
 ·cases hk
theorem aaN {op:BinOp}{t:TypeId}{xo yo:Operand}{x y:RV}{vx vy:Value}{k:RV->Bool}(hx:GR ρ x vx)(hy:GR ρ y vy)(hk:YH P op t (ig xo||ig yo) x y k=true):
 Pu P ρ k (do eqGuard op t xo yo vx vy;binOp op t vx vy):=by
 have plain: ∀{a b:CV},G ρ a vx->G ρ b vy->vx≠ .nilIface->Pu P ρ k (binOp op t vx vy)->Pu P ρ k (do eqGuard op t xo yo vx vy;binOp op t vx vy):=fun ha hb hn ⟨r,v,h1,h2,h3⟩=>
  ⟨r,v,h1,h2,fun w=>by simp only[Sem.run_bind,wR ha hb (.inl hn) w,Result.andThen_ok,h3]⟩
 unfold YH at hk
 split at hk
 ·cases hx with
  |c hx=>cases hy with
   |c hy=>
    split at hk
    ·cases hx;cases hy
     refine plain (.int _ _) (.int _ _) (by simp) ?_
     split at hk
     ·exact UR (.inl rfl) hk
     ·exact UR (.inr rfl) hk
     ·obtain⟨hq,hk2⟩:=aj hk
      have hq:=of_decide_eq_true hq
      subst hq
      exact aaO hk2
    ·cases hx with
     |str _ h1=>cases hy with
      |str _ h2=>exact plain (.str _ h1) (.str _ h2) (by simp) (ZP h1 h2 hk)
    ·exact acI hx hy hk
 ·cases hx with
  |agg hx=>cases hy with
   |agg hy=>exact YR hx hy hk
 ·cases hk
end
end bC
end Go.Proofs.YtakhobfamnjnoaaGreatDoor
