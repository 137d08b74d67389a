/- Symbolic runs: operations with their types looked up; how they are run. -/
import Derived.Test.YtakhobfamnjnoaaGreatDoorC04
set_option linter.unusedVariables false
set_option linter.unusedSimpArgs false
namespace Go.Proofs.YtakhobfamnjnoaaGreatDoor
namespace Sx
open Go Go.RowKit
structure EG {α:Type}(o:Option α)(k:α->Prop):Prop where
 h: ∃v,o=some v/\k v
structure lu (c:Bool)(k:Unit->Prop):Prop where
 h:c=true/\k ()
structure BrS (c:Bool)(k m:Unit->Prop):Prop where
 t:c=true->k ()
 f:c=false->m ()
structure ag0 {α:Type}(o:Option α)(kn:Unit->Prop)(ks:α->Prop):Prop where
 n:o=none->kn ()
 s: ∀v,o=some v->ks v
structure aiA (e:Prop)(kt kf:Unit->Prop):Prop where
 t:e->kt ()
 f:kf ()
structure ahE (es:List ME)(seen:List Nat)(kn:Unit->Prop)(ks:ME->Prop):Prop where
 n:(∀e∈es,e.born∈seen)->kn ()
 s: ∀e∈es,e.born∉seen->ks e
def Un (T:List Nat)(O:Own)(w:World)(O':Own)(w':World):Prop:= ∀i k q,i∉T->O i k q->O' i k q/\w'.heap[q]?=w.heap[q]?
structure iM (P:Program)(f:FuncId)(args:List AV)(h:Hp)(k:List Nat->RV->Hp->Prop):Prop where
 enter: ∀w (xs:List Value),(callFunc f xs.toArray).run P w= .ok (.enter f xs.toArray) w
 run: ∀ρ O w xs,HR P ρ h O w->F2 (GA ρ) args xs->Calls P f xs.toArray w fun e w'=> ∃T r x ρ' h' O',e= .returned x/\k T r h'/\ρ.le ρ'/\Fm ρ.fz O w ρ'.fz O' w'/\HR P ρ' h' O' w'/\h.length<=h'.length/\Un T O w O' w'/\GR ρ' r x
abbrev bK:=List RV
def ofP:Value->Option PV
 | .bool true=>some .tt
 | .bool false=>some .ff
 | .int k n=>some (.lit k n)
 | .string s=>some (.str s)
 | .pointer none=>some .nU
 | .slice none 0 0=>some .bZ
 | .map none=>some .nV
 | .chan none=>some .uK
 | .nilFunc=>some .oQ
 | .nilIface=>some .qN
 |_=>none
def Qv:List Value->Option (List SV)
 |[]=>some []
 |v::l=>match ofP v,Qv l with
  |some p,some r=>some (.p p::r)
  |_,_=>none
def ofV:Value->RV
 | .agg cs=>match Qv cs.toList with
   |some l=> .a (.agg l)
   |none=> .u
 | .tuple ts=>match ts.toList with
   |[]=> .undef
   |_=> .u
 |v=>match ofP v with
  |some p=> .a (.c (.p p))
  |none=> .u
def eg:bK->Nat->RV
 |[],_=> .u
 |v::_,0=>v
 |_::l,n+1=>eg l n
def es (e:bK)(d:Option Nat)(v:RV):bK:=match d with
 |none=>e
 |some d=>fM .u e d v
def ev (e:bK):Operand->RV
 | .tmp t=>eg e t
 | .const v=>ofV v
 | .global _=> .u
 | .func f=> .a (.c (.p (.fn f)))
def evs (e:bK):List Operand->Option (List AV)
 |[]=>some []
 |x::l=>match ev e x,evs e l with
  | .a v,some r=>some (v::r)
  |_,_=>none
def oid {α:Type}(o:Option α):Option α:=o
abbrev jE:=Array (Unit->TypeInfo)
def inf (T:jE)(t:TypeId):Option TypeInfo:=match oid T[t]? with
 |some f=>some (f ())
 |none=>none
class lN (P:Program) (T:jE):Prop where
 ok:P.types=T.map (· ())
def und (T:jE)(t:TypeId):Option TypeDesc:=match inf T t with
 |some {desc:= .named _ u, ..}=>(match inf T u with|some i=>some i.desc|none=>none)
 |some i=>some i.desc
 |none=>none
def agg (T:jE)(t:TypeId):Option (Option Nat):=match und T t,inf T t with
 |some (.struct _),some i=>some (some i.size)
 |some (.array ..),some i=>some (some i.size)
 |some _,some _=>some none
 |_,_=>none
def zV (T:jE)(t:TypeId):Option Nat:=match inf T t with
 |some i=>some i.size
 |none=>none
def rC (T:jE)(t:TypeId):Option (List SV):=match inf T t with
 |some i=>(match i.zero with|some z=>Qv z.cells.toList|none=>none)
 |none=>none
inductive KD where
 |int (q:IntKind)|str
def Eb:TypeDesc->Option KD
 | .int q=>some (.int q)
 | .string=>some .str
 |_=>none
def keyOf (kd:KD)(r:RV):Option KV:=match kd,r with
 | .int q, .a (.c (.p (.int r n)))=>(match decide (q=r)with|true=>some (.one (.int r n))|false=>none)
 | .int q, .a (.c (.p (.lit r n)))=>(match decide (q=r)with|true=>some (.one (.int r n))|false=>none)
 | .str, .a (.c (.p (.str s)))=>some (.one (.str s))
 |_,_=>none
def Vr (kd:KD)(k:KV):Bool:=match kd,k with
 | .int q, .one (.int r _)=>decide (q=r)
 | .str, .one (.str _)=>true
 |_,_=>false
def NS (a b:KV):Bool:=match a,b with
 | .one (.int _ n), .one (.int _ m)=>decide (n=m)
 | .one (.str s), .one (.str t)=>decide (s=t)
 |_,_=>false
def vN (kd:KD)(es:List ME):Bool:=es.all fun e=>Vr kd e.key
def Ho (key:KV)(es:List ME):Option ME:=es.find? fun e=>NS key e.key
def DZ (key:KV)(v:AV)(c:Nat):List ME->List ME
 |[]=>[⟨key,v,c⟩]
 |e::l=>(match NS key e.key with|true=>⟨key,v,e.born⟩::l|false=>e::DZ key v c l)
def LH (key:KV)(c:Nat)(es:List ME):Nat:=match Ho key es with
 |some _=>c
 |none=>c+1
def BM (key:KV):List ME->List ME
 |[]=>[]
 |e::l=>(match NS key e.key with|true=>l|false=>e::BM key l)
def avK:KV->AV
 | .one p=> .c (.p p)
 | .agg l=> .agg (l.map .p)
def QS (ok:Bool)(v:AV)(is:PV):RV:=match ok with
 |true=> .aK [v, .c (.p is)]
 |false=> .a v
def abJ (es:List ME)(since stepped:Nat):Bool:=es.all (fun e=>decide (e.born<since))&&decide (since<=stepped)
def aaW (s:ByteArray)(pos:Nat):Option (Nat×Nat):=if pos<s.size then some (Utf8.decode s pos)else none
def Um (T:jE)(t:TypeId):Option AV:=match inf T t with
 |some i=>(match i.zero with
  |some z=>(match ofV z with| .a v=>some v|_=>none)
  |none=>none)
 |none=>none
def Jt (mn:Bool)(a b:Int):Int:=match mn with
 |true=>if b<a then b else a
 |false=>if b>a then b else a
def Xr:RV->Option (IntKind×Int)
 | .a (.c (.p (.int q n)))=>some (q,n)
 | .a (.c (.p (.lit q n)))=>some (q,n)
 |_=>none
inductive FK where
 |int|str|bool
inductive NK where
 |ptr|slice|map|func
inductive Ox where
 |mv (x:Operand)|pick (c a b:Operand)|uK (x:Operand)|fa (off:Nat) (x:Operand)|fd (n:Option Nat) (off:Nat) (x:Operand)
 |ld (n:Option Nat) (x:Operand)|st (n:Nat) (x v:Operand)|al (z:List SV) (e:TypeId)|box (e:TypeId) (v:Operand)
 |bi (op:BinOp) (x y:Operand)|bs (op:BinOp) (x y:Operand)|bb (neg:Bool) (x y:Operand)|bn (kd:NK) (neg:Bool) (x y:Operand)|be (neg:Bool) (t:TypeId) (fs:List (Nat×FK)) (x y:Operand)
 |neg (x:Operand)|no (x:Operand)|cs (x:Operand)|ci (q:IntKind) (x:Operand)|ext(i:Nat) (x:Operand)|len (x:Operand)|lenb (x:Operand)
 |ixs (sz:Nat) (x i:Operand)|ixa (sz len:Nat) (x i:Operand)|ixv (x i:Operand)
 |bld (z:List SV) (ps:List (Nat×Nat×Operand))|bsl (e:TypeId) (sz len:Nat) (z:List SV) (ps:List (Nat×Nat×Operand))
 |mks (e:TypeId) (sz:Nat) (z:List SV) (l:Operand)|apd (e:TypeId) (sz:Nat) (s x:Operand)|slc (sz:Nat) (x:Operand) (lo hi:Option Operand)|sls (x:Operand) (lo hi:Option Operand)
 |mkf (f:FuncId) (first caps:List Operand)|call (f:FuncId) (args:List Operand)|XR (f:Operand) (args:List Operand)
 |lkp (kd:KD) (z:AV) (ok:Bool) (x key:Operand)|abu (x:Operand)|ent (x:Operand)|mmx (mn:Bool) (x y:Operand)|mki (t:TypeId) (x:Operand)|ta (z:AV) (t:TypeId) (ok:Bool) (x:Operand)
 |mu (kd:KD) (m key v:Operand)|del (kd:KD) (m key:Operand)|mkm|rg (isS:Bool) (x:Operand)|nxt (isS:Bool) (x:Operand)
 |bad
def Hz (T:jE):List Field->Option (List (Nat×FK))
 |[]=>some []
 |f::l=>match f.name== "_",und T f.type,Hz T l with
  |false,some (.int _),some r=>some ((f.offset, .int)::r)
  |false,some .string,some r=>some ((f.offset, .str)::r)
  |false,some .bool,some r=>some ((f.offset, .bool)::r)
  |_,_,_=>none
def Y5 (T:jE):List Field->Option (List (Nat×Nat))
 |[]=>some []
 |f::l=>match inf T f.type,Y5 T l with
  |some i,some r=>some ((f.offset,i.size)::r)
  |_,_=>none
def Qu (pl:List (Nat×Nat)):List (Nat×Operand)->Option (List (Nat×Nat×Operand))
 |[]=>some []
 |(f,x)::l=>match aF pl f,Qu pl l with
  |some (o,n),some r=>some ((o,n,x)::r)
  |_,_=>none
def WW (sz:Nat):List (Nat×Operand)->List (Nat×Nat×Operand)
 |[]=>[]
 |(f,x)::l=>(Nat.mul f sz,sz,x)::WW sz l
def isNeg:BinOp->Option Bool
 | .eql=>some false
 | .neq=>some true
 |_=>none
def bF {α β:Type}:Option α->(α->Option β)->Option β
 |none,_=>none
 |some a,f=>f a
def rop (T:jE):Op->Option Ox
 | .move x=>some (.mv x)
 | .assign x=>some (.mv x)
 | .pick c a b=>some (.pick c a b)
 | .nilCheck x=>some (.uK x)
 | .fieldAddr t x f=>bF (und T t) fun d=>match d with
   | .struct fs=>bF (aF fs.toList f) fun fd=>bF (zV T fd.type) fun n=>(match n with|0=>none|_=>some (.fa fd.offset x))
   |_=>none
 | .field t x f=>bF (und T t) fun d=>match d with
   | .struct fs=>bF (aF fs.toList f) fun fd=>bF (agg T fd.type) fun n=>some (.fd n fd.offset x)
   |_=>none
 | .load t x=>bF (agg T t) fun n=>some (.ld n x)
 | .store t x v=>bF (zV T t) fun n=>some (.st n x v)
 | .alloc t=>bF (rC T t) fun z=>some (.al z t)
 | .box t v=>some (.box t v)
 | .binOp op t x y _=>bF (und T t) fun d=>match d with
   | .int _=>some (.bi op x y)
   | .string=>some (.bs op x y)
   | .bool=>bF (isNeg op) fun b=>some (.bb b x y)
   | .pointer _=>bF (isNeg op) fun b=>some (.bn .ptr b x y)
   | .slice _=>bF (isNeg op) fun b=>some (.bn .slice b x y)
   | .map .. =>bF (isNeg op) fun b=>some (.bn .map b x y)
   | .func .. =>bF (isNeg op) fun b=>some (.bn .func b x y)
   | .struct fs=>bF (isNeg op) fun b=>bF (Hz T fs.toList) fun l=>some (.be b t l x y)
   |_=>none
 | .unOp .neg _ x=>some (.neg x)
 | .unOp .not _ x=>some (.no x)
 | .convert s d x=>bF (und T s) fun a=>bF (und T d) fun b=>match a,b with
   | .int _, .int q=>some (.ci q x)
   | .string, .string=>some (.cs x)
   |_,_=>none
 | .extract x i=>some (.ext i x)
 | .indexAddr t x i=>bF (und T t) fun d=>match d with
   | .slice e=>bF (zV T e) fun n=>some (.ixs n x i)
   | .array len e=>bF (zV T e) fun n=>some (.ixa n len x i)
   |_=>none
 | .index t x i=>bF (und T t) fun d=>match d with
   | .string=>some (.ixv x i)
   |_=>none
 | .build t ps=>bF (und T t) fun d=>match d with
   | .struct fs=>bF (Y5 T fs.toList) fun pl=>bF (Qu pl ps.toList) fun l=>bF (rC T t) fun z=>some (.bld z l)
   |_=>none
 | .buildSlice t len ps=>bF (und T t) fun d=>match d with
   | .slice e=>bF (zV T e) fun n=>bF (rC T e) fun z=>(match n,Nat.ble (Nat.mul len n) 16777216,Nat.beq (llen z) n with|0,_,_=>none|_,true,true=>some (.bsl e n len z (WW n ps.toList))|_,_,_=>none)
   |_=>none
 | .makeSlice t l c=>bF (und T t) fun d=>match d,l,c with
   | .slice e, .tmp i, .tmp j=>(match Nat.beq i j with|true=>bF (inf T e) fun n=>bF (rC T e) fun z=>(match Nat.beq (llen z) n.size,Nat.ble n.bytes 8388608 with|true,true=>some (.mks e n.size z l)|_,_=>none)|false=>none)
   |_,_,_=>none
 | .slice t x lo hi none=>bF (und T t) fun d=>match d with
   | .slice e=>bF (zV T e) fun n=>some (.slc n x lo hi)
   | .string=>some (.sls x lo hi)
   |_=>none
 | .makeFunc (.func f) first caps=>some (.mkf f first.toList caps.toList)
 | .lookup t x i ok=>bF (und T t) fun d=>match d with
   | .map kt et=>bF (und T kt) fun dk=>bF (Eb dk) fun kd=>bF (Um T et) fun z=>some (.lkp kd z ok x i)
   |_=>none
 | .mapUpdate t m key v=>bF (und T t) fun d=>match d with
   | .map kt _=>bF (und T kt) fun dk=>bF (Eb dk) fun kd=>some (.mu kd m key v)
   |_=>none
 | .makeMap _ none=>some .mkm
 | .makeInterface t x=>bF (und T t) fun d=>match d with
   | .interface _=>none
   |_=>some (.mki t x)
 | .typeAssert x _ t ok=>bF (und T t) fun d=>match d with
   | .interface _=>none
   |_=>bF (Um T t) fun z=>some (.ta z t ok x)
 | .range t x=>bF (und T t) fun d=>match d with
   | .map .. =>some (.rg false x)
   | .string=>some (.rg true x)
   |_=>none
 | .next x s=>some (.nxt s x)
 | .entry x=>some (.ent x)
 | .call c=>match c.callee,c.args.toList,c.argTypes.toList with
   | .builtin .delete,[m,key],[t,_]=>bF (und T t) fun d=>match d with
     | .map kt _=>bF (und T kt) fun dk=>bF (Eb dk) fun kd=>some (.del kd m key)
     |_=>none
   | .builtin .min,[x,y],_=>some (.mmx true x y)
   | .builtin .max,[x,y],_=>some (.mmx false x y)
   | .builtin .len,[x],[t]=>bF (und T t) fun d=>(match d with| .slice _=>some (.len x)| .string=>some (.lenb x)| .map .. =>some (.abu x)|_=>none)
   | .builtin .append,[s,x],[t,t2]=>bF (und T t) fun d=>bF (und T t2) fun d2=>(match d,d2 with| .slice e, .slice _=>bF (inf T e) fun i=>(match rC T e with|some z=>(match Nat.beq (llen z) i.size,Nat.ble i.bytes 8388608 with|true,true=>some (.apd e i.size s x)|_,_=>none)|none=>none)|_,_=>none)
   | .value (.func f),l,_=>some (.call f l)
   | .value x,l,_=>some (.XR x l)
   |_,_,_=>none
 |_=>none
section
variable (bx:{α:Type}->α->α)
def au {α:Type}:Option α->(α->Prop)->Prop
 |none,_=>False
 |some a,k=>k a
def wr (q:IntKind)(n:Int):Int:=match q with
 | .i64=>wrap64 n
 |q=>q.wrap n
def YX:List PV->List SV
 |[]=>[]
 |a::l=> .p a::YX l
def wu:List SV->Option (List PV)
 |[]=>some []
 | .p a::l=>match wu l with
   |some r=>some (a::r)
   |none=>none
 |_::_=>none
def zK (l:List PV)(off n:Nat):Option (List PV):=if off+n<=l.length then some ((l.drop off).take n)else none
def gB {α:Type}:List α->List α->Nat->List α
 |[],l,_=>l
 |x::xs,l,n=>gB xs (l.set n x) (n+1)
def kb (k:RV->Prop)(b:Bool):Prop:=match b with
 |true=>k (.a (.c (.p .tt)))
 |false=>k (.a (.c (.p .ff)))
def kl (q:IntKind)(k:RV->Prop)(n:Int):Prop:=k (.a (.c (.p (.lit q n))))
def biL (op:BinOp)(q:IntKind)(a b:Int)(k:RV->Prop):Prop:=match op with
 | .add=>kl q k (q.wrap (a+b))
 | .sub=>kl q k (q.wrap (a-b))
 | .mul=>kl q k (q.wrap (a*b))
 | .quo=>(match decide (b=0)with|true=>False|false=>kl q k (q.wrap (a.tdiv b)))
 | .rem=>(match decide (b=0)with|true=>False|false=>kl q k (a.tmod b))
 | .eql=>kb k (decide (a=b))
 | .neq=>kb k (!decide (a=b))
 | .lss=>kb k (decide (a<b))
 | .leq=>kb k (decide (a<=b))
 | .gtr=>kb k (decide (b<a))
 | .geq=>kb k (decide (b<=a))
 |_=>False
def bit (q:IntKind)(f:Nat->Nat->Nat)(a b:Int):Int:=q.wrap (f (BitVec.ofInt q.bits a).toNat (BitVec.ofInt q.bits b).toNat:Nat)
def biS (op:BinOp)(q:IntKind)(a b:Int)(k:RV->Prop):Prop:=match op with
 | .add=>k (.a (.c (.p (.int q (bx (wr q (a+b)))))))
 | .sub=>k (.a (.c (.p (.int q (bx (wr q (a-b)))))))
 | .mul=>k (.a (.c (.p (.int q (bx (wr q (a*b)))))))
 | .quo=>lu (bx (!decide (b=0))) fun _=>k (.a (.c (.p (.int q (bx (wr q (a.tdiv b)))))))
 | .rem=>lu (bx (!decide (b=0))) fun _=>k (.a (.c (.p (.int q (bx (a.tmod b))))))
 | .and=>k (.a (.c (.p (.int q (bx (bit q Nat.land a b))))))
 | .or=>k (.a (.c (.p (.int q (bx (bit q Nat.lor a b))))))
 | .xor=>k (.a (.c (.p (.int q (bx (bit q Nat.xor a b))))))
 | .shl=>lu (bx (decide (0<=b))) fun _=>k (.a (.c (.p (.int q (bx (wr q (a*2^(min b.toNat q.bits))))))))
 | .shr=>lu (bx (decide (0<=b))) fun _=>k (.a (.c (.p (.int q (bx (a.fdiv (2^(min b.toNat q.bits))))))))
 | .eql=>k (.a (.c (.p (.bool (bx (decide (a=b)))))))
 | .neq=>k (.a (.c (.p (.bool (bx (!decide (a=b)))))))
 | .lss=>k (.a (.c (.p (.bool (bx (decide (a<b)))))))
 | .leq=>k (.a (.c (.p (.bool (bx (decide (a<=b)))))))
 | .gtr=>k (.a (.c (.p (.bool (bx (decide (b<a)))))))
 | .geq=>k (.a (.c (.p (.bool (bx (decide (b<=a)))))))
 |_=>False
def biD (op:BinOp)(q:IntKind)(a b:Int)(k:RV->Prop):Prop:=match op,decide (b=0)with
 | .quo,false=>k (.a (.c (.p (.int q (bx (wr q (a.tdiv b)))))))
 | .rem,false=>k (.a (.c (.p (.int q (bx (a.tmod b))))))
 | .quo,true=>False
 | .rem,true=>False
 |op,_=>biS bx op q a b k
def Xq:BinOp->Bool
 | .shl=>true
 | .shr=>true
 |_=>false
def same (q q':IntKind):Bool:=match q,q' with
 | .i8, .i8=>true| .i16, .i16=>true| .i32, .i32=>true| .i64, .i64=>true| .u8, .u8=>true| .u16, .u16=>true| .u32, .u32=>true| .u64, .u64=>true
 |_,_=>false
def PU (op:BinOp)(q q':IntKind):Bool:=match Xq op with|true=>true|false=>same q q'
def bi (op:BinOp)(x y:RV)(k:RV->Prop):Prop:=match x,y with
 | .a (.c (.p (.lit q a))), .a (.c (.p (.lit q' b)))=>(match same q q' with|true=>biL op q a b k|false=>False)
 | .a (.c (.p (.int q a))), .a (.c (.p (.lit q' b)))=>(match PU op q q' with|true=>biD bx op q a b k|false=>False)
 | .a (.c (.p (.lit q a))), .a (.c (.p (.int q' b)))=>(match PU op q q' with|true=>biS bx op q a b k|false=>False)
 | .a (.c (.p (.int q a))), .a (.c (.p (.int q' b)))=>(match PU op q q' with|true=>biS bx op q a b k|false=>False)
 |_,_=>False
def aaS (op:BinOp)(a b:ByteArray)(k:RV->Prop):Prop:=match op with
 | .add=>lu (bx (decide (a.size+b.size<=1099511627776))) fun _=>k (.a (.c (.p (.str (bx (a++b))))))
 | .eql=>k (.a (.c (.p (.bool (bx (a.toList==b.toList))))))
 | .neq=>k (.a (.c (.p (.bool (bx (!(a.toList==b.toList)))))))
 |_=>False
def Kz:PV->Option Bool
 | .tt=>some true
 | .ff=>some false
 |_=>none
def O5:PV->Option Bool
 | .tt=>some true
 | .ff=>some false
 | .bool b=>some b
 |_=>none
def oq:Bool->Bool->Bool
 |true,b=>!b
 |false,b=>b
def isNil:NK->SV->Option Bool
 | .ptr, .p .nU=>some true
 | .ptr, .ptr .. =>some false
 | .ptr, .pts .. =>some false
 | .ptr, .fp _=>some false
 | .slice, .p .bZ=>some true
 | .map, .p .nV=>some true
 | .map, .mp .. =>some false
 | .func, .p .oQ=>some true
 | .func, .p (.fn _)=>some false
 | .func, .clo .. =>some false
 |_,_=>none
def abn (kd:NK)(x y:SV):Option Bool:=match isNil kd x,isNil kd y with
 |some true,r=>r
 |r,some true=>r
 |_,_=>none
def slq:SV->Option Nat
 | .p (.fz m _)=>some m
 | .sl _ _ _ m=>some m
 |_=>none
def Hl (kd:NK)(a b:SV)(k:Bool->Prop):Prop:=match abn kd a b with
 |some r=>k r
 |none=>(match kd,slq a,isNil .slice b with
  | .slice,some m,some true=>aiA (m=0) (fun _=>k true) (fun _=>k false)
  |_,_,_=>False)
def Xu:PV->Option (IntKind×Int)
 | .int q n=>some (q,n)
 | .lit q n=>some (q,n)
 |_=>none
def eq1 (t:FK)(a b:PV):Option Bool:=match t with
 | .int=>(match Xu a,Xu b with
   |some (q,x),some (q',y)=>(match same q q' with|true=>some (bx (decide (x=y)))|false=>none)
   |_,_=>none)
 | .str=>(match a,b with
   | .str x, .str y=>some (bx (x.toList==y.toList))
   |_,_=>none)
 | .bool=>none
def eqF (l m:List SV):List (Nat×FK)->Option (List Bool)
 |[]=>some []
 |(o,t)::fs=>match aF l o,aF m o,eqF l m fs with
  |some (.p a),some (.p b),some r=>(match eq1 bx t a b with
   |some e=>some (e::r)
   |none=>none)
  |_,_,_=>none
def allB:List Bool->Bool
 |[]=>true
 |b::l=>b&&allB l
def acc (h:Hp)(i k:Nat)(K:AO->Prop):Prop:=match aF h i with
 |some (.one o)=>(match k with|0=>K o|_=>False)
 |some (.many f)=>EG (bx (f k)) K
 |_=>False
def y5 (n:Option Nat)(l:List SV)(off:Nat)(k:RV->Prop):Prop:=match n with
 |none=>au (aF l off) fun c=>k (.a (.c c))
 |some n=>(match Nat.ble (Nat.add off n) (llen l)with|true=>k (.a (.agg (tk n (drp off l))))|false=>False)
def one1 (n:Option Nat):Nat:=match n with
 |none=>1
 |some n=>n
def OL (n:Option Nat)(l:List PV)(off:Nat)(k:RV->Prop):Prop:=EG (bx (zK l off (one1 n))) fun c=>match n with
 |none=>(match c with|[a]=>k (.a (.c (.p a)))|_=>False)
 |some _=>k (.a (.agg (YX c)))
def Uy:RV->Option (List SV)
 | .a (.c v)=>some [v]
 | .a (.agg l)=>some l
 |_=>none
def WU:RV->Option Nat
 | .a (.c (.p (.lit _ n)))=>(match n with| .ofNat n=>some n| .negSucc _=>none)
 |_=>none
def evo (e:bK):Option Operand->Option RV
 |none=>none
 |some x=>some (ev e x)
def bnd (d:Nat):Option RV->Option Int
 |none=>some (Int.ofNat d)
 |some (.a (.c (.p (.lit _ n))))=>some n
 |some (.a (.c (.p (.int _ n))))=>some n
 |_=>none
def fills (e:bK):List (Nat×Nat×Operand)->List SV->Option (List SV)
 |[],z=>some z
 |(o,n,x)::l,z=>match Uy (ev e x)with
  |some c=>(match Nat.beq (llen c) n,Nat.ble (Nat.add o n) (llen z)with|true,true=>fills e l (gB c z o)|_,_=>none)
  |none=>none
abbrev Ids:=List (Nat×Nat)
def jl (P:Program)(o:Ox)(e:bK)(h:Hp)(k:RV->Ids->Prop):Prop:=match o with
 | .mv x=>k (ev e x) []
 | .pick c a b=>(match ev e c with
   | .a (.c (.p .tt))=>k (ev e a) []
   | .a (.c (.p .ff))=>k (ev e b) []
   | .a (.c (.p (.bool q)))=>BrS q (fun _=>k (ev e a) []) (fun _=>k (ev e b) [])
   |_=>False)
 | .uK x=>(match ev e x with
   | .a (.c (.ptr i j o))=>k (.a (.c (.ptr i j o))) []
   | .a (.c (.pts i j o))=>k (.a (.c (.pts i j o))) []
   | .a (.c (.fp l))=>k (.a (.c (.fp l))) []
   | .a (.c (.p (.fn f)))=>k (.a (.c (.p (.fn f)))) []
   | .a (.c (.clo i j))=>k (.a (.c (.clo i j))) []
   |_=>False)
 | .fa off x=>(match ev e x with
   | .a (.c (.ptr i j o))=>k (.a (.c (.ptr i j (Nat.add o off)))) []
   | .a (.c (.pts i j o))=>k (.a (.c (.pts i j (bx (o+off))))) []
   | .a (.c (.fp l))=>k (.a (.c (.fp (drp off l)))) []
   |_=>False)
 | .fd n off x=>(match ev e x with
   | .a (.agg l)=>y5 n l off fun r=>k r []
   |_=>False)
 | .ld n x=>(match ev e x with
   | .a (.c (.ptr i j o))=>acc bx h i j fun ob=>(match ob with
     | .row l _=>y5 n l o fun r=>k r [(i,j)]
     | .bH l _=>OL bx n l o fun r=>k r [(i,j)]
     |_=>False)
   | .a (.c (.pts i j o))=>acc bx h i j fun ob=>(match ob with
     | .bH l _=>OL bx n l o fun r=>k r [(i,j)]
     |_=>False)
   | .a (.c (.fp l))=>y5 n (YX l) 0 fun r=>k r []
   |_=>False)
 | .bi op x y=>bi bx op (ev e x) (ev e y) fun r=>k r []
 | .bs op x y=>(match ev e x,ev e y with
   | .a (.c (.p (.str a))), .a (.c (.p (.str b)))=>aaS bx op a b fun r=>k r []
   |_,_=>False)
 | .bb n x y=>(match ev e x,ev e y with
   | .a (.c (.p a)), .a (.c (.p b))=>(match Kz a,Kz b with
     |some a,some b=>kb (fun r=>k r []) (oq n (a==b))
     |_,_=>(match O5 a,O5 b with
      |some a,some b=>k (.a (.c (.p (.bool (bx (oq n (a==b))))))) []
      |_,_=>False))
   |_,_=>False)
 | .bn kd n x y=>(match ev e x,ev e y with
   | .a (.c a), .a (.c b)=>Hl kd a b fun r=>kb (fun r=>k r []) (oq n r)
   |_,_=>False)
 | .be n t fs x y=>(match ev e x,ev e y with
   | .a (.agg l), .a (.agg m)=>lu (bx (!(P.stoodInHeld t||P.eqGuardType P.depth t))) fun _=>au (eqF bx l m fs) fun bs=>k (.a (.c (.p (.bool (bx (oq n (allB bs))))))) []
   |_,_=>False)
 | .neg x=>(match ev e x with
   | .a (.c (.p (.int q n)))=>k (.a (.c (.p (.int q (bx (wr q (-n))))))) []
   | .a (.c (.p (.lit q n)))=>kl q (fun r=>k r []) (q.wrap (-n))
   |_=>False)
 | .no x=>(match ev e x with
   | .a (.c (.p .tt))=>k (.a (.c (.p .ff))) []
   | .a (.c (.p .ff))=>k (.a (.c (.p .tt))) []
   | .a (.c (.p (.bool b)))=>k (.a (.c (.p (.bool (bx (!b)))))) []
   |_=>False)
 | .cs x=>(match ev e x with
   | .a (.c (.p (.str s)))=>k (.a (.c (.p (.str s)))) []
   |_=>False)
 | .ci q x=>(match ev e x with
   | .a (.c (.p (.int _ n)))=>k (.a (.c (.p (.int q (bx (wr q n)))))) []
   | .a (.c (.p (.lit _ n)))=>kl q (fun r=>k r []) (q.wrap n)
   |_=>False)
 | .ext i x=>(match ev e x with
   | .aK l=>au (aF l i) fun v=>k (.a v) []
   |_=>False)
 | .len x=>(match ev e x with
   | .a (.c (.p .bZ))=>k (.a (.c (.p (.lit .i64 0)))) []
   | .a (.c (.p (.fz n _)))=>k (.a (.c (.p (.int .i64 (bx (Int.ofNat n)))))) []
   | .a (.c (.sl _ _ _ n))=>k (.a (.c (.p (.int .i64 (bx (Int.ofNat n)))))) []
   |_=>False)
 | .lenb x=>(match ev e x with
   | .a (.c (.p (.str s)))=>k (.a (.c (.p (.int .i64 (bx (Int.ofNat s.size)))))) []
   |_=>False)
 | .ixs sz x y=>(match ev e x,ev e y with
   | .a (.c (.p (.fz n l))), .a (.c (.p (.int _ m)))=>EG (bx (if 0<=m then zK l (m.toNat*sz) sz else none)) fun c=>lu (bx (decide (0<sz)&&decide (m.toNat<n))) fun _=>k (.a (.c (.fp c))) []
   | .a (.c (.p (.fz n l))), .a (.c (.p (.lit _ m)))=>EG (bx (if 0<=m then zK l (m.toNat*sz) sz else none)) fun c=>lu (bx (decide (0<sz)&&decide (m.toNat<n))) fun _=>k (.a (.c (.fp c))) []
   | .a (.c (.sl i j o n)), .a (.c (.p (.int _ m)))=>lu (bx (decide (0<=m)&&decide (m<n))) fun _=>k (.a (.c (.pts i j (bx (o+m.toNat*sz))))) []
   | .a (.c (.sl i j o n)), .a (.c (.p (.lit q m)))=>au (WU (.a (.c (.p (.lit q m))))) fun m=>lu (bx (decide (m<n))) fun _=>k (.a (.c (.ptr i j (Nat.add o (Nat.mul m sz))))) []
   |_,_=>False)
 | .ixa sz len x y=>(match ev e x with
   | .a (.c (.ptr i j o))=>au (WU (ev e y)) fun m=>(match Nat.ble (Nat.succ m) len with|true=>k (.a (.c (.ptr i j (Nat.add o (Nat.mul m sz))))) []|false=>False)
   |_=>False)
 | .ixv x y=>(match ev e x,ev e y with
   | .a (.c (.p (.str s))), .a (.c (.p (.int _ m)))=>EG (bx (if 0<=m then s[m.toNat]? else none)) fun c=>k (.a (.c (.p (.int .u8 (bx (Int.ofNat c.toNat)))))) []
   | .a (.c (.p (.str s))), .a (.c (.p (.lit _ m)))=>EG (bx (if 0<=m then s[m.toNat]? else none)) fun c=>k (.a (.c (.p (.int .u8 (bx (Int.ofNat c.toNat)))))) []
   |_,_=>False)
 | .bld z ps=>au (fills e ps z) fun l=>k (.a (.agg l)) []
 | .slc sz x lo hi=>(match ev e x with
   | .a (.c (.p (.fz n l)))=>au (bnd 0 (evo e lo)) fun a=>au (bnd n (evo e hi)) fun b=>lu (bx (decide (0<=a)&&decide (a<=b)&&decide (b<=n))) fun _=>k (.a (.c (.p (.fz (bx (b.toNat-a.toNat)) (bx ((l.drop (a.toNat*sz)).take ((b.toNat-a.toNat)*sz))))))) []
   |_=>False)
 | .sls x lo hi=>(match ev e x with
   | .a (.c (.p (.str s)))=>au (bnd 0 (evo e lo)) fun a=>(match hi with
     |none=>lu (bx (decide (0<=a)&&decide (a<=s.size))) fun _=>k (.a (.c (.p (.str (bx (s.extract a.toNat s.size)))))) []
     |some y=>au (bnd 0 (some (ev e y))) fun b=>lu (bx (decide (0<=a)&&decide (a<=b)&&decide (b<=s.size))) fun _=>k (.a (.c (.p (.str (bx (s.extract a.toNat b.toNat)))))) [])
   |_=>False)
 | .lkp kd z ok x y=>au (keyOf kd (ev e y)) fun key=>(match ev e x with
   | .a (.c (.p .nV))=>k (QS ok z .ff) []
   | .a (.c (.mp i j))=>acc bx h i j fun o=>(match o with
     | .map l _=>lu (bx (vN kd l.li)) fun _=>ag0 (bx (Ho key l.li)) (fun _=>k (QS ok z .ff) [(i,j)]) (fun m=>k (QS ok m.val .tt) [(i,j)])
     |_=>False)
   |_=>False)
 | .abu x=>(match ev e x with
   | .a (.c (.p .nV))=>k (.a (.c (.p (.lit .i64 0)))) []
   | .a (.c (.mp i j))=>acc bx h i j fun o=>(match o with
     | .map l _=>k (.a (.c (.p (.int .i64 (bx (Int.ofNat l.li.length)))))) [(i,j)]
     |_=>False)
   |_=>False)
 | .ent x=>(match ev e x with
   | .a (.c (.ptr i j 0))=>acc bx h i j fun o=>(match o with
     | .fJ m n _ (s::_) c=>acc bx h m n fun o=>(match o with
       | .map l d=>lu (bx (decide (d=c))) fun _=>EG (bx (l.li.find? fun e=>e.born==s)) fun e=>k (.aK [avK e.key,e.val]) [(i,j),(m,n)]
       |_=>False)
     |_=>False)
   |_=>False)
 | .mki t x=>(match ev e x with
   | .a (.c (.p p))=>k (.a (.c (.p (.gY t p)))) []
   |_=>False)
 | .ta z t ok x=>(match ev e x with
   | .a (.c (.p (.gY u p)))=>(match Nat.beq u t,ok with
     |true,ok=>k (QS ok (.c (.p p)) .tt) []
     |false,true=>k (QS true z .ff) []
     |false,false=>False)
   | .a (.c (.p .qN))=>(match ok with
     |true=>k (QS true z .ff) []
     |false=>False)
   |_=>False)
 | .mmx mn x y=>(match Xr (ev e x),Xr (ev e y)with
   |some (q,a),some (_,b)=>k (.a (.c (.p (.int q (bx (Jt mn a b)))))) []
   |_,_=>False)
 |_=>False
def rep {α:Type}:Nat->List α->List α
 |0,_=>[]
 |n+1,l=>app l (rep n l)
def newC (h:Hp)(o:AO)(k:Nat->Hp->Prop):Prop:=k (llen h) (app h [.one o])
def pR:PV->PV
 | .tt=> .bool true
 | .ff=> .bool false
 | .lit q n=> .int q n
 | .bZ=> .fz 0 []
 |p=>p
def nC:List PV->List PV
 |[]=>[]
 |a::l=>pR a::nC l
def ab8 (e:TypeId):AO->Option (List SV)->List PV->Option AO
 | .row l t,some m,_=>(match Nat.beq t e with|true=>some (.row (app l m) e)|false=>none)
 | .row l t,none,p=>(match Nat.beq t e,wu l with
   |true,some l=>some (.bH (bx (l++p)) e)
   |_,_=>none)
 | .bH l t,none,p=>(match Nat.beq t e with|true=>some (.bH (bx (l++p)) e)|false=>none)
 | .bH l t,some m,_=>(match Nat.beq t e,wu m with
   |true,some m=>some (.bH (bx (l++nC m)) e)
   |_,_=>none)
 |_,_,_=>none
def aaT (h:Hp)(x:RV)(k:Nat->Option (List SV)->List PV->Prop):Prop:=match x with
 | .a (.c (.p .bZ))=>k 0 (some []) []
 | .a (.c (.p (.fz n l)))=>k n none l
 | .a (.c (.sl i j 0 n))=>acc bx h i j fun o=>(match o with
   | .row l _=>k n (some l) []
   | .bH l _=>k n none l
   |_=>False)
 |_=>False
def mO:Option (List SV)->List PV->Nat
 |some m,_=>m.length
 |none,p=>p.length
def pW:AO->Nat
 | .row l _=>l.length
 | .bH l _=>l.length
 |_=>0
def stP (h:Hp)(i j o:Nat)(l:List PV)(t:TypeId)(c:List SV)(k:List Nat->RV->Hp->Prop):Prop:=au (wu c) fun c=>lu (bx (decide (o+c.length<=l.length))) fun _=>k [i] .undef (nR h i j (.bH (bx (gB c l o)) t))
def stS (h:Hp)(x:RV)(c:List SV)(k:List Nat->RV->Hp->Prop):Prop:=match x with
 | .a (.c (.ptr i j o))=>acc bx h i j fun ob=>(match ob with
   | .row l t=>(match Nat.ble (Nat.add o (llen c)) (llen l)with|true=>k [i] .undef (nR h i j (.row (gB c l o) t))|false=>False)
   | .bH l t=>stP bx h i j o l t c k
   |_=>False)
 | .a (.c (.pts i j o))=>acc bx h i j fun ob=>(match ob with
   | .bH l t=>stP bx h i j o l t c k
   |_=>False)
 |_=>False
def qc (P:Program)(o:Ox)(e:bK)(h:Hp)(k:List Nat->RV->Hp->Prop):Prop:=match o with
 | .st n x v=>au (Uy (ev e v)) fun c=>(match Nat.beq (llen c) n with|false=>False|true=>stS bx h (ev e x) c k)
 | .al z t=>newC h (.row z t) fun i h=>k [] (.a (.c (.ptr i 0 0))) h
 | .box t v=>au (Uy (ev e v)) fun c=>newC h (.row c t) fun i h=>k [] (.a (.c (.ptr i 0 0))) h
 | .bsl t _ n z ps=>au (fills e ps (rep n z)) fun l=>newC h (.row l t) fun i h=>k [] (.a (.c (.sl i 0 0 n))) h
 | .mks t _ z l=>(match ev e l with
   | .a (.c (.p (.int _ n)))=>au (wu z) fun z=>lu (bx (decide (0<=n)&&decide (n<=16777216))) fun _=>newC h (.bH (bx (rep n.toNat z)) t) fun i h=>k [] (.a (.c (.sl i 0 0 (bx n.toNat)))) h
   |_=>False)
 | .apd t sz s x=>aaT bx h (ev e x) fun n m p=>(match ev e s with
   | .a (.c (.p .bZ))=>lu (bx (decide (mO m p=n*sz)&&decide (n<=16777216))) fun _=>(match m with
     |some m=>newC h (.row m t) fun i h=>k [] (.a (.c (.sl i 0 0 (bx n)))) h
     |none=>newC h (.bH p t) fun i h=>k [] (.a (.c (.sl i 0 0 (bx n)))) h)
   | .a (.c (.sl i 0 0 len))=>acc bx h i 0 fun o=>lu (bx (decide (mO m p=n*sz)&&decide (pW o=len*sz)&&decide (len+n<=16777216))) fun _=>au (ab8 bx t o m p) fun o=>newC (iV h i) o fun j h=>k [i] (.a (.c (.sl j 0 0 (bx (len+n))))) h
   |_=>False)
 | .mkf f a b=>(match evs e a,evs e b with
   |some a,some b=>newC h (.clo f a b) fun i h=>k [] (.a (.c (.clo i 0))) h
   |_,_=>False)
 | .mu kd m key v=>au (keyOf kd (ev e key)) fun key=>(match ev e m,ev e v with
   | .a (.c (.mp i j)), .a v=>acc bx h i j fun o=>(match o with
     | .map l c=>lu (bx (vN kd l.li)) fun _=>k [i] .undef (nR h i j (.map (.l (bx (DZ key v c l.li))) (bx (LH key c l.li))))
     |_=>False)
   |_,_=>False)
 | .del kd m key=>au (keyOf kd (ev e key)) fun key=>(match ev e m with
   | .a (.c (.mp i j))=>acc bx h i j fun o=>(match o with
     | .map l c=>lu (bx (vN kd l.li)) fun _=>k [i] .undef (nR h i j (.map (.l (bx (BM key l.li))) c))
     |_=>False)
   |_=>False)
 | .mkm=>newC h (.map (.l []) 0) fun i h=>k [] (.a (.c (.mp i 0))) h
 | .rg s x=>(match s,ev e x with
   |true, .a (.c (.p (.str s)))=>newC h (.sit s 0) fun i h=>k [] (.a (.c (.ptr i 0 0))) h
   |false, .a (.c (.mp i j))=>acc bx h i j fun o=>(match o with
    | .map _ c=>newC h (.fJ i j c [] c) fun i h=>k [] (.a (.c (.ptr i 0 0))) h
    |_=>False)
   |_,_=>False)
 | .nxt s x=>(match ev e x with
   | .a (.c (.ptr i j 0))=>acc bx h i j fun o=>(match o,s with
     | .sit t p,true=>ag0 (bx (aaW t p)) (fun _=>k [] (.aK [.c (.p .ff)]) h) (fun r=>k [i] (.aK [.c (.p .tt), .c (.p (.int .i64 (bx (Int.ofNat p)))), .c (.p (.int .i32 (bx (Int.ofNat r.1))))]) (nR h i j (.sit t (bx (p+r.2)))))
     | .fJ m n since seen c,false=>acc bx h m n fun o=>(match o with
       | .map l d=>lu (bx (abJ l.li since c)) fun _=>ahE (bx l.li) seen (fun _=>k [] (.aK [.c (.p .ff)]) h) (fun e=>k [i] (.aK [.c (.p .tt),avK e.key,e.val]) (nR h i j (.fJ m n since (e.born::seen) d)))
       |_=>False)
     |_,_=>False)
   |_=>False)
 | .call f l=>(match evs e l with
   |some l=>iM P f l h k
   |none=>False)
 | .XR x l=>(match ev e x,evs e l with
   | .a (.c (.p (.fn f))),some l=>iM P f l h k
   | .a (.c (.clo i j)),some l=>acc bx h i j fun o=>(match o with
     | .clo f a b=>iM P f (app a (app l b)) h k
     |_=>False)
   |_,_=>False)
 |o=>jl bx P o e h fun r _=>k [] r h
end
end Sx
end Go.Proofs.YtakhobfamnjnoaaGreatDoor
