/- Symbolic runs: values (pure ones hold their lists themselves), memory by names, what they stand for. -/
import Derived.WalkSpells
import Derived.WalkLawsBesides
import Derived.Maps.RangeWalk
import Derived.Lib.Hide
import Derived.Laws.EntriesVeiled
import Derived.Laws.CopyOwn
set_option linter.unusedVariables false
set_option linter.unusedSimpArgs false
namespace Go.Proofs.YtakhobfamnjnoaaGreatDoor
section
namespace Sx
open Go Go.RowKit
def aF {α:Type}:List α->Nat->Option α
 |[],_=>none
 |a::_,0=>some a
 |_::l,n+1=>aF l n
theorem aJ {α:Type}: ∀(l:List α)(n:Nat),aF l n=l[n]?
 |[],_=>by simp[aF]
 |_::_,0=>rfl
 |_::l,n+1=>by simp[aF,aJ l n]
def fM {α:Type}(d:α):List α->Nat->α->List α
 |[],0,x=>[x]
 |[],n+1,x=>d::fM d [] n x
 |_::l,0,x=>x::l
 |a::l,n+1,x=>a::fM d l n x
theorem D8 {α:Type}(d:α): ∀(l:List α)(n m:Nat)(x:α),aF (fM d l n x) m=if m=n then some x else if m<l.length then aF l m else if m<n then some d else none
 |[],0,0,x=>rfl
 |[],0,m+1,x=>by simp[fM,aF]
 |[],n+1,0,x=>by simp[fM,aF]
 |[],n+1,m+1,x=>by
  have:=D8 d [] n m x
  simp only[fM,aF,this]
  by_cases h:m=n
  ·simp[h]
  ·simp[h]
 |a::l,0,0,x=>rfl
 |a::l,0,m+1,x=>by simp[fM,aF,aJ]
 |a::l,n+1,0,x=>by simp[fM,aF]
 |a::l,n+1,m+1,x=>by
  have:=D8 d l n m x
  simp only[fM,aF,this,Nat.add_right_cancel_iff,List.length_cons,Nat.add_lt_add_iff_right]
def drp {α:Type}:Nat->List α->List α
 |0,l=>l
 |_+1,[]=>[]
 |n+1,_::l=>drp n l
theorem Kr {α:Type}: ∀(n:Nat)(l:List α),drp n l=l.drop n
 |0,_=>rfl
 |_+1,[]=>rfl
 |n+1,_::l=>Kr n l
def tk {α:Type}:Nat->List α->List α
 |0,_=>[]
 |_+1,[]=>[]
 |n+1,a::l=>a::tk n l
theorem V9 {α:Type}: ∀(n:Nat)(l:List α),tk n l=l.take n
 |0,_=>rfl
 |_+1,[]=>rfl
 |n+1,a::l=>congrArg (a:: ·) (V9 n l)
def app {α:Type}:List α->List α->List α
 |[],m=>m
 |a::l,m=>a::app l m
theorem jP {α:Type}: ∀(l m:List α),app l m=l++m
 |[],_=>rfl
 |a::l,m=>congrArg (a:: ·) (jP l m)
def llen {α:Type}:List α->Nat
 |[]=>0
 |_::l=>llen l+1
theorem aI {α:Type}: ∀(l:List α),llen l=l.length
 |[]=>rfl
 |_::l=>congrArg (· +1) (aI l)
inductive F2 {α β:Type}(R:α->β->Prop):List α->List β->Prop where
 |nil:F2 R [] []
 |cons {a:α} {b:β} {l:List α} {m:List β} (h:R a b) (t:F2 R l m):F2 R (a::l) (b::m)
section
variable {α β:Type} {R S:α->β->Prop}
theorem oK (h: ∀a b,R a b->S a b){l:List α}{m:List β}(hl:F2 R l m):F2 S l m:=by
 induction hl with
 |nil=>exact .nil
 |cons a _ ih=>exact .cons (h _ _ a) ih
theorem dw {l:List α}{m:List β}(h:F2 R l m):l.length=m.length:=by
 induction h with
 |nil=>rfl
 |cons _ _ ih=>simp[ih]
theorem fO {l:List α}{m:List β}(h:F2 R l m): ∀{i:Nat}{a:α},l[i]?=some a-> ∃b,m[i]?=some b/\R a b:=by
 induction h with
 |nil=>intro i a h;simp at h
 |cons x _ ih=>
  intro i a h
  cases i with
  |zero=>simp at h;subst h;exact⟨_,rfl,x⟩
  |succ i=>simp at h;simpa using ih h
theorem dR {l l':List α}{m m':List β}(h:F2 R l m)(h':F2 R l' m'):F2 R (l++l') (m++m'):=by
 induction h with
 |nil=>exact h'
 |cons x _ ih=>exact .cons x ih
theorem xC {l:List α}{m:List β}(h:F2 R l m): ∀n,F2 R (l.drop n) (m.drop n):=by
 induction h with
 |nil=>intro n;simp;exact .nil
 |cons x t ih=>intro n;cases n with
  |zero=>exact .cons x t
  |succ n=>exact ih n
theorem xB {l:List α}{m:List β}(h:F2 R l m): ∀n,F2 R (l.take n) (m.take n):=by
 induction h with
 |nil=>intro n;simp;exact .nil
 |cons x t ih=>intro n;cases n with
  |zero=>exact .nil
  |succ n=>exact .cons x (ih n)
theorem Aq {l:List α}{m:List β}(h:F2 R l m){a:α}{b:β}(hab:R a b): ∀n,F2 R (l.set n a) (m.set n b):=by
 induction h with
 |nil=>intro n;exact .nil
 |cons x t ih=>intro n;cases n with
  |zero=>exact .cons hab t
  |succ n=>exact .cons x (ih n)
theorem J4 {l:List α}{m:List β}(h:F2 R l m): ∀b∈m,∃a∈l,R a b:=by
 induction h with
 |nil=>intro b hb;cases hb
 |cons x _ ih=>intro b hb;cases hb with
  |head=>exact⟨_, .head _,x⟩
  |tail _ hb=>obtain⟨a,ha,hr⟩:=ih b hb;exact⟨a, .tail _ ha,hr⟩
theorem Fj {l:List α}{f:Nat->Option β}(hl: ∀j v,l[j]?=some v-> ∃x,R v x/\f j=some x): ∃xs,F2 R l xs/\ ∀j x,xs[j]?=some x->f j=some x:=by
 induction l generalizing f with
 |nil=>exact⟨[], .nil,fun j x hx=>by simp at hx⟩
 |cons a l ih=>
  obtain⟨x,hx,hf⟩:=hl 0 a rfl
  obtain⟨xs,h1,h2⟩:=ih (f:=fun j=>f (j+1)) fun j v hv=>hl (j+1) v (by simpa using hv)
  refine⟨x::xs, .cons hx h1,fun j y hy=>?_⟩
  cases j with
  |zero=>simp at hy;subst hy;exact hf
  |succ j=>exact h2 j y (by simpa using hy)
end
inductive PV where
 |tt|ff|bool (b:Bool)|int (k:IntKind) (n:Int)|lit (k:IntKind) (n:Int)|str (s:ByteArray)
 |nU|bZ|nV|uK|oQ|qN|fn (f:Nat)|fz (n:Nat) (l:List PV)|gY (t:TypeId) (p:PV)
inductive SV where
 |p (v:PV)|ptr (i k off:Nat)|pts (i k off:Nat)|fp (l:List PV)
 |sl (i k off len:Nat)|mp (i k:Nat)|ch (i k:Nat)|clo (i k:Nat)
inductive AV where
 |c (v:SV)
 |agg (l:List SV)
inductive RV where
 |u|a (v:AV)|aK (l:List AV)
abbrev RV.undef:RV:= .aK []
abbrev Fz:=Nat->Option (Array Value)
mutual
def GP (F:Fz):PV->Value->Prop
 | .tt,v=>v= .bool true
 | .ff,v=>v= .bool false
 | .bool b,v=>v= .bool b
 | .int k n,v=>v= .int k n
 | .lit k n,v=>v= .int k n
 | .str s,v=>v= .string s
 | .nU,v=>v= .pointer none
 | .bZ,v=>v= .slice none 0 0
 | .nV,v=>v= .map none
 | .uK,v=>v= .chan none
 | .oQ,v=>v= .nilFunc
 | .qN,v=>v= .nilIface
 | .fn f,v=>v= .func (.func f) #[] #[]
 | .fz n l,v=> ∃a cap,v= .slice a n cap/\n<=cap/\cap<=maxLen/\(n=0/\l=[]\/ ∃b o cs,a=some ⟨b,o,none⟩/\F b=some cs/\nO F l cs o)
 | .gY t p,v=> ∃x,v= .iface t x/\GP F p x
def nO (F:Fz):List PV->Array Value->Nat->Prop
 |[],_,_=>True
 |a::l,cs,o=>(∃x,cs[o]?=some x/\GP F a x)/\nO F l cs (o+1)
end
def Fz.le (F F':Fz):Prop:= ∀b cs,F b=some cs->F' b=some cs
mutual
theorem GP.mono {F F':Fz}(hF:F.le F'): ∀{p:PV}{v:Value},GP F p v->GP F' p v
 | .tt,_,h| .ff,_,h| .bool _,_,h| .int ..,_,h| .lit ..,_,h| .str _,_,h| .nU,_,h| .bZ,_,h| .nV,_,h| .uK,_,h| .oQ,_,h| .qN,_,h| .fn _,_,h=>h
 | .fz _ _,_,⟨a,cap,h1,h2,h3,h4⟩=>⟨a,cap,h1,h2,h3,h4.imp id fun⟨b,o,cs,h5,h6,h7⟩=>⟨b,o,cs,h5,hF _ _ h6,nO.mono hF h7⟩⟩
 | .gY _ _,_,⟨x,h1,h2⟩=>⟨x,h1,GP.mono hF h2⟩
theorem nO.mono {F F':Fz}(hF:F.le F'): ∀{l:List PV}{cs:Array Value}{o:Nat},nO F l cs o->nO F' l cs o
 |[],_,_,_=>trivial
 |_::_,_,_,⟨⟨x,h1,h2⟩,h3⟩=>⟨⟨x,h1,GP.mono hF h2⟩,nO.mono hF h3⟩
end
theorem nO.get {F:Fz}: ∀{l:List PV}{cs:Array Value}{o:Nat},nO F l cs o-> ∀{j:Nat}{p:PV},l[j]?=some p-> ∃x,cs[o+j]?=some x/\GP F p x
 |[],_,_,_,_,_,h=>by simp at h
 |a::l,cs,o,⟨h1,h2⟩,0,p,h=>by simp at h;subst h;exact h1
 |a::l,cs,o,⟨h1,h2⟩,j+1,p,h=>by
  obtain⟨x,hx,hp⟩:=nO.get h2 (j:=j) (by simpa using h)
  exact⟨x,by rw[show o+(j+1)=o+1+j by omega];exact hx,hp⟩
theorem nO.mk {F:Fz}: ∀{l:List PV}{cs:Array Value}{o:Nat},(∀(j:Nat)(p:PV),l[j]?=some p-> ∃x,cs[o+j]?=some x/\GP F p x)->nO F l cs o
 |[],_,_,_=>trivial
 |a::l,cs,o,h=>⟨h 0 a rfl,nO.mk fun j p hj=>by
  obtain⟨x,hx,hp⟩:=h (j+1) p (by simpa using hj)
  exact⟨x,by rw[show o+1+j=o+(j+1) by omega];exact hx,hp⟩⟩
theorem GP.one {F:Fz}{p:PV}{v:Value}(h:GP F p v):v.oneCell'=true:=by
 cases p with
 |fz n l=>obtain⟨a,cap,rfl,_⟩:=h;rfl
 |gY t p=>obtain⟨x,rfl,_⟩:=h;rfl
 |_=>cases h;rfl
theorem GP.cells {F:Fz}{p:PV}{v:Value}(h:GP F p v):v.cells= #[v]:=by
 cases p with
 |fz n l=>obtain⟨a,cap,rfl,_⟩:=h;rfl
 |gY t p=>obtain⟨x,rfl,_⟩:=h;rfl
 |_=>cases h;rfl
inductive RI where
 |blk (b base cap:Nat)
 |eG
 |fnv (f:FuncId) (first caps:Array Value)
structure Ren where
 nm:Nat->Nat->Option RI
 fz:Fz
 on:Nat->Bool
structure Le (n:Nat)(ρ ρ':Ren):Prop where
 nm: ∀i k x,i<n->ρ.nm i k=some x->ρ'.nm i k=some x
 fz:ρ.fz.le ρ'.fz
 on: ∀i,i<n->ρ.on i=true->ρ'.on i=true
theorem Le.refl (n:Nat)(ρ:Ren):Le n ρ ρ:=⟨fun _ _ _ _ h=>h,fun _ _ h=>h,fun _ _ h=>h⟩
theorem Le.trans {n m:Nat}{a b c:Ren}(h:Le n a b)(k:Le m b c)(hm:n<=m):Le n a c:=⟨fun i j x hi hx=>k.nm i j x (by omega) (h.nm i j x hi hx),fun q x hx=>k.fz q x (h.fz q x hx),fun i hi hx=>k.on i (by omega) (h.on i hi hx)⟩
structure Ren.le (ρ ρ':Ren):Prop where
 nm: ∀i k x,ρ.nm i k=some x->ρ'.nm i k=some x
 fz:ρ.fz.le ρ'.fz
 on: ∀i,ρ.on i=true->ρ'.on i=true
theorem Ren.le_refl (ρ:Ren):ρ.le ρ:=⟨fun _ _ _ h=>h,fun _ _ h=>h,fun _ h=>h⟩
theorem Ren.le.le_trans {a b c:Ren}(h:a.le b)(k:b.le c):a.le c:=⟨fun i j x hx=>k.nm i j x (h.nm i j x hx),fun q x hx=>k.fz q x (h.fz q x hx),fun i hx=>k.on i (h.on i hx)⟩
theorem Ren.le.to {a b:Ren}(h:a.le b)(n:Nat):Le n a b:=⟨fun i j x _ hx=>h.nm i j x hx,h.fz,fun i _=>h.on i⟩
inductive G (ρ:Ren):SV->Value->Prop where
 |p {v:PV} {x:Value} (h:GP ρ.fz v x):G ρ (.p v) x
 |ptr {i k b base cap:Nat} (off:Nat) (h:ρ.nm i k=some (.blk b base cap)):G ρ (.ptr i k off) (.pointer (some ⟨b,base+off,none⟩))
 |pts {i k b base cap:Nat} (off:Nat) (h:ρ.nm i k=some (.blk b base cap)):G ρ (.pts i k off) (.pointer (some ⟨b,base+off,none⟩))
 |fp {l:List PV} {b o:Nat} {cs:Array Value} (h:ρ.fz b=some cs) (hl:nO ρ.fz l cs o):G ρ (.fp l) (.pointer (some ⟨b,o,none⟩))
 |sl {i k b base cp:Nat} (off len cap:Nat) (h:ρ.nm i k=some (.blk b base cp)) (h1:len<=cap) (h2:cap<=maxLen) (h3:off=0->cap=cp):G ρ (.sl i k off len) (.slice (some ⟨b,base+off,none⟩) len cap)
 |eG {i k len:Nat} (h:ρ.nm i k=some .eG) (h0:len=0):G ρ (.sl i k 0 len) (.slice none 0 0)
 |mp {i k b base cap:Nat} (h:ρ.nm i k=some (.blk b base cap)):G ρ (.mp i k) (.map (some b))
 |ch {i k b base cap:Nat} (h:ρ.nm i k=some (.blk b base cap)):G ρ (.ch i k) (.chan (some b))
 |clo {i k f:Nat} {x y:Array Value} (h:ρ.nm i k=some (.fnv f x y)):G ρ (.clo i k) (.func (.func f) x y)
inductive GA (ρ:Ren):AV->Value->Prop where
 |c {v:SV} {x:Value} (h:G ρ v x):GA ρ (.c v) x
 |agg {l:List SV} {xs:List Value} (h:F2 (G ρ) l xs):GA ρ (.agg l) (.agg xs.toArray)
inductive GR (ρ:Ren):RV->Value->Prop where
 |u (x:Value):GR ρ .u x
 |a {v:AV} {x:Value} (h:GA ρ v x):GR ρ (.a v) x
 |aK {l:List AV} {xs:List Value} (h:F2 (GA ρ) l xs):GR ρ (.aK l) (.tuple xs.toArray)
section
variable {ρ ρ':Ren}
theorem G.mono (hρ:ρ.le ρ'){v:SV}{x:Value}(h:G ρ v x):G ρ' v x:=by
 cases h with
 |p h=>exact .p (h.mono hρ.fz)
 |ptr off h=>exact .ptr _ (hρ.nm _ _ _ h)
 |pts off h=>exact .pts _ (hρ.nm _ _ _ h)
 |fp h hl=>exact .fp (hρ.fz _ _ h) (hl.mono hρ.fz)
 |sl off len cap h h1 h2 h3=>exact .sl _ _ _ (hρ.nm _ _ _ h) h1 h2 h3
 |eG h h0=>exact .eG (hρ.nm _ _ _ h) h0
 |mp h=>exact .mp (hρ.nm _ _ _ h)
 |ch h=>exact .ch (hρ.nm _ _ _ h)
 |clo h=>exact .clo (hρ.nm _ _ _ h)
theorem Gs.mono (hρ:ρ.le ρ'){l:List SV}{xs:List Value}(h:F2 (G ρ) l xs):F2 (G ρ') l xs:=oK (fun _ _=>G.mono hρ) h
theorem GA.mono (hρ:ρ.le ρ'){v:AV}{x:Value}(h:GA ρ v x):GA ρ' v x:=by
 cases h with
 |c h=>exact .c (h.mono hρ)
 |agg h=>exact .agg (Gs.mono hρ h)
theorem yQ.mono (hρ:ρ.le ρ'){l:List AV}{xs:List Value}(h:F2 (GA ρ) l xs):F2 (GA ρ') l xs:=oK (fun _ _=>GA.mono hρ) h
theorem GR.mono (hρ:ρ.le ρ'){v:RV}{x:Value}(h:GR ρ v x):GR ρ' v x:=by
 cases h with
 |u=>exact .u _
 |a h=>exact .a (h.mono hρ)
 |aK h=>exact .aK (yQ.mono hρ h)
theorem G.one {v:SV}{x:Value}(h:G ρ v x):x.oneCell'=true:=by
 cases h with
 |p h=>exact h.one
 |_=>rfl
theorem G.cells {v:SV}{x:Value}(h:G ρ v x):x.cells= #[x]:=by
 cases h with
 |p h=>exact h.cells
 |_=>rfl
theorem GR.undef:GR ρ .undef Go.undef:= .aK .nil
theorem Af {l:List SV}{xs:List Value}(hx:F2 (G ρ) l xs): ∀v∈xs,v.oneCell'=true:=fun v hv=>by
 obtain⟨a,_,hr⟩:=J4 hx v hv
 exact hr.one
end
inductive KV where
 |one (p:PV)|agg (l:List PV)
def GK (F:Fz):KV->Value->Prop
 | .one p,v=>GP F p v
 | .agg l,v=> ∃xs:List Value,v= .agg xs.toArray/\F2 (GP F) l xs
theorem GK.mono {F F':Fz}(hF:F.le F'){k:KV}{v:Value}(h:GK F k v):GK F' k v:=by
 cases k with
 |one p=>exact GP.mono hF h
 |agg l=>obtain⟨xs,h1,h2⟩:=h;exact⟨xs,h1,oK (fun _ _=>GP.mono hF) h2⟩
structure ME where
 key:KV
 val:AV
 born:Nat
inductive PA where
 |c (p:PV)|agg (l:List PV)
def PA.av:PA->AV
 | .c p=> .c (.p p)
 | .agg l=> .agg (l.map .p)
structure PE where
 key:KV
 val:PA
 born:Nat
def PE.me (e:PE):ME:=⟨e.key,e.val.av,e.born⟩
inductive Pl where
 |pt (i k:Nat)|all (i:Nat)|jh|gone (i:Nat)
inductive Ms where
 |l (es:List ME)|o (es:List PE)|r (is:List Pl) (L:Nat) (m:Ms)
inductive Qs where
 |l (b:List AV)|o (b:List PA)
def Qs.li:Qs->List AV
 | .l b=>b
 | .o b=>b.map PA.av
def kR (is:List Pl)(L i k:Nat):Nat×Nat:=match aF is i with
 |some (.pt a b)=>(match k with|0=>(a,b)|_+1=>(Nat.add L i,k))
 |some (.all a)=>(a,k)
 |some (.gone a)=>(a,k)
 |some .jh=>(Nat.add L i,k)
 |none=>(Nat.add L (Nat.sub i (llen is)),k)
section
variable (is:List Pl) (L:Nat)
def Ll:SV->SV
 | .p v=> .p v
 | .ptr i k o=> .ptr (kR is L i k).1 (kR is L i k).2 o
 | .pts i k o=> .pts (kR is L i k).1 (kR is L i k).2 o
 | .fp l=> .fp l
 | .sl i k o n=>(match aF is i with
   |some .jh=> .p .bZ
   |_=> .sl (kR is L i k).1 (kR is L i k).2 o n)
 | .mp i k=> .mp (kR is L i k).1 (kR is L i k).2
 | .ch i k=> .ch (kR is L i k).1 (kR is L i k).2
 | .clo i k=> .clo (kR is L i k).1 (kR is L i k).2
def wM:List SV->List SV
 |[]=>[]
 |a::l=>Ll is L a::wM l
def P9:AV->AV
 | .c v=> .c (Ll is L v)
 | .agg l=> .agg (wM is L l)
def EU:List AV->List AV
 |[]=>[]
 |a::l=>P9 is L a::EU l
def WI:List ME->List ME
 |[]=>[]
 |m::l=>⟨m.key,P9 is L m.val,m.born⟩::WI l
end
def Ms.li:Ms->List ME
 | .l es=>es
 | .o es=>es.map PE.me
 | .r is L m=>WI is L m.li
def aeX (is:List Pl)(L:Nat):Ms->Ms
 | .o es=> .o es
 |m=> .r is L m
def aeW (is:List Pl)(L:Nat):Qs->Qs
 | .l b=> .l (EU is L b)
 | .o b=> .o b
inductive AO where
 |row (cells:List SV) (e:TypeId)
 |bH (cells:List PV) (e:TypeId)
 |map (es:Ms) (clock:Nat)
 |chan (cap:Nat) (buf:Qs) (s r:Nat)
 |clo (f:FuncId) (first caps:List AV)
 |fJ (i k since:Nat) (seen:List Nat) (stepped:Nat)
 |sit (s:ByteArray) (pos:Nat)
inductive gU where
 |no|one (o:AO)|many (f:Nat->Option AO)
abbrev Hp:=List gU
def gU.at:gU->Nat->Option AO
 | .one o,0=>some o
 | .many f,k=>f k
 |_,_=>none
def bI (h:Hp)(i k:Nat):Option AO:=(aF h i).bind (·.at k)
def GE (ρ:Ren)(a:ME)(b:MapEntry):Prop:=GK ρ.fz a.key b.key/\GA ρ a.val b.val/\b.born=a.born
def rowOf (o:AO):Option (List SV):=match o with
 | .row cells _=>some cells
 | .bH cells _=>some (cells.map .p)
 |_=>none
inductive Ob (P:Program)(ρ:Ren)(i k:Nat):AO->(Nat->Prop)->World->Prop where
 |row {w:World} {o:AO} {B:Nat->Prop} {b base cap:Nat} {cells:List SV} {e:TypeId} {cs:Array Value} (ho:o= .row cells e\/ ∃l,o= .bH l e/\cells=l.map .p) (hr:ρ.nm i k=some (.blk b base cap)) (hB: ∀q,B q↔q=b)
   (hh:w.heap[b]?=some (.cells cs e (0,0))) (hc: ∀j v,cells[j]?=some v-> ∃x,G ρ v x/\cs[base+j]?=some x) (hsz:base+cap*P.cellsOf e<=cs.size):Ob P ρ i k o B w
 |eG {w:World} {o:AO} {B:Nat->Prop} {e:TypeId} (ho:o= .row [] e\/o= .bH [] e) (hr:ρ.nm i k=some .eG) (hB: ∀q,¬B q):Ob P ρ i k o B w
 |map {w:World} {B:Nat->Prop} {b:Nat} {es:Ms} {clock:Nat} {xs:List MapEntry} (hr:ρ.nm i k=some (.blk b 0 0)) (hB: ∀q,B q↔q=b) (hh:w.heap[b]?=some (.map xs.toArray clock)) (hx:F2 (GE ρ) es.li xs):Ob P ρ i k (.map es clock) B w
 |chan {w:World} {B:Nat->Prop} {b cap s r:Nat} {buf:Qs} {xs:List Value} (hr:ρ.nm i k=some (.blk b 0 0)) (hB: ∀q,B q↔q=b) (hh:w.heap[b]?=some (.chan cap xs.toArray false s r false)) (hx:F2 (GA ρ) buf.li xs):Ob P ρ i k (.chan cap buf s r) B w
 |clo {w:World} {B:Nat->Prop} {f:FuncId} {first caps:List AV} {xs ys:List Value} (hr:ρ.nm i k=some (.fnv f xs.toArray ys.toArray)) (hB: ∀q,¬B q) (hx:F2 (GA ρ) first xs) (hy:F2 (GA ρ) caps ys):Ob P ρ i k (.clo f first caps) B w
 |fJ {w:World} {B:Nat->Prop} {b bm bs cp m n since stepped:Nat} {seen:List Nat} (hr:ρ.nm i k=some (.blk b 0 0)) (hm:ρ.nm m n=some (.blk bm bs cp)) (hB: ∀q,B q↔q=b) (hh:w.heap[b]?=some (.mapIter (some bm) since seen.reverse.toArray stepped)):Ob P ρ i k (.fJ m n since seen stepped) B w
 |sit {w:World} {B:Nat->Prop} {b pos:Nat} {s:ByteArray} (hr:ρ.nm i k=some (.blk b 0 0)) (hB: ∀q,B q↔q=b) (hh:w.heap[b]?=some (.stringIter s pos)):Ob P ρ i k (.sit s pos) B w
section
variable {P:Program} {ρ ρ':Ren} {i k:Nat} {o:AO} {B:Nat->Prop} {w w':World}
theorem GE.mono (hρ:ρ.le ρ'){a:ME}{b:MapEntry}(h:GE ρ a b):GE ρ' a b:=⟨h.1.mono hρ.fz,h.2.1.mono hρ,h.2.2⟩
theorem Ob.mono (hρ:ρ.le ρ')(h:Ob P ρ i k o B w):Ob P ρ' i k o B w:=by
 cases h with
 |row ho hr hB hh hc hsz=>exact .row ho (hρ.nm _ _ _ hr) hB hh (fun j v hv=>let⟨x,h1,h2⟩:=hc j v hv;⟨x,h1.mono hρ,h2⟩) hsz
 |eG ho hr hB=>exact .eG ho (hρ.nm _ _ _ hr) hB
 |map hr hB hh hx=>exact .map (hρ.nm _ _ _ hr) hB hh (oK (fun _ _=>GE.mono hρ) hx)
 |chan hr hB hh hx=>exact .chan (hρ.nm _ _ _ hr) hB hh (yQ.mono hρ hx)
 |clo hr hB hx hy=>exact .clo (hρ.nm _ _ _ hr) hB (yQ.mono hρ hx) (yQ.mono hρ hy)
 |fJ hr hm hB hh=>exact .fJ (hρ.nm _ _ _ hr) (hρ.nm _ _ _ hm) hB hh
 |sit hr hB hh=>exact .sit (hρ.nm _ _ _ hr) hB hh
theorem Ob.frame (h:Ob P ρ i k o B w)(hk: ∀b,B b->b<w.heap.size->w'.heap[b]?=w.heap[b]?):Ob P ρ i k o B w':=by
 have lt: ∀{b:Nat}{x:Obj},w.heap[b]?=some x->b<w.heap.size:=fun h=>(Array.getElem?_eq_some_iff.1 h).1
 cases h with
 |row ho hr hB hh hc hsz=>exact .row ho hr hB ((hk _ ((hB _).2 rfl) (lt hh)).trans hh) hc hsz
 |eG ho hr hB=>exact .eG ho hr hB
 |map hr hB hh hx=>exact .map hr hB ((hk _ ((hB _).2 rfl) (lt hh)).trans hh) hx
 |chan hr hB hh hx=>exact .chan hr hB ((hk _ ((hB _).2 rfl) (lt hh)).trans hh) hx
 |clo hr hB hx hy=>exact .clo hr hB hx hy
 |fJ hr hm hB hh=>exact .fJ hr hm hB ((hk _ ((hB _).2 rfl) (lt hh)).trans hh)
 |sit hr hB hh=>exact .sit hr hB ((hk _ ((hB _).2 rfl) (lt hh)).trans hh)
end
def RI.bl:RI->Nat->Prop
 | .blk b _ _,q=>q=b
 |_,_=>False
theorem Ob.bl {P:Program}{ρ:Ren}{i k:Nat}{o:AO}{B:Nat->Prop}{w:World}(h:Ob P ρ i k o B w): ∃x,ρ.nm i k=some x/\ ∀q,B q↔x.bl q:=by
 cases h with
 |row ho hr hB=>exact⟨_,hr,hB⟩
 |eG ho hr hB=>exact⟨_,hr,fun q=>⟨fun h=>hB q h,fun h=>h.elim⟩⟩
 |map hr hB=>exact⟨_,hr,hB⟩
 |chan hr hB=>exact⟨_,hr,hB⟩
 |clo hr hB=>exact⟨_,hr,fun q=>⟨fun h=>hB q h,fun h=>h.elim⟩⟩
 |fJ hr hm hB=>exact⟨_,hr,hB⟩
 |sit hr hB=>exact⟨_,hr,hB⟩
theorem Ob.same {P:Program}{ρ ρ':Ren}{i k:Nat}{o o':AO}{B B':Nat->Prop}{w w':World}(h:Ob P ρ i k o B w)(h':Ob P ρ' i k o' B' w')(hρ:ρ.le ρ'){q:Nat}(hq:B q):B' q:=by
 obtain⟨x,h1,h2⟩:=h.bl
 obtain⟨y,h3,h4⟩:=h'.bl
 rw[hρ.nm _ _ _ h1]at h3
 cases h3
 exact(h4 q).2 ((h2 q).1 hq)
abbrev Own:=Nat->Nat->Nat->Prop
def Own.any (O:Own)(b:Nat):Prop:= ∃i k,O i k b
structure HR (P:Program)(ρ:Ren)(h:Hp)(O:Own)(w:World):Prop where
 ob: ∀i k o,bI h i k=some o->Ob P ρ i k o (O i k) w
 dj: ∀i k j l b,O i k b->O j l b->i=j/\k=l
 lt: ∀i k b,O i k b->b<w.heap.size
 live: ∀i k b,O i k b-> ∃o,bI h i k=some o
 fr: ∀i k,h.length<=i->ρ.nm i k=none
 on: ∀i k,ρ.on i=true->k≠0->ρ.nm i k=none
 sg: ∀i o,aF h i=some (.one o)->ρ.on i=true
 of: ∀i,h.length<=i->ρ.on i=false
 fz: ∀b cs,ρ.fz b=some cs->(∃e fr,w.heap[b]?=some (.cells cs e fr))/\ ∀i k,¬O i k b
 sz:8<=w.heap.size
structure Fm (F:Fz)(O:Own)(w:World)(F':Fz)(O':Own)(w':World):Prop where
 os:w'.os=w.os
 tape:w'.tape=w.tape
 output:w'.output=w.output
 size:w.heap.size<=w'.heap.size
 block: ∀b,b<w.heap.size-> ¬O.any b->w'.heap[b]?=w.heap[b]?
 own: ∀b,b<w.heap.size->O'.any b->O.any b
 fz: ∀b cs,F' b=some cs->b<w.heap.size->F b=some cs\/O.any b
theorem Fm.refl (F:Fz)(O:Own)(w:World):Fm F O w F O w:=⟨rfl,rfl,rfl,Nat.le_refl _,fun _ _ _=>rfl,fun _ _ h=>h,fun _ _ h _=> .inl h⟩
theorem Fm.trans {F F' F'':Fz}{O O' EF:Own}{w w' w'':World}(h:Fm F O w F' O' w')(k:Fm F' O' w' F'' EF w''):Fm F O w F'' EF w'':=
 ⟨k.os.trans h.os,k.tape.trans h.tape,k.output.trans h.output,Nat.le_trans h.size k.size,
   fun b hb hn=>(k.block b (Nat.lt_of_lt_of_le hb h.size) fun ha=>hn (h.own b hb ha)).trans (h.block b hb hn),fun b hb ha=>h.own b hb (k.own b (Nat.lt_of_lt_of_le hb h.size) ha),
   fun b cs hc hb=>(k.fz b cs hc (Nat.lt_of_lt_of_le hb h.size)).elim (fun h1=>h.fz b cs h1 hb) fun h1=> .inr (h.own b hb h1)⟩
theorem Em {h:Hp}{i k:Nat}(hi:h.length<=i):bI h i k=none:=by
 unfold bI
 rw[aJ,List.getElem?_eq_none hi];rfl
end Sx
end
section
namespace Sx
open Go Go.RowKit
def nR (h:Hp)(i k:Nat)(o:AO):Hp:=match aF h i with
 |some (.many f)=>fM .no h i (.many fun j=>if j=k then some o else f j)
 |_=>fM .no h i (.one o)
theorem pY {h g:Hp}{i k:Nat}(hi:i<h.length):bI (h++g) i k=bI h i k:=by
 unfold bI
 rw[aJ,aJ,List.getElem?_append_left hi]
theorem BZ {h:Hp}{o:AO}{k:Nat}:bI (h++[.one o]) h.length k=if k=0 then some o else none:=by
 unfold bI
 rw[aJ,List.getElem?_append_right (Nat.le_refl _)]
 cases k<;>simp[gU.at]
theorem cZ {h:Hp}{i k:Nat}{o:AO}(hi:bI h i k=some o):i<h.length:=by
 rcases Nat.lt_or_ge i h.length with hl|hl
 ·exact hl
 ·rw[Em hl]at hi;cases hi
theorem jG {α:Type}(d:α): ∀(l:List α)(n:Nat)(x:α),n<l.length->(fM d l n x).length=l.length
 |[],n,_,h=>by simp at h
 |_::_,0,_,_=>rfl
 |_::l,n+1,x,h=>congrArg (· +1) (jG d l n x (by simpa using h))
theorem iJ {h:Hp}{i k:Nat}{o:AO}(hi:i<h.length):(nR h i k o).length=h.length:=by
 unfold nR
 split<;>exact jG _ _ _ _ hi
theorem fD {α:Type}(d:α){l:List α}{n:Nat}(hn:n<l.length)(m:Nat)(x:α):aF (fM d l n x) m=if m=n then some x else aF l m:=by
 rw[D8]
 by_cases h:m=n
 ·rw[if_pos h,if_pos h]
 ·rw[if_neg h,if_neg h]
  by_cases hl:m<l.length
  ·rw[if_pos hl]
  ·rw[if_neg hl,if_neg (by omega),aJ,List.getElem?_eq_none (by omega)]
theorem Ej {h:Hp}{i k:Nat}{o p:AO}(hi:bI h i k=some p)(j l:Nat):bI (nR h i k o) j l=if j=i/\l=k then some o else bI h j l:=by
 have hlt:=cZ hi
 unfold nR
 unfold bI at hi⊢
 cases hc:aF h i with
 |none=>rw[hc]at hi;cases hi
 |some c=>
  rw[hc]at hi
  cases c with
  |no=>cases hi
  |one q=>
   have hk:k=0:=by cases k with|zero=>rfl|succ k=>cases hi
   subst hk
   simp only[fD _ hlt]
   by_cases hj:j=i
   ·subst hj
    simp only[if_true,hc]
    cases l<;>simp[gU.at]
   ·simp[hj]
  |many f=>
   simp only[fD _ hlt]
   by_cases hj:j=i
   ·subst hj
    by_cases hl:l=k
    ·simp[hl,gU.at]
    ·simp[hl,hc,gU.at]
   ·simp[hj]
def Ren.put (ρ:Ren)(i k:Nat)(x:RI):Ren:={ρ with nm:=fun a b=>if a=i/\b=k then some x else ρ.nm a b,on:=fun a=>if a=i then true else ρ.on a}
theorem Ren.kT {ρ:Ren}{i k:Nat}(hf:ρ.nm i k=none)(x:RI):ρ.le (ρ.put i k x):=⟨fun a b y hy=>by
 show(if a=i/\b=k then some x else ρ.nm a b)=some y
 split
 ·rename_i e;obtain⟨rfl,rfl⟩:=e;rw[hf]at hy;cases hy
 ·exact hy,fun _ _ h=>h,fun a ha=>by
  show(if a=i then true else ρ.on a)=true
  split
  ·rfl
  ·exact ha⟩
theorem Ren.fA (ρ:Ren)(i k:Nat)(x:RI):(ρ.put i k x).nm i k=some x:=by simp[Ren.put]
theorem Ren.kD {ρ:Ren}{i k a b:Nat}{x:RI}(h: ¬(a=i/\b=k)):(ρ.put i k x).nm a b=ρ.nm a b:=by simp[Ren.put,h]
section
variable {P:Program} {ρ:Ren} {h:Hp} {O:Own} {w:World}
theorem HR.newAt (H:HR P ρ h O w){w':World}(hw:Fm (fun _=>none) (fun _ _ _=>False) w (fun _=>none) (fun _ _ _=>False) w')(x:RI)(B:Nat->Prop)(o:AO)(hB: ∀q,B q->w.heap.size<=q/\q<w'.heap.size)
 (ho: ∀ρ',ρ.le ρ'->ρ'.nm h.length 0=some x->Ob P ρ' h.length 0 o B w'):
 ∃ρ' O',ρ.le ρ'/\ρ'.nm h.length 0=some x/\Fm ρ.fz O w ρ'.fz O' w'/\HR P ρ' (h++[.one o]) O' w':=by
 have hle:=Ren.kT (H.fr h.length 0 (Nat.le_refl _)) x
 have old: ∀b,b<w.heap.size->w'.heap[b]?=w.heap[b]?:=fun b hb=>hw.block b hb fun⟨_,_,f⟩=>f
 have none: ∀i k,h.length<=i-> ∀b,¬O i k b:=fun i k hi b hb=>by obtain⟨o,h1⟩:=H.live i k b hb;rw[Em hi]at h1;cases h1
 refine⟨_,fun i k b=>O i k b\/(i=h.length/\k=0/\B b),hle,Ren.fA _ _ _ _,⟨hw.os,hw.tape,hw.output,hw.size,fun b hb _=>old b hb,fun b hb ⟨i,k,hk⟩=>?_,fun _ _ h _=> .inl h⟩,⟨fun i k p hp=>?_,fun i k j l b hi hj=>?_,fun i k b hb=>?_,fun i k b hb=>?_,fun i k hi=>?_,fun i k hi hk=>?_,fun i o' hi=>?_,fun i hi=>by simp at hi;simp[Ren.put,show i≠h.length by omega,H.of i (by omega)],fun b cs hb=>?_,Nat.le_trans H.sz hw.size⟩⟩
 ·rcases hk with hk|⟨_,_,hk⟩
  ·exact⟨i,k,hk⟩
  ·have:=(hB b hk).1;omega
 ·rcases Nat.lt_or_ge i h.length with hi|hi
  ·rw[pY hi]at hp
   have:=((H.ob i k p hp).frame fun b _ hb=>old b hb).mono hle
   have e:(fun b=>O i k b\/(i=h.length/\k=0/\B b))=O i k:=by funext b;simp;intro e;omega
   rw[e];exact this
  ·have hi:i=h.length:=by
    have:=cZ hp
    simp at this
    omega
   subst hi
   rw[BZ]at hp
   split at hp
   ·rename_i hk
    subst hk
    cases hp
    have e:(fun b=>O h.length 0 b\/(h.length=h.length/\0=0/\B b))=B:=by funext b;simp;exact fun hb=>absurd hb (none _ _ (Nat.le_refl _) b)
    rw[e]
    exact ho _ hle (Ren.fA _ _ _ _)
   ·cases hp
 ·rcases hi with hi|⟨rfl,rfl,hi⟩<;>rcases hj with hj|⟨rfl,rfl,hj⟩
  ·exact H.dj i k j l b hi hj
  ·have:=H.lt _ _ _ hi;have:=(hB b hj).1;omega
  ·have:=H.lt _ _ _ hj;have:=(hB b hi).1;omega
  ·exact⟨rfl,rfl⟩
 ·rcases hb with hb|⟨_,_,hb⟩
  ·exact Nat.lt_of_lt_of_le (H.lt _ _ _ hb) hw.size
  ·exact(hB b hb).2
 ·rcases hb with hb|⟨rfl,rfl,hb⟩
  ·obtain⟨p,hp⟩:=H.live i k b hb
   exact⟨p,by rw[pY (cZ hp)];exact hp⟩
  ·exact⟨o,by rw[BZ,if_pos rfl]⟩
 ·simp at hi
  rw[Ren.kD (by omega)]
  exact H.fr i k (by omega)
 ·rw[Ren.kD (by omega)]
  by_cases hih:i=h.length
  ·exact H.fr i k (by omega)
  ·exact H.on i k (by simpa[Ren.put,hih]using hi) hk
 ·by_cases hih:i=h.length
  ·simp[Ren.put,hih]
  ·rw[aJ]at hi
   have hlt:i<h.length:=by
    have:=(List.getElem?_eq_some_iff.1 hi).1
    simp at this
    omega
   rw[List.getElem?_append_left hlt,<-aJ]at hi
   simp[Ren.put,hih,H.sg i _ hi]
 ·obtain⟨⟨e,fr,h1⟩,h2⟩:=H.fz b cs hb
  have hlt:=(Array.getElem?_eq_some_iff.1 h1).1
  refine⟨⟨e,fr,by rw[old b hlt];exact h1⟩,fun i k hk=>?_⟩
  rcases hk with hk|⟨_,_,hk⟩
  ·exact h2 i k hk
  ·have:=(hB b hk).1;omega
theorem Fm.alloc (w:World)(x:Obj):Fm (fun _=>none) (fun _ _ _=>False) w (fun _=>none) (fun _ _ _=>False) (w.alloc x):=
 ⟨rfl,rfl,rfl,by rw[World.size_alloc];omega,fun _ hb _=>Below.heap_alloc _ _ _ hb,fun _ _ h=>h,fun _ _ h _=> .inl h⟩
theorem HR.new (H:HR P ρ h O w)(x:Obj)(base cap:Nat)(o:AO)(ho: ∀ρ' B,ρ.le ρ'->ρ'.nm h.length 0=some (.blk w.heap.size base cap)->(∀q,B q↔q=w.heap.size)->Ob P ρ' h.length 0 o B (w.alloc x)):
 ∃ρ' O',ρ.le ρ'/\ρ'.nm h.length 0=some (.blk w.heap.size base cap)/\Fm ρ.fz O w ρ'.fz O' (w.alloc x)/\HR P ρ' (h++[.one o]) O' (w.alloc x):=
 H.newAt (Fm.alloc w x) (.blk w.heap.size base cap) (fun q=>q=w.heap.size) o (fun q hq=>by subst hq;rw[World.size_alloc];omega) fun ρ' h1 h2=>ho ρ' _ h1 h2 fun _=>Iff.rfl
theorem HR.name (H:HR P ρ h O w)(x:RI)(o:AO)(ho: ∀ρ' B,ρ.le ρ'->ρ'.nm h.length 0=some x->(∀q,¬B q)->Ob P ρ' h.length 0 o B w):
 ∃ρ' O',ρ.le ρ'/\ρ'.nm h.length 0=some x/\Fm ρ.fz O w ρ'.fz O' w/\HR P ρ' (h++[.one o]) O' w:=
 H.newAt (Fm.refl _ _ w) x (fun _=>False) o (fun _ hq=>hq.elim) fun ρ' h1 h2=>ho ρ' _ h1 h2 fun _ h=>h
theorem HR.turn (H:HR P ρ h O w){i k:Nat}{o o':AO}(hi:bI h i k=some o){w':World}(hs:w'.heap.size=w.heap.size)(hos:w'.os=w.os)(ht:w'.tape=w.tape)(hout:w'.output=w.output)
 (hk: ∀q,¬O i k q->w'.heap[q]?=w.heap[q]?) (ho:Ob P ρ i k o' (O i k) w'):Fm ρ.fz O w ρ.fz O w'/\HR P ρ (nR h i k o') O w':=by
 have hlt:=cZ hi
 refine⟨⟨hos,ht,hout,by omega,fun b _ hn=>hk b fun hb=>hn ⟨i,k,hb⟩,fun _ _ h=>h,fun _ _ h _=> .inl h⟩,⟨fun j l p hp=>?_,H.dj,fun j l b hb=>by rw[hs];exact H.lt j l b hb,fun j l b hb=>?_,fun j l hj=>H.fr j l (by rw[iJ hlt]at hj;exact hj),H.on,fun j p hj=>?_,fun j hj=>H.of j (by rw[iJ hlt]at hj;exact hj),fun b cs hb=>?_,by rw[hs];exact H.sz⟩⟩
 ·rw[Ej hi]at hp
  split at hp
  ·rename_i e;obtain⟨rfl,rfl⟩:=e;cases hp;exact ho
  ·rename_i hne
   exact(H.ob j l p hp).frame fun b hb _=>hk b fun hb'=>hne (H.dj _ _ _ _ b hb hb')
 ·rw[Ej hi]
  split
  ·exact⟨_,rfl⟩
  ·exact H.live j l b hb
 ·unfold nR at hj
  by_cases hji:j=i
  ·subst hji
   unfold bI at hi
   cases hc:aF h j with
   |none=>rw[hc]at hi;cases hi
   |some c=>
    cases c with
    |no=>rw[hc]at hi;cases hi
    |one q=>exact H.sg j q hc
    |many f=>rw[hc]at hj;simp[fD _ hlt]at hj
  ·split at hj<;>(rw[fD _ hlt,if_neg hji]at hj;exact H.sg j p hj)
 ·obtain⟨⟨e,fr,h1⟩,h2⟩:=H.fz b cs hb
  exact⟨⟨e,fr,by rw[hk b (h2 i k)];exact h1⟩,h2⟩
def iV (h:Hp)(i:Nat):Hp:=fM .no h i .no
theorem mg {h:Hp}{i:Nat}(hi:i<h.length)(j l:Nat):bI (iV h i) j l=if j=i then none else bI h j l:=by
 unfold iV bI
 simp only[fD _ hi]
 by_cases hj:j=i
 ·simp[hj,gU.at]
 ·simp[hj]
theorem EM {h:Hp}{i j:Nat}{o:AO}(hi:i<h.length)(hj:aF (iV h i) j=some (.one o)):aF h j=some (.one o):=by
 unfold iV at hj
 rw[fD _ hi]at hj
 split at hj
 ·cases hj
 ·exact hj
theorem HR.drop (H:HR P ρ h O w){i:Nat}(hi:i<h.length): ∃O',Fm ρ.fz O w ρ.fz O' w/\HR P ρ (iV h i) O' w:=by
 refine⟨fun j l b=>O j l b/\j≠i,⟨rfl,rfl,rfl,Nat.le_refl _,fun _ _ _=>rfl,fun b _ ⟨j,l,hb⟩=>⟨j,l,hb.1⟩,fun _ _ h _=> .inl h⟩,⟨fun j l p hp=>?_,fun a b c d e h1 h2=>H.dj a b c d e h1.1 h2.1,fun j l b hb=>H.lt j l b hb.1,fun j l b hb=>?_,fun j l hj=>H.fr j l (by unfold iV at hj;rw[jG _ _ _ _ hi]at hj;exact hj),H.on,fun j o hj=>H.sg j o (EM hi hj),fun j hj=>H.of j (by unfold iV at hj;rw[jG _ _ _ _ hi]at hj;exact hj),fun b cs hb=>⟨(H.fz b cs hb).1,fun j l hj=>(H.fz b cs hb).2 j l hj.1⟩,H.sz⟩⟩
 ·rw[mg hi]at hp
  split at hp
  ·cases hp
  ·rename_i hne
   have e:(fun b=>O j l b/\j≠i)=O j l:=by funext b;simp[hne]
   rw[e];exact H.ob j l p hp
 ·rw[mg hi,if_neg hb.2]
  exact H.live j l b hb.1
theorem HR.freeze (H:HR P ρ h O w){i:Nat}{l:List PV}{e:TypeId}(hi:bI h i 0=some (.bH l e)):
 ∃ρ' O',ρ.le ρ'/\Fm ρ.fz O w ρ'.fz O' w/\HR P ρ' (iV h i) O' w/\(ρ.nm i 0=some .eG/\l=[]\/ ∃b base cs,(∃cap,ρ.nm i 0=some (.blk b base cap))/\ρ'.fz b=some cs/\nO ρ'.fz l cs base):=by
 have hlt:=cZ hi
 obtain⟨O',hF,H'⟩:=H.drop hlt
 have ob:=H.ob i 0 _ hi
 cases ob with
 |eG ho hr hB=>
  refine⟨ρ,O',ρ.le_refl,hF,H', .inl ⟨hr,?_⟩⟩
  rcases ho with h|h<;>cases h
  rfl
 |row ho hr hB hh hc hsz=>
  rename_i b base cap cells e' cs
  rcases ho with h0|⟨l',h0,rfl⟩
  ·cases h0
  cases h0
  have hb:O i 0 b:=(hB b).2 rfl
  have nf:ρ.fz b=none\/ρ.fz b=some cs:=by
   cases hf:ρ.fz b with
   |none=>exact .inl rfl
   |some c=>exact absurd hb ((H.fz b c hf).2 i 0)
  have hle:ρ.le {ρ with fz:=fun q=>if q=b then some cs else ρ.fz q}:=⟨fun _ _ _ h=>h,fun q c hq=>by
   show(if q=b then some cs else ρ.fz q)=some c
   split
   ·rename_i e;subst e
    rcases nf with h|h
    ·rw[h]at hq;cases hq
    ·rw[h]at hq;exact hq
   ·exact hq,fun _ h=>h⟩
  obtain⟨O2,hF2,H2⟩: ∃O2,Fm ρ.fz O w (fun q=>if q=b then some cs else ρ.fz q) O2 w/\HR P {ρ with fz:=fun q=>if q=b then some cs else ρ.fz q} (iV h i) O2 w:=by
   refine⟨fun j l b=>O j l b/\j≠i,⟨rfl,rfl,rfl,Nat.le_refl _,fun _ _ _=>rfl,fun b _ ⟨j,l,hb⟩=>⟨j,l,hb.1⟩,fun q c hq _=>by
    by_cases ZQ:q=b
    ·subst ZQ;exact .inr ⟨i,0,hb⟩
    ·exact .inl (by simpa[ZQ]using hq)⟩,⟨fun j l p hp=>?_,fun a b c d e h1 h2=>H.dj a b c d e h1.1 h2.1,fun j l b hb=>H.lt j l b hb.1,fun j l b hb=>?_,fun j l hj=>H.fr j l (by unfold iV at hj;rw[jG _ _ _ _ hlt]at hj;exact hj),H.on,fun j o hj=>H.sg j o (EM hlt hj),fun j hj=>H.of j (by unfold iV at hj;rw[jG _ _ _ _ hlt]at hj;exact hj),fun q c hq=>?_,H.sz⟩⟩
   ·rw[mg hlt]at hp
    split at hp
    ·cases hp
    ·rename_i hne
     have e:(fun b=>O j l b/\j≠i)=O j l:=by funext b;simp[hne]
     rw[e];exact(H.ob j l p hp).mono hle
   ·rw[mg hlt,if_neg hb.2]
    exact H.live j l b hb.1
   ·by_cases ZQ:q=b
    ·subst ZQ
     have:c=cs:=by simpa using hq.symm
     subst this
     exact⟨⟨_,_,hh⟩,fun j l ⟨h1,h2⟩=>h2 (H.dj _ _ _ _ _ h1 hb).1⟩
    ·have hq:ρ.fz q=some c:=by simpa[ZQ]using hq
     exact⟨(H.fz q c hq).1,fun j l hj=>(H.fz q c hq).2 j l hj.1⟩
  refine⟨_,O2,hle,hF2,H2, .inr ⟨b,base,cs,⟨cap,hr⟩,by simp,nO.mono hle.fz (nO.mk fun j p hj=>?_)⟩⟩
  obtain⟨x,hx,h2⟩:=hc j (.p p) (by simp[hj])
  cases hx with
  |p hx=>exact⟨x,h2,hx⟩
end
end Sx
end
end Go.Proofs.YtakhobfamnjnoaaGreatDoor
