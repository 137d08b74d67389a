/- A machine that runs closed calls of the program by reckoning (in the kernel): its values, its memory, what they stand for. -/
import Derived.WalkSpells
import Derived.WalkLawsBesides
import Derived.Maps.RangeWalk
import Derived.Lib.Hide
import Derived.Laws.EntriesVeiled
import Derived.Laws.CopyOwn
set_option linter.unusedVariables false
set_option linter.unusedSimpArgs false
namespace Go.Proofs.YtakhobfamnjnoaaGreatDoor
namespace bU
open Go Go.RowKit
inductive Tr (α:Type) where
 |leaf
 |node (v:Option α) (l r:Tr α)
noncomputable def Tr.get {α:Type}(t:Tr α):Nat->Option α:=
 Tr.rec (motive:=fun _=>Nat->Option α) (fun _=>none)
  (fun v _ _ gl gr n=>Nat.casesOn n v fun m=>Bool.casesOn (Nat.beq (Nat.mod m 2) 0) (gr (Nat.div m 2)) (gl (Nat.div m 2))) t
noncomputable def Tr.tN {α:Type}(fuel:Nat):Nat->Option α->(Tr α->Bool)->Bool:=
 Nat.rec (motive:=fun _=>Nat->Option α->(Tr α->Bool)->Bool) (fun _ _ _=>false)
  (fun _ ih n x k=>Nat.casesOn n (k (.node x .leaf .leaf)) fun m=>Bool.casesOn (Nat.beq (Nat.mod m 2) 0) (ih (Nat.div m 2) x fun t=>k (.node none .leaf t)) (ih (Nat.div m 2) x fun t=>k (.node none t .leaf))) fuel
noncomputable def Tr.iZ {α:Type}(t:Tr α):Nat->Option α->(Tr α->Bool)->Bool:=
 Tr.rec (motive:=fun _=>Nat->Option α->(Tr α->Bool)->Bool) (fun n x k=>Tr.tN 64 n x k)
  (fun v l r sl sr n x k=>Nat.casesOn n (k (.node x l r)) fun m=>Bool.casesOn (Nat.beq (Nat.mod m 2) 0) (sr (Nat.div m 2) x fun t=>k (.node v l t)) (sl (Nat.div m 2) x fun t=>k (.node v t r))) t
section
variable {α:Type}
theorem Tr.mP (v:Option α)(l r:Tr α)(m:Nat):(Tr.node v l r).get (m+1)=if m%2=0 then l.get (m/2)else r.get (m/2):=by
 show Bool.casesOn (motive:=fun _=>Option α) (Nat.beq (m%2) 0) (r.get (m/2)) (l.get (m/2))=_
 rcases Nat.mod_two_eq_zero_or_one m with h|h<;>rw[h]<;>rfl
theorem Tr.abW (fuel:Nat): ∀{n:Nat}{x:Option α}{k:Tr α->Bool},Tr.tN fuel n x k=true-> ∃t',k t'=true/\ ∀m,t'.get m=if m=n then x else none:=by
 induction fuel with
 |zero=>intro n x k h;cases h
 |succ f ih=>
  intro n x k h
  cases n with
  |zero=>
   refine⟨_,h,fun m=>?_⟩
   cases m with
   |zero=>rfl
   |succ m=>rw[if_neg (Nat.succ_ne_zero m),Tr.mP];split<;>rfl
  |succ n=>
   change(Bool.casesOn (motive:=fun _=>Bool) (Nat.beq (n%2) 0) (Tr.tN f (n/2) x fun t=>k (.node none .leaf t)) (Tr.tN f (n/2) x fun t=>k (.node none t .leaf)))=true at h
   rcases Nat.mod_two_eq_zero_or_one n with h2|h2
   ·rw[h2]at h
    obtain⟨t',hk,hg⟩:=ih (k:=fun t=>k (.node none t .leaf)) h
    refine⟨_,hk,fun m=>?_⟩
    cases m with
    |zero=>rw[if_neg (by omega)];rfl
    |succ m=>
     rw[Tr.mP]
     by_cases hm:m%2=0
     ·rw[if_pos hm,hg]
      by_cases he:m=n
      ·subst he;simp
      ·rw[if_neg (by omega),if_neg (by omega)]
     ·rw[if_neg hm,if_neg (by omega)];rfl
   ·rw[h2]at h
    obtain⟨t',hk,hg⟩:=ih (k:=fun t=>k (.node none .leaf t)) h
    refine⟨_,hk,fun m=>?_⟩
    cases m with
    |zero=>rw[if_neg (by omega)];rfl
    |succ m=>
     rw[Tr.mP]
     by_cases hm:m%2=0
     ·rw[if_pos hm,if_neg (by omega)];rfl
     ·rw[if_neg hm,hg]
      by_cases he:m=n
      ·subst he;simp
      ·rw[if_neg (by omega),if_neg (by omega)]
theorem Tr.bJ {t:Tr α}: ∀{n:Nat}{x:Option α}{k:Tr α->Bool},t.iZ n x k=true-> ∃t',k t'=true/\ ∀m,t'.get m=if m=n then x else t.get m:=by
 induction t with
 |leaf=>intro n x k h;exact Tr.abW 64 h
 |node v l r ihl ihr=>
  intro n x k h
  cases n with
  |zero=>
   refine⟨_,h,fun m=>?_⟩
   cases m with
   |zero=>rfl
   |succ m=>rw[if_neg (Nat.succ_ne_zero m),Tr.mP,Tr.mP]
  |succ n=>
   change(Bool.casesOn (motive:=fun _=>Bool) (Nat.beq (n%2) 0) (r.iZ (n/2) x fun t=>k (.node v l t)) (l.iZ (n/2) x fun t=>k (.node v t r)))=true at h
   rcases Nat.mod_two_eq_zero_or_one n with h2|h2
   ·rw[h2]at h
    obtain⟨t',hk,hg⟩:=ihl (k:=fun t=>k (.node v t r)) h
    refine⟨_,hk,fun m=>?_⟩
    cases m with
    |zero=>rw[if_neg (by omega)];rfl
    |succ m=>
     rw[Tr.mP,Tr.mP]
     by_cases hm:m%2=0
     ·rw[if_pos hm,if_pos hm,hg]
      by_cases he:m=n
      ·subst he;simp
      ·rw[if_neg (by omega),if_neg (by omega)]
     ·rw[if_neg hm,if_neg hm,if_neg (by omega)]
   ·rw[h2]at h
    obtain⟨t',hk,hg⟩:=ihr (k:=fun t=>k (.node v l t)) h
    refine⟨_,hk,fun m=>?_⟩
    cases m with
    |zero=>rw[if_neg (by omega)];rfl
    |succ m=>
     rw[Tr.mP,Tr.mP]
     by_cases hm:m%2=0
     ·rw[if_pos hm,if_pos hm,if_neg (by omega)]
     ·rw[if_neg hm,if_neg hm,hg]
      by_cases he:m=n
      ·subst he;simp
      ·rw[if_neg (by omega),if_neg (by omega)]
end
noncomputable def fN (n:Nat)(k:Nat->Bool):Bool:=Nat.casesOn n (k 0) fun m=>k (Nat.succ m)
theorem gW (n:Nat)(k:Nat->Bool):fN n k=k n:=by cases n<;>rfl
noncomputable def fI (i:Int)(k:Int->Bool):Bool:=Int.casesOn i (fun n=>fN n fun n=>k (Int.ofNat n)) (fun n=>fN n fun n=>k (Int.negSucc n))
theorem XF (i:Int)(k:Int->Bool):fI i k=k i:=by cases i<;>simp[fI,gW]
noncomputable def fB (b:Bool)(k:Bool->Bool):Bool:=Bool.casesOn b (k false) (k true)
theorem XH (b:Bool)(k:Bool->Bool):fB b k=k b:=by cases b<;>rfl
noncomputable def fL {α:Type}(l:List α):(List α->Bool)->Bool:=List.rec (motive:=fun _=>(List α->Bool)->Bool) (fun k=>k []) (fun a _ ih k=>ih fun l=>k (a::l)) l
theorem iF {α:Type}(l:List α)(k:List α->Bool):fL l k=k l:=by
 induction l generalizing k with
 |nil=>rfl
 |cons a l ih=>exact ih _
noncomputable def Z8 (l:List Nat):(List Nat->Bool)->Bool:=List.rec (motive:=fun _=>(List Nat->Bool)->Bool) (fun k=>k []) (fun a _ ih k=>fN a fun a=>ih fun l=>k (a::l)) l
theorem RQ (l:List Nat)(k:List Nat->Bool):Z8 l k=k l:=by
 induction l generalizing k with
 |nil=>rfl
 |cons a l ih=>show fN a (fun a=>Z8 l fun l=>k (a::l))=_;rw[gW,ih]
inductive F2 {α β:Type}(R:α->β->Prop):List α->List β->Prop where
 |nil:F2 R [] []
 |cons {a:α} {b:β} {l:List α} {m:List β} (h:R a b) (t:F2 R l m):F2 R (a::l) (b::m)
inductive CV where
 |bool (b:Bool)|int (k:IntKind) (n:Int)|str (s:List Nat)
 |nU|ptr (id off:Nat)
 |bZ|sl (id off len cut:Nat) (lim:Option Nat)
 |nV|mp (id:Nat)
 |uK|ch (id:Nat)
 |oQ|fn (f:Nat)|clo (id:Nat)
 |qN|gY (id:Nat)
 |AA (id:Nat)
 |Io (id:Nat)
inductive AV where
 |c (v:CV)
 |agg (l:List CV)
inductive RV where
 |c (v:CV)
 |agg (l:List CV)
 |aK (l:List AV)
def AV.rv:AV->RV
 | .c v=> .c v
 | .agg l=> .agg l
abbrev RV.undef:RV:= .aK []
inductive RI where
 |blk (b base cap:Nat)
 |fnv (f:FuncId) (first caps:Array Value)
 |ifv (t:TypeId) (v:Value)
 |slv (b o cap:Nat)
abbrev Ren:=Nat->Option RI
def Ren.le (ρ ρ':Ren):Prop:= ∀i x,ρ i=some x->ρ' i=some x
theorem Ren.le_refl (ρ:Ren):ρ.le ρ:=fun _ _ h=>h
theorem Ren.le.le_trans {a b c:Ren}(h:a.le b)(k:b.le c):a.le c:=fun i x hx=>k i x (h i x hx)
structure Ext (n n':Nat)(ρ ρ':Ren):Prop where
 le:ρ.le ρ'
 up:n<=n'
 keep: ∀i,i<n->ρ i=none->ρ' i=none
theorem Ext.refl (n:Nat)(ρ:Ren):Ext n n ρ ρ:=⟨ρ.le_refl,Nat.le_refl _,fun _ _ h=>h⟩
theorem Ext.trans {a b c:Nat}{ρ ρ' ρ'':Ren}(h:Ext a b ρ ρ')(k:Ext b c ρ' ρ''):Ext a c ρ ρ'':=
 ⟨h.le.le_trans k.le,Nat.le_trans h.up k.up,fun i hi hn=>k.keep i (Nat.lt_of_lt_of_le hi h.up) (h.keep i hi hn)⟩
def ba (s:List Nat):ByteArray:=⟨(s.map UInt8.ofNat).toArray⟩
def small (s:List Nat):Prop:= ∀b∈s,b<256
inductive G (ρ:Ren):CV->Value->Prop where
 |bool (b:Bool):G ρ (.bool b) (.bool b)
 |int (k:IntKind) (n:Int):G ρ (.int k n) (.int k n)
 |str (s:List Nat) (h:small s):G ρ (.str s) (.string (ba s))
 |nU:G ρ .nU (.pointer none)
 |ptr {id b base cap:Nat} (off:Nat) (h:ρ id=some (.blk b base cap)):G ρ (.ptr id off) (.pointer (some ⟨b,base+off,none⟩))
 |bZ:G ρ .bZ (.slice none 0 0)
 |sl {id b base cap:Nat} (off len cut:Nat) (lim:Option Nat) (h:ρ id=some (.blk b base cap)) (h1:len<=lim.getD (cap-cut)) (h2:lim.getD (cap-cut)<=maxLen) (h3: ∀c,lim=some c->c<=maxLen):
   G ρ (.sl id off len cut lim) (.slice (some ⟨b,base+off,none⟩) len (lim.getD (cap-cut)))
 |nV:G ρ .nV (.map none)
 |mp {id b base cap:Nat} (h:ρ id=some (.blk b base cap)):G ρ (.mp id) (.map (some b))
 |uK:G ρ .uK (.chan none)
 |ch {id b base cap:Nat} (h:ρ id=some (.blk b base cap)):G ρ (.ch id) (.chan (some b))
 |oQ:G ρ .oQ .nilFunc
 |fn (f:Nat):G ρ (.fn f) (.func (.func f) #[] #[])
 |clo {id f:Nat} {x y:Array Value} (h:ρ id=some (.fnv f x y)):G ρ (.clo id) (.func (.func f) x y)
 |qN:G ρ .qN .nilIface
 |gY {id t:Nat} {v:Value} (h:ρ id=some (.ifv t v)):G ρ (.gY id) (.iface t v)
 |AA {id b o cap:Nat} (h:ρ id=some (.slv b o cap)) (hm:cap<=maxLen):G ρ (.AA id) (.slice (some ⟨b,o,none⟩) 0 cap)
 |Io {id b base cap:Nat} (h:ρ id=some (.blk b base cap)):G ρ (.Io id) (.func (.yield b) #[] #[])
inductive GA (ρ:Ren):AV->Value->Prop where
 |c {v:CV} {x:Value} (h:G ρ v x):GA ρ (.c v) x
 |agg {l:List CV} {xs:List Value} (h:F2 (G ρ) l xs):GA ρ (.agg l) (.agg xs.toArray)
inductive GR (ρ:Ren):RV->Value->Prop where
 |c {v:CV} {x:Value} (h:G ρ v x):GR ρ (.c v) x
 |agg {l:List CV} {xs:List Value} (h:F2 (G ρ) l xs):GR ρ (.agg l) (.agg xs.toArray)
 |aK {l:List AV} {xs:List Value} (h:F2 (GA ρ) l xs):GR ρ (.aK l) (.tuple xs.toArray)
section
variable {ρ ρ':Ren}
theorem G.mono (hρ:ρ.le ρ'){v:CV}{x:Value}(h:G ρ v x):G ρ' v x:=by
 cases h with
 |bool=>exact .bool _
 |int=>exact .int _ _
 |str s h=>exact .str _ h
 |nU=>exact .nU
 |ptr off h=>exact .ptr _ (hρ _ _ h)
 |bZ=>exact .bZ
 |sl off len cut lim h h1 h2 h3=>exact .sl _ _ _ _ (hρ _ _ h) h1 h2 h3
 |nV=>exact .nV
 |mp h=>exact .mp (hρ _ _ h)
 |uK=>exact .uK
 |ch h=>exact .ch (hρ _ _ h)
 |oQ=>exact .oQ
 |fn=>exact .fn _
 |clo h=>exact .clo (hρ _ _ h)
 |qN=>exact .qN
 |gY h=>exact .gY (hρ _ _ h)
 |AA h hm=>exact .AA (hρ _ _ h) hm
 |Io h=>exact .Io (hρ _ _ h)
theorem oK {α β:Type}{R S:α->β->Prop}(h: ∀a b,R a b->S a b){l:List α}{m:List β}(hl:F2 R l m):F2 S l m:=by
 induction hl with
 |nil=>exact .nil
 |cons a _ ih=>exact .cons (h _ _ a) ih
theorem Gs.mono (hρ:ρ.le ρ'){l:List CV}{xs:List Value}(h:F2 (G ρ) l xs):F2 (G ρ') l xs:=oK (fun _ _=>G.mono hρ) h
theorem GA.mono (hρ:ρ.le ρ'){v:AV}{x:Value}(h:GA ρ v x):GA ρ' v x:=by
 cases h with
 |c h=>exact .c (h.mono hρ)
 |agg h=>exact .agg (Gs.mono hρ h)
theorem yQ.mono (hρ:ρ.le ρ'){l:List AV}{xs:List Value}(h:F2 (GA ρ) l xs):F2 (GA ρ') l xs:=oK (fun _ _=>GA.mono hρ) h
theorem GR.mono (hρ:ρ.le ρ'){v:RV}{x:Value}(h:GR ρ v x):GR ρ' v x:=by
 cases h with
 |c h=>exact .c (h.mono hρ)
 |agg h=>exact .agg (Gs.mono hρ h)
 |aK h=>exact .aK (yQ.mono hρ h)
theorem GA.rv {v:AV}{x:Value}(h:GA ρ v x):GR ρ v.rv x:=by
 cases h with
 |c h=>exact .c h
 |agg h=>exact .agg h
theorem G.one {v:CV}{x:Value}(h:G ρ v x):x.oneCell'=true:=by cases h<;>rfl
theorem G.cells {v:CV}{x:Value}(h:G ρ v x):x.cells= #[x]:=by cases h<;>rfl
theorem GR.undef:GR ρ .undef Go.undef:= .aK .nil
end
section
variable {α β:Type} {R:α->β->Prop}
theorem dw {l:List α}{m:List β}(h:F2 R l m):l.length=m.length:=by
 induction h with
 |nil=>rfl
 |cons _ _ ih=>simp[ih]
theorem fO {l:List α}{m:List β}(h:F2 R l m): ∀{i:Nat}{a:α},l[i]?=some a-> ∃b,m[i]?=some b/\R a b:=by
 induction h with
 |nil=>intro i a h;simp at h
 |cons x _ ih=>
  intro i a h
  cases i with
  |zero=>simp at h;subst h;exact⟨_,rfl,x⟩
  |succ i=>simp at h;simpa using ih h
theorem dR {l l':List α}{m m':List β}(h:F2 R l m)(h':F2 R l' m'):F2 R (l++l') (m++m'):=by
 induction h with
 |nil=>exact h'
 |cons x _ ih=>exact .cons x ih
theorem xC {l:List α}{m:List β}(h:F2 R l m): ∀n,F2 R (l.drop n) (m.drop n):=by
 induction h with
 |nil=>intro n;simp;exact .nil
 |cons x t ih=>intro n;cases n with
  |zero=>exact .cons x t
  |succ n=>exact ih n
theorem xB {l:List α}{m:List β}(h:F2 R l m): ∀n,F2 R (l.take n) (m.take n):=by
 induction h with
 |nil=>intro n;simp;exact .nil
 |cons x t ih=>intro n;cases n with
  |zero=>exact .nil
  |succ n=>exact .cons x (ih n)
theorem Aq {l:List α}{m:List β}(h:F2 R l m){a:α}{b:β}(hab:R a b): ∀n,F2 R (l.set n a) (m.set n b):=by
 induction h with
 |nil=>intro n;exact .nil
 |cons x t ih=>intro n;cases n with
  |zero=>exact .cons hab t
  |succ n=>exact .cons x (ih n)
theorem J4 {l:List α}{m:List β}(h:F2 R l m): ∀b∈m,∃a∈l,R a b:=by
 induction h with
 |nil=>intro b hb;cases hb
 |cons x _ ih=>intro b hb;cases hb with
  |head=>exact⟨_, .head _,x⟩
  |tail _ hb=>obtain⟨a,ha,hr⟩:=ih b hb;exact⟨a, .tail _ ha,hr⟩
end
structure ME where
 key:AV
 val:AV
 born:Nat
inductive AO where
 |row (cells:List CV) (e:TypeId) (cap:Option Nat)
 |ro (cells:List CV)
 |map (es:List ME) (clock:Nat)
 |chan (cap:Nat) (buf:List AV) (s r:Nat)
 |sit (s:List Nat) (pos:Nat)
 |fJ (m:Nat) (since:Nat) (seen:List Nat) (stepped:Nat)
 |clo (f:FuncId) (first caps:List AV)
 |gY (t:TypeId) (v:AV)
 |kE
 |any
 |loop (N:Nat) (env:Tr RV) (ps:List Tmp) (yH bd:Code) (busy:Bool) (pend:Option (Option Nat))
def yZ:Option Nat->Code
 |none=> .ret
 |some i=> .exit i
abbrev Hp:=Tr AO
abbrev Env:=Tr RV
def GE (ρ:Ren)(a:ME)(b:MapEntry):Prop:=GA ρ a.key b.key/\GA ρ a.val b.val/\b.born=a.born
inductive Ob (P:Program)(ρ:Ren)(id:Nat):AO->World->Prop where
 |row {w:World} {b base cap:Nat} {cells:List CV} {e:TypeId} {cp:Option Nat} {cs:Array Value} (hr:ρ id=some (.blk b base cap)) (hh:w.heap[b]?=some (.cells cs e (0,0)))
   (hc: ∀j v,cells[j]?=some v-> ∃x,G ρ v x/\cs[base+j]?=some x) (hcap: ∀m,cp=some m->cap=m/\(m=0->base=0)) (hsz:base+cap*P.cellsOf e<=cs.size) (hm:cap<=maxLen):Ob P ρ id (.row cells e cp) w
 |ro {w:World} {b base cap:Nat} {cells:List CV} {e:TypeId} {cs:Array Value} {fr:Nat×Nat} (hr:ρ id=some (.blk b base cap)) (hh:w.heap[b]?=some (.cells cs e fr))
   (hc: ∀j v,cells[j]?=some v-> ∃x,G ρ v x/\cs[base+j]?=some x):Ob P ρ id (.ro cells) w
 |map {w:World} {b:Nat} {es:List ME} {clock:Nat} {xs:List MapEntry} (hr:ρ id=some (.blk b 0 0)) (hh:w.heap[b]?=some (.map xs.toArray clock)) (hx:F2 (GE ρ) es xs):Ob P ρ id (.map es clock) w
 |chan {w:World} {b:Nat} {cap s r:Nat} {buf:List AV} {xs:List Value} (hr:ρ id=some (.blk b 0 0)) (hh:w.heap[b]?=some (.chan cap xs.toArray false s r false)) (hx:F2 (GA ρ) buf xs):Ob P ρ id (.chan cap buf s r) w
 |sit {w:World} {b pos:Nat} {s:List Nat} (hr:ρ id=some (.blk b 0 0)) (hh:w.heap[b]?=some (.stringIter (ba s) pos)) (hs:small s):Ob P ρ id (.sit s pos) w
 |fJ {w:World} {b m bm x y since stepped:Nat} {seen:List Nat} (hr:ρ id=some (.blk b 0 0)) (hm:ρ m=some (.blk bm x y)) (hh:w.heap[b]?=some (.mapIter (some bm) since seen.toArray stepped)):Ob P ρ id (.fJ m since seen stepped) w
 |clo {w:World} {f:FuncId} {first caps:List AV} {xs ys:List Value} (hr:ρ id=some (.fnv f xs.toArray ys.toArray)) (hx:F2 (GA ρ) first xs) (hy:F2 (GA ρ) caps ys):Ob P ρ id (.clo f first caps) w
 |gY {w:World} {t:TypeId} {v:AV} {x:Value} (hr:ρ id=some (.ifv t x)) (hx:GA ρ v x):Ob P ρ id (.gY t v) w
 |kE {w:World} {b:Nat} (hr:ρ id=some (.blk b 0 0)) (hh:w.heap[b]?=some (.deferred (some []))):Ob P ρ id .kE w
 |any {w:World} {b:Nat} (hr:ρ id=some (.blk b 0 0)):Ob P ρ id .any w
 |loop {w:World} {b N:Nat} {env:Tr RV} {ps:List Tmp} {yH bd:Code} {busy:Bool} {pend:Option (Option Nat)} {r:Loop} (hr:ρ id=some (.blk b 0 0)) (hh:w.heap[b]?=some (.loop r))
   (hn:r.tmps.size=N) (he: ∀i v,env.get i=some v-> ∃x,r.tmps[i]?=some x/\GR ρ v x) (hp:r.params.toList=ps) (ha:r.assign=yH) (hd:r.body=bd)
   (hs:r.state=if busy then .busy else if pend.isSome then .done else .ready) (hq:r.pending=pend.map yZ):Ob P ρ id (.loop N env ps yH bd busy pend) w
def jw (ρ:Ren)(id b:Nat):Prop:= ∃base cap,ρ id=some (.blk b base cap)
section
variable {P:Program} {ρ ρ':Ren} {id:Nat} {o:AO} {w w':World}
theorem GE.mono (hρ:ρ.le ρ'){a:ME}{b:MapEntry}(h:GE ρ a b):GE ρ' a b:=⟨h.1.mono hρ,h.2.1.mono hρ,h.2.2⟩
theorem Ob.mono (hρ:ρ.le ρ')(h:Ob P ρ id o w):Ob P ρ' id o w:=by
 cases h with
 |row hr hh hc hcap hsz hm=>exact .row (hρ _ _ hr) hh (fun j v hv=>let⟨x,h1,h2⟩:=hc j v hv;⟨x,h1.mono hρ,h2⟩) hcap hsz hm
 |ro hr hh hc=>exact .ro (hρ _ _ hr) hh (fun j v hv=>let⟨x,h1,h2⟩:=hc j v hv;⟨x,h1.mono hρ,h2⟩)
 |map hr hh hx=>exact .map (hρ _ _ hr) hh (oK (fun _ _=>GE.mono hρ) hx)
 |chan hr hh hx=>exact .chan (hρ _ _ hr) hh (yQ.mono hρ hx)
 |sit hr hh hs=>exact .sit (hρ _ _ hr) hh hs
 |fJ hr hm hh=>exact .fJ (hρ _ _ hr) (hρ _ _ hm) hh
 |clo hr hx hy=>exact .clo (hρ _ _ hr) (yQ.mono hρ hx) (yQ.mono hρ hy)
 |gY hr hx=>exact .gY (hρ _ _ hr) (hx.mono hρ)
 |kE hr hh=>exact .kE (hρ _ _ hr) hh
 |any hr=>exact .any (hρ _ _ hr)
 |loop hr hh hn he hp ha hd hs hq=>exact .loop (hρ _ _ hr) hh hn (fun i v hv=>let⟨x,h1,h2⟩:=he i v hv;⟨x,h1,h2.mono hρ⟩) hp ha hd hs hq
theorem Ob.frame (h:Ob P ρ id o w)(hk: ∀b,jw ρ id b->b<w.heap.size->w'.heap[b]?=w.heap[b]?):Ob P ρ id o w':=by
 have lt: ∀{b:Nat}{x:Obj},w.heap[b]?=some x->b<w.heap.size:=fun h=>(Array.getElem?_eq_some_iff.1 h).1
 cases h with
 |row hr hh hc hcap hsz hm=>exact .row hr ((hk _ ⟨_,_,hr⟩ (lt hh)).trans hh) hc hcap hsz hm
 |ro hr hh hc=>exact .ro hr ((hk _ ⟨_,_,hr⟩ (lt hh)).trans hh) hc
 |map hr hh hx=>exact .map hr ((hk _ ⟨_,_,hr⟩ (lt hh)).trans hh) hx
 |chan hr hh hx=>exact .chan hr ((hk _ ⟨_,_,hr⟩ (lt hh)).trans hh) hx
 |sit hr hh hs=>exact .sit hr ((hk _ ⟨_,_,hr⟩ (lt hh)).trans hh) hs
 |fJ hr hm hh=>exact .fJ hr hm ((hk _ ⟨_,_,hr⟩ (lt hh)).trans hh)
 |clo hr hx hy=>exact .clo hr hx hy
 |gY hr hx=>exact .gY hr hx
 |kE hr hh=>exact .kE hr ((hk _ ⟨_,_,hr⟩ (lt hh)).trans hh)
 |any hr=>exact .any hr
 |loop hr hh hn he hp ha hd hs hq=>exact .loop hr ((hk _ ⟨_,_,hr⟩ (lt hh)).trans hh) hn he hp ha hd hs hq
end
structure HR (P:Program)(g:Nat)(w0:World)(ρ:Ren)(h:Hp)(nx:Nat)(w:World):Prop where
 fresh: ∀id,nx<=id->ρ id=none
 tV:g<=nx
 objs: ∀id o,h.get id=some o->ρ id≠none->Ob P ρ id o w
 inj: ∀i j oi oj b,h.get i=some oi->h.get j=some oj->jw ρ i b->jw ρ j b->i=j
 own: ∀id b,jw ρ id b->g<=id->w0.heap.size<=b
 lt: ∀id b,jw ρ id b->b<w.heap.size
 kept:Below w0.heap.size w0 w
 glob: ∀i,i<g-> ∃cap,ρ i=some (.blk i 0 cap)
 hfr: ∀id,nx<=id->h.get id=none
section
variable {P:Program} {g:Nat} {w0:World} {ρ:Ren} {h:Hp} {nx:Nat} {w:World}
theorem HR.ob (H:HR P g w0 ρ h nx w){id:Nat}{o:AO}{x:RI}(ho:h.get id=some o)(hr:ρ id=some x):Ob P ρ id o w:=H.objs id o ho (by rw[hr];simp)
def Ren.put (ρ:Ren)(id:Nat)(x:RI):Ren:=fun i=>if i=id then some x else ρ i
theorem Ren.fA (ρ:Ren)(id:Nat)(x:RI):ρ.put id x id=some x:=by simp[Ren.put]
theorem Ren.kD {ρ:Ren}{i id:Nat}{x:RI}(h:i≠id):ρ.put id x i=ρ i:=by unfold Ren.put;rw[if_neg h]
theorem Ren.kT {id:Nat}(hf:ρ id=none)(x:RI):ρ.le (ρ.put id x):=fun i y hy=>by
 unfold Ren.put
 split
 ·rename_i e;subst e;rw[hf]at hy;cases hy
 ·exact hy
theorem Ext.put {ρ:Ren}{nx:Nat}(hf:ρ nx=none)(x:RI):Ext nx (nx+1) ρ (ρ.put nx x):=
 ⟨Ren.kT hf x,Nat.le_succ _,fun i hi hn=>by unfold Ren.put;rw[if_neg (by omega)];exact hn⟩
theorem HR.drew (H:HR P g w0 ρ h nx w):HR P g w0 ρ h nx w.drew:=
 ⟨H.fresh,H.tV,fun id o ho hn=>(H.objs id o ho hn).frame (fun _ _ _=>rfl),H.inj,H.own,H.lt,⟨H.kept.os,H.kept.tape,H.kept.output,H.kept.size,H.kept.block⟩,H.glob,H.hfr⟩
theorem HR.name (H:HR P g w0 ρ h nx w){x:RI}(hx: ∀b base cap,x≠ .blk b base cap){o:AO}{h':Hp}(hh: ∀m,h'.get m=if m=nx then some o else h.get m)
 (ho:Ob P (ρ.put nx x) nx o w):ρ.le (ρ.put nx x)/\HR P g w0 (ρ.put nx x) h' (nx+1) w:=by
 have hle:=Ren.kT (H.fresh nx (Nat.le_refl _)) x
 have hb: ∀id b,jw (ρ.put nx x) id b->id≠nx/\jw ρ id b:=fun id b ⟨base,cap,hb⟩=>by
  unfold Ren.put at hb
  split at hb
  ·cases hb;exact absurd rfl (hx _ _ _)
  ·exact⟨by assumption,_,_,hb⟩
 refine⟨hle,⟨fun id hid=>?_,by have:=H.tV;omega,fun id p hp hn=>?_,fun i j oi oj b hi hj bi bj=>?_,fun id b hid=>H.own id b (hb _ _ hid).2,fun id b hid=>H.lt id b (hb _ _ hid).2,H.kept,fun i hi=>(H.glob i hi).imp fun _ h=>hle _ _ h,fun id hid=>by rw[hh,if_neg (by omega)];exact H.hfr id (by omega)⟩⟩
 ·unfold Ren.put;rw[if_neg (by omega)];exact H.fresh id (by omega)
 ·rw[hh]at hp
  split at hp
  ·rename_i e;cases hp;subst e;exact ho
  ·rename_i hne;rw[Ren.kD hne]at hn;exact(H.objs id p hp hn).mono hle
 ·obtain⟨ni,bi⟩:=hb _ _ bi
  obtain⟨nj,bj⟩:=hb _ _ bj
  rw[hh,if_neg ni]at hi
  rw[hh,if_neg nj]at hj
  exact H.inj i j _ _ b hi hj bi bj
theorem HR.new (H:HR P g w0 ρ h nx w)(x:Obj){base cap:Nat}{o:AO}{h':Hp}(hh: ∀m,h'.get m=if m=nx then some o else h.get m)
 (ho: ∀ρ',ρ.le ρ'->ρ' nx=some (.blk w.heap.size base cap)->Ob P ρ' nx o (w.alloc x)):
 ∃ρ',Ext nx (nx+1) ρ ρ'/\ρ' nx=some (.blk w.heap.size base cap)/\HR P g w0 ρ' h' (nx+1) (w.alloc x):=by
 have hle:=Ren.kT (H.fresh nx (Nat.le_refl _)) (.blk w.heap.size base cap)
 have hb: ∀id b,jw (ρ.put nx (.blk w.heap.size base cap)) id b->(id=nx/\b=w.heap.size)\/(id≠nx/\jw ρ id b):=fun id b ⟨bs,cp,hb⟩=>by
  unfold Ren.put at hb
  split at hb
  ·rename_i e;cases hb;exact .inl ⟨e,rfl⟩
  ·exact .inr ⟨by assumption,_,_,hb⟩
 have hle0:w0.heap.size<=w.heap.size:=H.kept.size
 refine⟨_,Ext.put (H.fresh nx (Nat.le_refl _)) _,Ren.fA _ _ _,⟨fun id hid=>?_,by have:=H.tV;omega,fun id p hp hn=>?_,fun i j oi oj b hi hj bi bj=>?_,fun id b hid hg=>?_,fun id b hid=>?_,?_,fun i hi=>(H.glob i hi).imp fun _ h=>hle _ _ h,fun id hid=>by rw[hh,if_neg (by omega)];exact H.hfr id (by omega)⟩⟩
 ·unfold Ren.put;rw[if_neg (by omega)];exact H.fresh id (by omega)
 ·rw[hh]at hp
  split at hp
  ·rename_i e;cases hp;subst e;exact ho _ hle (Ren.fA _ _ _)
  ·rename_i hne;rw[Ren.kD hne]at hn;exact((H.objs id p hp hn).frame (fun b _ hb=>Below.heap_alloc _ _ _ hb)).mono hle
 ·rcases hb _ _ bi with⟨ei,eb⟩|⟨ni,bi⟩<;>rcases hb _ _ bj with⟨ej,eb'⟩|⟨nj,bj⟩
  ·rw[ei,ej]
  ·exact absurd (H.lt _ _ bj) (by omega)
  ·exact absurd (H.lt _ _ bi) (by omega)
  ·rw[hh,if_neg ni]at hi
   rw[hh,if_neg nj]at hj
   exact H.inj i j _ _ b hi hj bi bj
 ·rcases hb _ _ hid with⟨_,eb⟩|⟨_,hid⟩
  ·omega
  ·exact H.own id b hid hg
 ·rw[World.size_alloc]
  rcases hb _ _ hid with⟨_,eb⟩|⟨_,hid⟩
  ·omega
  ·have:=H.lt id b hid;omega
 ·exact⟨H.kept.os,H.kept.tape,H.kept.output,by rw[World.size_alloc];omega,fun k hk=>(Below.heap_alloc _ _ _ (by omega)).trans (H.kept.block k hk)⟩
theorem HR.turn (H:HR P g w0 ρ h nx w){id b:Nat}{o o':AO}(hid:h.get id=some o)(hg:g<=id)(hb:jw ρ id b){w':World}(hs:w'.heap.size=w.heap.size)(hos:w'.os=w.os)(ht:w'.tape=w.tape)(hout:w'.output=w.output)
 (hk: ∀k,k≠b->w'.heap[k]?=w.heap[k]?) {h':Hp} (hh: ∀m,h'.get m=if m=id then some o' else h.get m) (ho:Ob P ρ id o' w'):HR P g w0 ρ h' nx w':=by
 have hlow:=H.own id b hb hg
 have hidn:id<nx:=by
  rcases Nat.lt_or_ge id nx with h|h
  ·exact h
  ·obtain⟨_,_,hb⟩:=hb;rw[H.fresh id h]at hb;cases hb
 refine⟨H.fresh,H.tV,fun i p hp hn=>?_,fun i j oi oj c hi hj bi bj=>?_,H.own,fun i c hc=>by rw[hs];exact H.lt i c hc,⟨hos.trans H.kept.os,ht.trans H.kept.tape,hout.trans H.kept.output,by rw[hs];exact H.kept.size,fun k hk'=>(hk k (by omega)).trans (H.kept.block k hk')⟩,H.glob,fun i hi=>by rw[hh,if_neg (by omega)];exact H.hfr i hi⟩
 ·rw[hh]at hp
  split at hp
  ·rename_i e;cases hp;subst e;exact ho
  ·rename_i hne
   refine(H.objs i p hp hn).frame (fun c hc _=>hk c (fun e=>hne ?_))
   subst e
   exact H.inj i id _ _ c hp hid hc hb
 ·have live: ∀k ok,h'.get k=some ok-> ∃ok,h.get k=some ok:=fun k ok hk=>by
   rw[hh]at hk
   split at hk
   ·rename_i e;subst e;exact⟨_,hid⟩
   ·exact⟨_,hk⟩
  obtain⟨_,hi⟩:=live _ _ hi
  obtain⟨_,hj⟩:=live _ _ hj
  exact H.inj i j _ _ c hi hj bi bj
theorem HR.drop (H:HR P g w0 ρ h nx w){id:Nat}{h':Hp}(hh: ∀m,h'.get m=if m=id then none else h.get m):HR P g w0 ρ h' nx w:=by
 have live: ∀k ok,h'.get k=some ok->h.get k=some ok:=fun k ok hk=>by
  rw[hh]at hk
  split at hk
  ·cases hk
  ·exact hk
 exact⟨H.fresh,H.tV,fun i p hp hn=>H.objs i p (live _ _ hp) hn,fun i j oi oj c hi hj=>H.inj i j oi oj c (live _ _ hi) (live _ _ hj),H.own,H.lt,H.kept,H.glob,fun i hi=>by rw[hh];split;rfl;exact H.hfr i hi⟩
end
end bU
end Go.Proofs.YtakhobfamnjnoaaGreatDoor
