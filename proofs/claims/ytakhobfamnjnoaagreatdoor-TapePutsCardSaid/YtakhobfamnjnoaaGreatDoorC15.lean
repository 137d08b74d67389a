/- Symbolic runs: words for contracts. -/
import Derived.Test.YtakhobfamnjnoaaGreatDoorC14
set_option linter.unusedVariables false
set_option linter.unusedSimpArgs false
namespace Go.Proofs.YtakhobfamnjnoaaGreatDoor
section
namespace Sx
open Go Go.RowKit
theorem pl:(∀(p:Prop)[Decidable p],(decide p=true)=p)/\(∀(p:Prop)[Decidable p],(decide p=false)= ¬p)/\(∀n:Nat,Int.ofNat n=(n:Int))/\(∀b:Bool,((!b)=true)=(b=false))/\(∀b:Bool,((!b)=false)=(b=true))/\(∀m n:Nat,((m:Int)=n)=(m=n))/\(∀m n:Nat,((m:Int)<n)=(m<n))/\(∀m n:Nat,((m:Int)<=n)=(m<=n))/\(∀a b:Bool,((a&&b)=true)=(a=true/\b=true))/\(∀n:Nat,(n:Int).toNat=n):=
 ⟨fun _ _=>by simp,fun _ _=>by simp,fun _=>rfl,fun b=>by cases b<;>simp,fun b=>by cases b<;>simp,fun _ _=>propext ⟨fun h=>by omega,fun h=>by omega⟩,fun _ _=>propext ⟨fun h=>by omega,fun h=>by omega⟩,fun _ _=>propext ⟨fun h=>by omega,fun h=>by omega⟩,fun a b=>by cases a<;>simp,fun _=>rfl⟩
theorem Sj {α:Type}{f:α->List PV}{n:Nat}(hf: ∀x,(f x).length=n): ∀{l:List α}{k:Nat}{x:α},l[k]?=some x->zK (l.flatMap f) (k*n) n=some (f x)
 |[],_,_,h=>by simp at h
 |y::l,0,x,h=>by
  simp at h;subst h
  simp[zK,hf]
 |y::l,k+1,x,h=>by
  have ih:=Sj hf (l:=l) (k:=k) (x:=x) (by simpa using h)
  obtain⟨h1,h2⟩:=FD ih
  have e:(k+1)*n=n+k*n:=by rw[Nat.add_mul];omega
  unfold zK
  rw[List.flatMap_cons,List.length_append,hf,e,if_pos (by omega),<-List.drop_drop,List.drop_left' (hf y),<-h2]
theorem Cc {α:Type}{f:α->List PV}{n:Nat}(hf: ∀x,(f x).length=n)(l:List α):(l.flatMap f).length=l.length*n:=by
 induction l with
 |nil=>simp
 |cons x l ih=>rw[List.flatMap_cons,List.length_append,hf,ih,List.length_cons,Nat.add_mul];omega
section
variable {bx:{α:Type}->α->α} (hb: ∀{α:Type}(x:α),bx x=x)
include hb
theorem gJ {α:Type}{f:α->List PV}{n:Nat}(hf: ∀x,(f x).length=n){l:List α}{L:List PV}(hL:L=l.flatMap f){k:Nat}{x:α}(hx:l[k]?=some x){v:List PV}(hv:v=f x):bx (if 0<=bx (Int.ofNat k)then zK (bx L) ((bx (Int.ofNat k)).toNat*n) n else none)=some v:=by
 simp only[hb]
 rw[if_pos (by simp),hL,hv]
 exact Sj hf hx
theorem gK {s k n:Nat}(h:k<n)(h0:0<s):bx (decide (0<s)&&decide ((bx (Int.ofNat k)).toNat<bx n))=true:=by
 simp only[hb];simp[h0,h]
theorem mQ {k:Nat}(h:k<4611686018427387904):PV.int .i64 (bx (Int.ofNat (k+1)))=PV.int .i64 (bx (wr .i64 (bx (Int.ofNat k)+1))):=by
 simp only[hb,Int.ofNat_eq_natCast]
 rw[rD (by omega)];simp
end
end Sx
end
section
structure Rec where
 pos:Int
 key:Int
 val:Int
deriving DecidableEq
instance:Inhabited Rec:=⟨⟨0,0,0⟩⟩
end
section
open Go Go.RowKit
inductive Ex where
 |mk (op n:Int) (args:List Ex)
instance:Inhabited Ex:=⟨.mk 0 0 []⟩
def Ex.op:Ex->Int| .mk o _ _=>o
def Ex.n:Ex->Int| .mk _ n _=>n
def Ex.args:Ex->List Ex| .mk _ _ l=>l
def arity (op:Int):Int:=if op=0\/18<op then-1 else if op<=4 then 0 else if op<=6 then 1 else if op=18 then 3 else 2
def dU:Nat->Ex->Bool
 |0,_=>false
 |f+1, .mk op n args=>decide (arity op=args.length)&&decide (0<=n)&&decide (n=0\/op=1)&&args.all (dU f)
abbrev yN:=(Int×Int×Int×Int)×Int
def pJ:List yN:=
 [((1,0,0,0),1),((2,0,0,0),1),((3,0,0,0),1),((4,0,0,0),1),((5,1,0,0),1),
  ((7,1,1,0),1),((8,1,1,0),1),((9,1,1,0),1),((10,1,1,0),1),((11,1,1,0),1),((6,2,0,0),2),
  ((16,2,2,0),2),((17,2,2,0),2),((14,2,2,0),2),((15,2,2,0),2),
  ((12,1,1,0),2),((13,1,1,0),2),((14,1,1,0),2),((15,1,1,0),2),((18,2,1,1),1),((18,2,2,2),2)]
def jy (k:Int×Int×Int×Int):Int:=((pJ.find? fun r=>r.1==k).map (·.2)).getD 0
def aV:Nat->Ex->Int
 |0,_=>0
 |f+1, .mk op _ args=>if(args.map (aV f)).contains 0 then 0 else jy (op,(args.map (aV f)).getD 0 0,(args.map (aV f)).getD 1 0,(args.map (aV f)).getD 2 0)
structure Env where
 key:Int
 val:Int
 acc:Int
theorem Wx {k:Int×Int×Int×Int}(h:jy k≠0):(k,jy k)∈pJ:=by
 unfold jy at*
 cases hf:pJ.find? (fun r=>r.1==k)with
 |none=>rw[hf]at h;exact absurd rfl h
 |some r=>
  have h1:=List.find?_some hf
  have h2:=List.mem_of_find?_eq_some hf
  simp only[beq_iff_eq]at h1
  simp only[Option.map_some,Option.getD_some]
  rw[<-h1];exact h2
theorem PZ {op a b c:Int}(h:jy (op,a,b,c)≠0):
 (jy (op,a,b,c)=1/\((op=1\/op=2\/op=3\/op=4)\/(op=5/\a=1)\/((op=7\/op=8\/op=9\/op=10\/op=11)/\a=1/\b=1)\/(op=18/\a=2/\b=1/\c=1)))\/
 (jy (op,a,b,c)=2/\((op=6/\a=2)\/((op=16\/op=17\/op=14\/op=15)/\a=2/\b=2)\/((op=12\/op=13\/op=14\/op=15)/\a=1/\b=1)\/(op=18/\a=2/\b=2/\c=2))):=by
 have h1:=Wx h
 clear h
 generalize jy (op,a,b,c)=t at*
 simp only[pJ,List.mem_cons,List.not_mem_nil,or_false,Prod.mk.injEq]at h1
 rcases h1 with h1|h1|h1|h1|h1|h1|h1|h1|h1|h1|h1|h1|h1|h1|h1|h1|h1|h1|h1|h1|h1<;>
  (obtain⟨⟨rfl,rfl,rfl,rfl⟩,rfl⟩:=h1;decide)
theorem XI {f:Nat}{op n:Int}{args:List Ex}(h:dU (f+1) (.mk op n args)=true):arity op=args.length/\0<=n/\(n=0\/op=1)/\ ∀a∈args,dU f a=true:=by
 simp only[dU,Bool.and_eq_true,decide_eq_true_eq,List.all_eq_true]at h
 exact⟨h.1.1.1,h.1.1.2,h.1.2,h.2⟩
theorem IC {k:Int}{c:Cell}{g:Int}: ∀{T:Tab},qJ T->jR (qL k c T) g=jR T g+(if vX T k=none/\grp k=g then 1 else 0)
 |[],_=>by simp[jR,qL,vX,List.countP_cons]
 |q::r,h=>by
  obtain⟨h1,h2⟩:=List.pairwise_cons.1 h
  unfold qL
  split
  ·rename_i hl
   have hne:k≠q.1:=fun e=>by rw[e,ji]at hl;cases hl
   have ih:=IC (k:=k) (c:=c) (g:=g) h2
   have hg:vX (q::r) k=vX r k:=by
    have hf:(k==q.1)=false:=by simp[hne]
    unfold vX;rw[List.find?_cons,hf]
   rw[hg]
   unfold jR at*
   rw[List.countP_cons,List.countP_cons,ih]
   omega
  ·rename_i hl
   split
   ·rename_i he
    have hg:vX (q::r) k≠none:=by unfold vX;rw[List.find?_cons];simp[he]
    rw[if_neg (fun h=>hg h.1)]
    unfold jR
    rw[List.countP_cons,List.countP_cons]
    simp only[he]
    omega
   ·rename_i he
    have hkq:fF k q.1=true:=(oJ he).resolve_left hl
    have hg:vX (q::r) k=none:=by
     rw[Yi]
     unfold iK
     intro hm
     obtain⟨p,hp,e⟩:=List.mem_map.1 hm
     rcases List.mem_cons.1 hp with rfl|hp
     ·exact he e
     ·have:=qX hkq (h1 p hp);rw[e,ji]at this;cases this
    rw[hg]
    unfold jR
    rw[List.countP_cons]
    simp
theorem ED.qL {T:Tab}(h:ED T){k:Int}{c:Cell}(hk:aO k)(hc:COk c)(hm:vX T k≠none\/jR T (grp k)<40):ED (qL k c T):=by
 refine⟨h.rises.qL,fun p hp=>?_,fun p hp=>?_,fun g=>?_⟩
 ·rcases(BL h.rises).1 hp with rfl|hp
  ·exact hk
  ·exact h.key p hp.1
 ·rcases(BL h.rises).1 hp with rfl|hp
  ·exact hc
  ·exact h.cell p hp.1
 ·rw[IC h.rises]
  split
  ·rename_i hh
   obtain⟨h1,rfl⟩:=hh
   have:=hm.resolve_left (fun h=>h h1)
   omega
  ·have:=h.many g;omega
def ae0 (T:Tab)(k:Int)(n:Nat):Int:=if 16<n then 2 else if vX T k=none/\40<=jR T (grp k)then 7 else 0
def jX (T:Tab)(k:Int)(c:Cell):Tab:=if ae0 T k c.2.length=0 then qL k c T else T
theorem Yg (T:Tab):T.length=jR T 0+jR T 1+jR T 2+jR T 3+jR T 4+jR T 5+jR T 6+jR T 7:=by
 unfold jR
 induction T with
 |nil=>rfl
 |cons p r ih=>
  have h1:=af8 p.1
  have h2:=af9 p.1
  simp only[List.length_cons,List.countP_cons,ih]
  have h3:grp p.1=0\/grp p.1=1\/grp p.1=2\/grp p.1=3\/grp p.1=4\/grp p.1=5\/grp p.1=6\/grp p.1=7:=by omega
  rcases h3 with h|h|h|h|h|h|h|h<;>simp[h]<;>omega
theorem ED.len {T:Tab}(h:ED T):T.length<=320:=by
 have:=Yg T
 have:=h.many 0;have:=h.many 1;have:=h.many 2;have:=h.many 3;have:=h.many 4;have:=h.many 5;have:=h.many 6;have:=h.many 7
 omega
structure Nod where
 kind:Int
 x:Ex
 n:Int
def ahv (r:Rec)(k:Nat):List Rec:=(List.range k).map fun(i:Nat)=>(⟨wrap64 (wrap64 (8*r.pos)+(i:Int)),r.key,wrap64 (r.val+(i:Int))⟩:Rec)
end
section
mutual
def qZ:Ex->Nat
 | .mk _ _ l=>1+iT l
def iT:List Ex->Nat
 |[]=>0
 |x::l=>qZ x+iT l
end
mutual
def jL:Ex->Nat->Nat
 | .mk _ _ l,most=>pO l 1 most
def pO:List Ex->Nat->Nat->Nat
 |[],n,_=>n
 |x::l,n,most=>if n<most then pO l (n+jL x (most-n)) most else n
end
mutual
def Ez:Ex->Nat->Nat
 | .mk _ _ l,left=>if 0<left then iq l (left-1)else left
def iq:List Ex->Nat->Nat
 |[],left=>left
 |x::l,left=>iq l (Ez x left)
end
mutual
theorem DV: ∀(x:Ex)(most:Nat),1<=most->jL x most=min (qZ x) most
 | .mk o n l,most,h=>by
   unfold jL qZ
   rw[NC l 1 most h]
theorem NC: ∀(l:List Ex)(n most:Nat),n<=most->pO l n most=min (n+iT l) most
 |[],n,most,h=>by unfold pO iT;omega
 |x::l,n,most,h=>by
  unfold pO iT
  by_cases hn:n<most
  ·rw[if_pos hn,DV x (most-n) (by omega),NC l _ most (by omega)]
   omega
  ·rw[if_neg hn];omega
end
mutual
theorem aef: ∀(x:Ex)(left:Nat),Ez x left=left-qZ x
 | .mk o n l,left=>by
   unfold Ez qZ
   by_cases h:0<left
   ·rw[if_pos h,su l];omega
   ·rw[if_neg h];omega
theorem su: ∀(l:List Ex)(left:Nat),iq l left=left-iT l
 |[],left=>by unfold iq iT;omega
 |x::l,left=>by
  unfold iq iT
  rw[su l,aef x]
  omega
end
theorem TN (xs:List Ex):1000<1001-iq xs 1001↔1000<(xs.map fun x=>jL x 1001).sum:=by
 rw[su]
 have h: ∀xs:List Ex,min (iT xs) 1001=min (xs.map fun x=>jL x 1001).sum 1001:=by
  intro xs
  induction xs with
  |nil=>simp[iT]
  |cons x l ih=>
   unfold iT
   rw[List.map_cons,List.sum_cons,DV x 1001 (by omega)]
   omega
 have:=h xs
 omega
def l9 (k:Int):Nat:=if k=1 then 0 else if k=8 then 2 else 1
def jU (k:Int):Nat:=if k=1 then 0 else if k=8 then 3 else 1
def vO (k:Int):Int:=if k=3 then 2 else if k=2\/k=4\/k=5\/k=6 then 1 else 0
def tK (k:Int):Bool:=k==6
def jN (k:Int):Int:=if k=7 then 16 else 0
def BN (name:Bool)(k:Int)(ins:Nat)(good:Bool)(none:Bool)(ty:Bool->Int->Bool)(n:Int):Bool:=
 if name=false\/k<1\/9<k then false
 else if ins<l9 k\/jU k<ins\/good=false then false
 else if n<min (jN k) 1\/jN k<n then false
 else if vO k=0 then none else ty (tK k) (vO k)
def gy (name:Bool)(k:Int)(ins:Nat)(good:Bool)(none:Bool)(ty:Bool->Int->Bool)(n:Int):Bool:=
 if name=false then false
 else if good=false then false
 else if k=1 then decide (ins=0)&&none&&decide (n=0)
 else if k=2\/k=4\/k=5 then decide (ins=1)&&ty false 1&&decide (n=0)
 else if k=3 then decide (ins=1)&&ty false 2&&decide (n=0)
 else if k=6 then decide (ins=1)&&ty true 1&&decide (n=0)
 else if k=7 then decide (ins=1)&&none&&decide (1<=n/\n<=16)
 else if k=8 then decide (ins=2\/ins=3)&&none&&decide (n=0)
 else if k=9 then decide (ins=1)&&none&&decide (n=0)
 else false
theorem Zt (name:Bool)(k:Int)(ins:Nat)(good:Bool)(none:Bool)(ty:Bool->Int->Bool)(n:Int):BN name k ins good none ty n=gy name k ins good none ty n:=by
 unfold BN gy
 cases name
 ·simp
 cases good
 ·simp
 by_cases h:k<1\/9<k
 ·rw[if_pos (.inr h),if_neg (by decide),if_neg (by decide),if_neg (by omega),if_neg (by omega),if_neg (by omega),if_neg (by omega),if_neg (by omega),if_neg (by omega),if_neg (by omega)]
 ·rw[if_neg (by simp;omega)]
  have hk:k=1\/k=2\/k=3\/k=4\/k=5\/k=6\/k=7\/k=8\/k=9:=by omega
  have key: ∀(L M:Nat)(N:Int)(t:Bool)(p q:Prop)[Decidable p][Decidable q],((L<=ins/\ins<=M)↔p)->((min N 1<=n/\n<=N)↔q)->
   (if ins<L\/M<ins\/true=false then false else if n<min N 1\/N<n then false else t)=(decide p&&t&&decide q):=by
   intro L M N t p q _ _ hp hq
   by_cases h1:L<=ins/\ins<=M
   ·rw[if_neg (by simp;omega),decide_eq_true (hp.1 h1)]
    by_cases h2:min N 1<=n/\n<=N
    ·rw[if_neg (by omega),decide_eq_true (hq.1 h2)];simp
    ·rw[if_pos (by omega),decide_eq_false (fun h=>h2 (hq.2 h))];simp
   ·rw[if_pos (by omega),decide_eq_false (fun h=>h1 (hp.2 h))];simp
  rcases hk with rfl|rfl|rfl|rfl|rfl|rfl|rfl|rfl|rfl
  ·exact key 0 0 0 none (ins=0) (n=0) (by omega) (by omega)
  ·exact key 1 1 0 (ty false 1) (ins=1) (n=0) (by omega) (by omega)
  ·exact key 1 1 0 (ty false 2) (ins=1) (n=0) (by omega) (by omega)
  ·exact key 1 1 0 (ty false 1) (ins=1) (n=0) (by omega) (by omega)
  ·exact key 1 1 0 (ty false 1) (ins=1) (n=0) (by omega) (by omega)
  ·exact key 1 1 0 (ty true 1) (ins=1) (n=0) (by omega) (by omega)
  ·exact key 1 1 16 none (ins=1) (1<=n/\n<=16) (by omega) (by omega)
  ·exact key 2 3 0 none (ins=2\/ins=3) (n=0) (by omega) (by omega)
  ·exact key 1 1 0 none (ins=1) (n=0) (by omega) (by omega)
end
section
open Go Go.RowKit
def runesFrom (s:ByteArray):Nat->Nat->List (Nat×Nat)
 |0,_=>[]
 |f+1,i=>if i<s.size then(i,(Utf8.decode s i).1)::runesFrom s f (i+(Utf8.decode s i).2)else[]
def runes (s:ByteArray):List (Nat×Nat):=runesFrom s s.size 0
theorem Gp (s:ByteArray)(pos:Nat)(h:pos<s.size):1<=(Utf8.decode s pos).2:=by
 by_cases ha:(s[pos]'h).toNat<128
 ·rw[decode_ascii s pos h ha];exact Nat.le_refl _
 ·exact(decode_high s pos h (by omega)).2
theorem runesFrom_length (s:ByteArray): ∀f i,(runesFrom s f i).length<=f
 |0,_=>Nat.zero_le _
 |f+1,i=>by
  unfold runesFrom
  split
  ·rw[List.length_cons];have:=runesFrom_length s f (i+(Utf8.decode s i).2);omega
  ·exact Nat.zero_le _
theorem sV (s:ByteArray):(runes s).length<=s.size:=runesFrom_length s _ _
def rF (w:World)(r:Nat)(s:ByteArray)(left:List (Nat×Nat)):Prop:=
 ∃pos f,w.heap[r]?=some (.stringIter s pos)/\s.size<=pos+f/\runesFrom s f pos=left
theorem rF.kept {w w':World}{r:Nat}{s:ByteArray}{left:List (Nat×Nat)}{S:Nat->Prop}(h:rF w r s left)(hk:Kept S w w')(hr: ¬S r):rF w' r s left:=by
 obtain⟨pos,f,h1,h2,h3⟩:=h
 exact⟨pos,f,hk.heap h1 hr,h2,h3⟩
theorem rF.abl {w:World}{r:Nat}{s:ByteArray}{left:List (Nat×Nat)}(h:rF w r s left): ∀c E f,w.heap[r]?≠some (.cells c E f):=by
 obtain⟨pos,f,h,_⟩:=h
 intro c E g e
 rw[h]at e;cases e
section
variable {P:Program}
theorem C9 (w:World)(t:TypeId)(s:ByteArray)(h:P.underlying t=some .string):
 ∃w',(Instr.range t (.string s)).run P w= .ok (.pointer (some ⟨w.heap.size,0,none⟩)) w'/\rF w' w.heap.size s (runes s)/\Kept none' w w'/\w'.heap.size=w.heap.size+1:=
 ⟨w.iter s 0,run_range_string w t s h,⟨0,s.size,World.iter_heap w s 0,by omega,rfl⟩,(Kept.refl _ _).alloc _,by simp[World.iter]⟩
theorem rF.next {w:World}{r:Nat}{s:ByteArray}{left:List (Nat×Nat)}(h:rF w r s left)(ty:TypeId):
 (left=[]/\(Instr.next (.pointer (some ⟨r,0,none⟩)) true ty).run P w= .ok (.tuple #[.bool false]) w)\/
 ∃p left' w',left=p::left'/\(Instr.next (.pointer (some ⟨r,0,none⟩)) true ty).run P w= .ok (.tuple #[.bool true, .int .i64 p.1, .int .i32 p.2]) w'/\rF w' r s left'/\Kept (one r) w w'/\w'.heap.size=w.heap.size:=by
 obtain⟨pos,f,h1,h2,rfl⟩:=h
 have hr:r<w.heap.size:=(Array.getElem?_eq_some_iff.1 h1).1
 by_cases hp:pos<s.size
 ·right
  cases f with
  |zero=>omega
  |succ f=>
   have hw:=Gp s pos hp
   refine⟨(pos,(Utf8.decode s pos).1),runesFrom s f (pos+(Utf8.decode s pos).2),{w with heap:=w.heap.setIfInBounds r (.stringIter s (pos+(Utf8.decode s pos).2))},?_,?_,⟨_,f,?_,by omega,rfl⟩,⟨rfl,rfl,rfl,by simp,fun k _ hk=>?_⟩,by simp⟩
   ·rw[runesFrom,if_pos hp]
   ·simp[Instr.next,getObj,setObj,Sem.run,h1,hp,goInt]
   ·simp[hr]
   ·rw[TD _ (fun e=>hk e.symm)]
 ·left
  refine⟨?_,?_⟩
  ·cases f with
   |zero=>rfl
   |succ f=>rw[runesFrom,if_neg hp]
  ·simp[Instr.next,getObj,Sem.run,h1,hp]
end
end
section
open Go Go.RowKit
instance baDec:DecidableEq ByteArray:=fun a b=>decidable_of_iff (a.data=b.data) ⟨fun h=>by cases a;cases b;simp_all,fun h=>by rw[h]⟩
theorem um (a b:ByteArray):(a==b)=decide (a=b):=by
 have h:(a==b)=(a.data==b.data):=by cases a;cases b;rfl
 rw[h]
 by_cases e:a=b
 ·subst e;simp
 ·rw[decide_eq_false e]
  refine Bool.eq_false_iff.2 fun hd=>e ?_
  have:=eq_of_beq hd
  cases a;cases b;simp_all
instance aiy:LawfulBEq ByteArray where
 eq_of_beq h:=by rw[um]at h;exact of_decide_eq_true h
 rfl:=fun{a}=>(um a a).trans (decide_eq_true rfl)
def jo (r:Nat):Bool:=(decide (97<=r)&&decide (r<=122))||(decide (65<=r)&&decide (r<=90))||(decide (191<r)&&r !=65533)
def iQ (r:Nat):Bool:=jo r||(decide (48<=r)&&decide (r<=57))||r==45
def Js:List (Nat×Nat)->Bool
 |[]=>false
 |p::l=>jo p.2&&(p::l).all (fun q=>iQ q.2)&&decide ((p::l).length<=24)
def fK (s:ByteArray):Bool:=Js (runes s)
structure JN where
 uid:ByteArray
 kind:Int
 ins:List Int
 x:Ex
 n:Int
instance:Inhabited JN:=⟨⟨ByteArray.empty,0,[],default,0⟩⟩
structure Jb where
 par:Int
 nodes:List JN
def jO (x:Ex):Bool:=x.op==0&&x.n==0&&x.args.isEmpty
mutual
def iy:Ex->Bool
 | .mk o _ l=>o==4||Aw l
def Aw:List Ex->Bool
 |[]=>false
 |x::l=>iy x||Aw l
end
theorem Gm: ∀l:List Ex,Aw l=l.any iy
 |[]=>by simp[Aw]
 |x::l=>by simp[Aw,Gm l]
def dZ (x:Ex)(acc:Bool):Int×Int:=
 if dU 16 x=false then(0,2)else if acc=false/\iy x=true then(0,90)else if aV 16 x=0 then(0,91)else(aV 16 x,0)
def lJ (x:Ex)(acc:Bool)(ty:Int):Bool:=(dZ x acc).2==0&&(dZ x acc).1==ty
def iI (ins:List Int)(at_:Nat):Bool:=decide ins.Nodup&&ins.all fun k=>decide (0<=k)&&decide (k<(at_:Int))
def bD (at_:Nat)(d:JN):Bool:=BN (fK d.uid) d.kind d.ins.length (iI d.ins at_) (jO d.x) (fun acc ty=>lJ d.x acc ty) d.n
def Ba (W:List Int)(d:JN):Int:=if d.kind=1 then 1 else(d.ins.map fun k=>W.getD k.toNat 0).sum*(if d.kind=4 then 4 else 1)
def cO (nodes:List JN):List Int:=nodes.foldl (fun W d=>W++[Ba W d]) []
def fZ (nodes:List JN)(i:Nat):Nat:=nodes.countP fun d=>d.ins.contains (i:Int)
def JZ (nodes:List JN)(i:Nat):Nat:=(nodes.take (i+1)).countP fun d=>d.kind==4
def aX (nodes:List JN)(i:Nat)(d:JN):Bool:=
 (decide (d.kind=1) !=decide (i=0))||(decide (d.kind=9) !=decide (i+1=nodes.length))||(decide (fZ nodes i=0) !=decide (i+1=nodes.length))||
   decide (3<fZ nodes i)||decide (2<JZ nodes i)||decide (64<(cO nodes).getD i 0)
def iH (j:Jb):Bool:=decide (j.par<1)||decide (4<j.par)||decide (j.nodes.length<2)||decide (12<j.nodes.length)||decide (1000<1001-iq (j.nodes.map (·.x)) 1001)
def jK (nodes:List JN)(i:Nat)(d:JN):Bool:=decide (d.uid∈(nodes.take i).map fun e:JN=>e.uid)
def wY (j:Jb):Bool:=!iH j&&(List.range j.nodes.length).all fun i=>bD i (j.nodes.getD i default)&&!jK j.nodes i (j.nodes.getD i default)&&!aX j.nodes i (j.nodes.getD i default)
theorem NT {j:Jb}(h:wY j=true):iH j=false/\ ∀i d,j.nodes[i]?=some d->bD i d=true/\jK j.nodes i d=false/\aX j.nodes i d=false:=by
 unfold wY at h
 rw[Bool.and_eq_true,List.all_eq_true]at h
 refine⟨by simpa using h.1,fun i d hd=>?_⟩
 have hi:i<j.nodes.length:=(List.getElem?_eq_some_iff.1 hd).1
 have:=h.2 i (List.mem_range.2 hi)
 rw[List.getD_eq_getElem?_getD,hd]at this
 simpa[and_assoc]using this
theorem abH {j:Jb}(h0:iH j=false)(h: ∀i d,j.nodes[i]?=some d->bD i d=true/\jK j.nodes i d=false/\aX j.nodes i d=false):wY j=true:=by
 unfold wY
 rw[Bool.and_eq_true,List.all_eq_true]
 refine⟨by simp[h0],fun i hi=>?_⟩
 have hi:=List.mem_range.1 hi
 have:=h i _ (List.getElem?_eq_getElem hi)
 rw[List.getD_eq_getElem?_getD,List.getElem?_eq_getElem hi]
 simpa[and_assoc]using this
abbrev St:=ByteArray×ByteArray
end
end Go.Proofs.YtakhobfamnjnoaaGreatDoor
