/- The runes of a text, and a walk over them. -/
import Derived.Test.YtglbkodmmogomaaGreatDoorM09
set_option linter.unusedVariables false
set_option linter.unusedSimpArgs false
set_option maxHeartbeats 1000000
set_option maxRecDepth 100000
namespace Go.Proofs.YtglbkodmmogomaaGreatDoor
section
open Go Go.RowKit
def runesFrom (s:ByteArray):Nat->Nat->List (Nat×Nat)
 |0,_=>[]
 |f+1,i=>if i<s.size then(i,(Utf8.decode s i).1)::runesFrom s f (i+(Utf8.decode s i).2)else[]
def runes (s:ByteArray):List (Nat×Nat):=runesFrom s s.size 0
theorem II (s:ByteArray)(pos:Nat)(h:pos<s.size):1<=(Utf8.decode s pos).2:=by
 by_cases ha:(s[pos]'h).toNat<128
 ·rw[decode_ascii s pos h ha];exact Nat.le_refl _
 ·exact(decode_high s pos h (by omega)).2
theorem runesFrom_length (s:ByteArray): ∀f i,(runesFrom s f i).length<=f
 |0,_=>Nat.zero_le _
 |f+1,i=>by
  unfold runesFrom
  split
  ·rw[List.length_cons];have:=runesFrom_length s f (i+(Utf8.decode s i).2);omega
  ·exact Nat.zero_le _
theorem fM (s:ByteArray):(runes s).length<=s.size:=runesFrom_length s _ _
theorem wP (s:ByteArray): ∀f i p,p∈runesFrom s f i->i<=p.1/\p.1<s.size/\p.2<=2147483647
 |0,_,_,h=>by cases h
 |f+1,i,p,h=>by
  unfold runesFrom at h
  split at h
  ·rename_i hi
   rcases List.mem_cons.1 h with rfl|h
   ·exact⟨Nat.le_refl _,hi,decode_le s i⟩
   ·have:=wP s f _ p h
    exact⟨by omega,this.2⟩
  ·cases h
theorem zf {s:ByteArray}{p:Nat×Nat}(h:p∈runes s):p.1<s.size/\p.2<=2147483647:=(wP s _ _ p h).2
def iK (w:World)(r:Nat)(s:ByteArray)(left:List (Nat×Nat)):Prop:=
 ∃pos f,w.heap[r]?=some (.stringIter s pos)/\s.size<=pos+f/\runesFrom s f pos=left
theorem iK.lt {w:World}{r:Nat}{s:ByteArray}{left:List (Nat×Nat)}(h:iK w r s left):r<w.heap.size:=by
 obtain⟨pos,f,h,_⟩:=h
 exact(Array.getElem?_eq_some_iff.1 h).1
theorem iK.kept {w w':World}{r:Nat}{s:ByteArray}{left:List (Nat×Nat)}{S:Nat->Prop}(h:iK w r s left)(hk:Kept S w w')(hr: ¬S r):iK w' r s left:=by
 obtain⟨pos,f,h1,h2,h3⟩:=h
 exact⟨pos,f,hk.heap h1 hr,h2,h3⟩
theorem iK.Fb {w:World}{r:Nat}{s:ByteArray}{left:List (Nat×Nat)}(h:iK w r s left): ∀c E f,w.heap[r]?≠some (.cells c E f):=by
 obtain⟨pos,f,h,_⟩:=h
 intro c E g e
 rw[h]at e;cases e
section
variable {P:Program}
theorem iC (w:World)(t:TypeId)(s:ByteArray)(h:P.underlying t=some .string):
 ∃w',(Instr.range t (.string s)).run P w= .ok (.pointer (some ⟨w.heap.size,0,none⟩)) w'/\iK w' w.heap.size s (runes s)/\Kept none' w w'/\w'.heap.size=w.heap.size+1:=
 ⟨w.iter s 0,run_range_string w t s h,⟨0,s.size,World.iter_heap w s 0,by omega,rfl⟩,(Kept.refl _ _).alloc _,by simp[World.iter]⟩
theorem iK.next {w:World}{r:Nat}{s:ByteArray}{left:List (Nat×Nat)}(h:iK w r s left)(ty:TypeId):
 (left=[]/\(Instr.next (.pointer (some ⟨r,0,none⟩)) true ty).run P w= .ok (.tuple #[.bool false]) w)\/
 ∃p left' w',left=p::left'/\(Instr.next (.pointer (some ⟨r,0,none⟩)) true ty).run P w= .ok (.tuple #[.bool true, .int .i64 p.1, .int .i32 p.2]) w'/\iK w' r s left'/\Kept (one r) w w'/\w'.heap.size=w.heap.size:=by
 obtain⟨pos,f,h1,h2,rfl⟩:=h
 have hr:r<w.heap.size:=(Array.getElem?_eq_some_iff.1 h1).1
 by_cases hp:pos<s.size
 ·right
  cases f with
  |zero=>omega
  |succ f=>
   have hw:=II s pos hp
   refine⟨(pos,(Utf8.decode s pos).1),runesFrom s f (pos+(Utf8.decode s pos).2),{w with heap:=w.heap.setIfInBounds r (.stringIter s (pos+(Utf8.decode s pos).2))},?_,?_,⟨_,f,?_,by omega,rfl⟩,⟨rfl,rfl,rfl,by simp,fun k _ hk=>?_⟩,by simp⟩
   ·rw[runesFrom,if_pos hp]
   ·simp[Instr.next,getObj,setObj,Sem.run,h1,hp,goInt]
   ·simp[hr]
   ·rw[pO _ (fun e=>hk e.symm)]
 ·left
  refine⟨?_,?_⟩
  ·cases f with
   |zero=>rfl
   |succ f=>rw[runesFrom,if_neg hp]
  ·simp[Instr.next,getObj,Sem.run,h1,hp]
end
end
section
open Go Go.RowKit
instance baDec:DecidableEq ByteArray:=fun a b=>decidable_of_iff (a.data=b.data) ⟨fun h=>by cases a;cases b;simp_all,fun h=>by rw[h]⟩
theorem xO (a b:ByteArray):(a==b)=decide (a=b):=by
 have h:(a==b)=(a.data==b.data):=by cases a;cases b;rfl
 rw[h]
 by_cases e:a=b
 ·subst e;simp
 ·rw[decide_eq_false e]
  refine Bool.eq_false_iff.2 fun hd=>e ?_
  have:=eq_of_beq hd
  cases a;cases b;simp_all
instance X5:LawfulBEq ByteArray where
 eq_of_beq h:=by rw[xO]at h;exact of_decide_eq_true h
 rfl:=fun{a}=>(xO a a).trans (decide_eq_true rfl)
def fZ (r:Nat):Bool:=(decide (97<=r)&&decide (r<=122))||(decide (65<=r)&&decide (r<=90))||(decide (191<r)&&r !=65533)
def fF (r:Nat):Bool:=fZ r||(decide (48<=r)&&decide (r<=57))||r==45
def Eo:List (Nat×Nat)->Bool
 |[]=>false
 |p::l=>fZ p.2&&(p::l).all (fun q=>fF q.2)&&decide ((p::l).length<=24)
def dV (s:ByteArray):Bool:=Eo (runes s)
structure JN where
 uid:ByteArray
 kind:Int
 ins:List Int
 x:Ex
 n:Int
instance:Inhabited JN:=⟨⟨ByteArray.empty,0,[],default,0⟩⟩
structure Jb where
 par:Int
 nodes:List JN
def iV (x:Ex):Bool:=x.op==0&&x.n==0&&x.args.isEmpty
mutual
def eG:Ex->Bool
 | .mk o _ l=>o==4||uO l
def uO:List Ex->Bool
 |[]=>false
 |x::l=>eG x||uO l
end
theorem yQ: ∀l:List Ex,uO l=l.any eG
 |[]=>by simp[uO]
 |x::l=>by simp[uO,yQ l]
def bU (x:Ex)(acc:Bool):Int×Int:=
 if bV 16 x=false then(0,2)else if acc=false/\eG x=true then(0,90)else if aI 16 x=0 then(0,91)else(aI 16 x,0)
def jH (x:Ex)(acc:Bool)(ty:Int):Bool:=(bU x acc).2==0&&(bU x acc).1==ty
def eU (ins:List Int)(at_:Nat):Bool:=decide ins.Nodup&&ins.all fun k=>decide (0<=k)&&decide (k<(at_:Int))
def aK (at_:Nat)(d:JN):Bool:=xu (dV d.uid) d.kind d.ins.length (eU d.ins at_) (iV d.x) (fun acc ty=>jH d.x acc ty) d.n
def uU (W:List Int)(d:JN):Int:=if d.kind=1 then 1 else(d.ins.map fun k=>W.getD k.toNat 0).sum*(if d.kind=4 then 4 else 1)
def aW (nodes:List JN):List Int:=nodes.foldl (fun W d=>W++[uU W d]) []
def dL (nodes:List JN)(i:Nat):Nat:=nodes.countP fun d=>d.ins.contains (i:Int)
def AL (nodes:List JN)(i:Nat):Nat:=(nodes.take (i+1)).countP fun d=>d.kind==4
def aJ (nodes:List JN)(i:Nat)(d:JN):Bool:=
 (decide (d.kind=1) !=decide (i=0))||(decide (d.kind=9) !=decide (i+1=nodes.length))||(decide (dL nodes i=0) !=decide (i+1=nodes.length))||
   decide (3<dL nodes i)||decide (2<AL nodes i)||decide (64<(aW nodes).getD i 0)
def eP (j:Jb):Bool:=decide (j.par<1)||decide (4<j.par)||decide (j.nodes.length<2)||decide (12<j.nodes.length)||decide (1000<1001-fV (j.nodes.map (·.x)) 1001)
def gW (nodes:List JN)(i:Nat)(d:JN):Bool:=decide (d.uid∈(nodes.take i).map fun e:JN=>e.uid)
def fU (j:Jb):Bool:=!eP j&&(List.range j.nodes.length).all fun i=>aK i (j.nodes.getD i default)&&!gW j.nodes i (j.nodes.getD i default)&&!aJ j.nodes i (j.nodes.getD i default)
theorem Dy {j:Jb}(h:fU j=true):eP j=false/\ ∀i d,j.nodes[i]?=some d->aK i d=true/\gW j.nodes i d=false/\aJ j.nodes i d=false:=by
 unfold fU at h
 rw[Bool.and_eq_true,List.all_eq_true]at h
 refine⟨by simpa using h.1,fun i d hd=>?_⟩
 have hi:i<j.nodes.length:=(List.getElem?_eq_some_iff.1 hd).1
 have:=h.2 i (List.mem_range.2 hi)
 rw[List.getD_eq_getElem?_getD,hd]at this
 simpa[and_assoc]using this
theorem Px {j:Jb}(h0:eP j=false)(h: ∀i d,j.nodes[i]?=some d->aK i d=true/\gW j.nodes i d=false/\aJ j.nodes i d=false):fU j=true:=by
 unfold fU
 rw[Bool.and_eq_true,List.all_eq_true]
 refine⟨by simp[h0],fun i hi=>?_⟩
 have hi:=List.mem_range.1 hi
 have:=h i _ (List.getElem?_eq_getElem hi)
 rw[List.getD_eq_getElem?_getD,List.getElem?_eq_getElem hi]
 simpa[and_assoc]using this
def stateful (k:Int):Bool:=k==6||k==7
def aA (nodes:List JN)(uid:ByteArray):Int:=match nodes.findIdx? (fun d=>decide (d.uid=uid))with|some i=>(i:Int)|none=> -1
abbrev Tabs:=List (Option Tab)
abbrev St:=ByteArray×ByteArray
def aT (kind n:Int)(c:Cell):Bool:=!(decide (kind=6)&&decide (0<c.2.length))&&!(decide (kind=7)&&(decide (c.1≠0)||decide (c.2.length<1)||decide (n<=(c.2.length:Int))))
def dD (kind n:Int)(T:Tab):Bool:=stateful kind&&T.all fun p=>aT kind n p.2
def gV (nodes:List JN)(Ts:Tabs):Tabs:=List.zipWith (fun(d:JN) (t:Option Tab)=>if t.isNone&&stateful d.kind then some []else t) nodes Ts
def Yb (w:World)(l:List Int)(g:Int)(e:Ending)(w':World):Prop:= ∃n:Int,e= .returned (.int .i64 n)/\(0<=n↔g∈l)/\w=w'
theorem KU (v:Value)(l:List Int)(g:Int)(w:World)(h:Reads w 1 v (ints l)):Calls Tryz.prog 168 #[v, .int .i64 g] w (Yb w l g):=by
 obtain⟨pa,ca,rfl,a1,a2,a3⟩:=h.at
 unfold maxLen at a2
 have A3:=Lib.hid a3
 clear h a3
 go_enter Tryz.func168,Tryz.ntmps168
 go_wp2_with fail
 go_loopw [8] (fun i wr=> ∃k:Nat,k<=l.length/\i= .int .i64 (k:Int)/\g∉l.take k/\wr=w) (fun i _=>l.length-(intOf i).toNat)
 case atStart=>exact⟨0,by omega,rfl,by simp,rfl⟩
 case round=>
  obtain⟨k,hk,rfl,ht,rfl⟩:=hrel
  have HT:=Lib.hid ht
  clear ht
  by_cases hlt:k<l.length
  ·obtain⟨y,hy⟩: ∃y,l[k]?=some y:=⟨_,List.getElem?_eq_getElem hlt⟩
   obtain⟨b,off,rfl,hc⟩:=A3.out.resolve_left (fun h=>by rw[h]at hlt;simp at hlt)
   have y0:=hc k y hy
   have HY:=Lib.hid hy
   clear hc hy A3
   by_cases he:g=y
   ·subst he
    go_wp2_with fail
    go_ret
    exact⟨k,rfl,⟨fun _=>List.mem_of_getElem? HY.out,fun _=>by omega⟩,rfl⟩
   ·go_wp2_with fail
    go_roundw
    case rel=>
     refine⟨k+1,by omega,by go_num,?_,by first|trivial|rfl⟩
     rw[List.take_add_one,HY.out]
     simp[HT.out,he]
    case measure=>simp[intOf];omega
  ·have hE:g∉l:=by have:=HT.out;rwa[List.take_of_length_le (by omega)]at this
   have HE:=Lib.hid hE
   have e1:k=l.length:=by omega
   subst e1
   go_wp2_with fail
   go_ret
   exact⟨-1,rfl,⟨fun h=>absurd h (by decide),fun h=>absurd h HE.out⟩,rfl⟩
theorem wF (v:Value)(l:List Int)(g:Int)(w:World)(h:Reads w 1 v (ints l)):Calls Tryz.prog 134 #[v, .int .i64 g] w (fun e w'=>e= .returned (.bool (decide (g∈l)))/\w=w'):=by
 have c:=KU v l g w h
 obtain⟨pa,ca,rfl,a1,a2,a3⟩:=h.at
 clear h a3
 go_enter Tryz.func134,Tryz.ntmps134
 go_wp2_with fail
 refine c.mono ?_
 rintro e w2 ⟨n,rfl,hn,rfl⟩
 have F:=Lib.hid (show decide (g∈l)=decide (0<=n)from decide_eq_decide.2 hn.symm)
 clear hn
 go_wp2_with fail
 go_ret
 exact⟨aX (by rw[F.out]),rfl⟩
theorem str_eq (a b:ByteArray):(a.toList==b.toList)=decide (a=b):=by rw[<-beq_toListBytes,xO]
def VO (w:World)(l:List ByteArray)(g:ByteArray)(e:Ending)(w':World):Prop:= ∃n:Int,e= .returned (.int .i64 n)/\(0<=n↔g∈l)/\w=w'
theorem KP (v:Value)(l:List ByteArray)(g:ByteArray)(w:World)(h:Reads w 1 v (strs l)):Calls Tryz.prog 167 #[v, .string g] w (VO w l g):=by
 obtain⟨pa,ca,rfl,a1,a2,a3⟩:=h.GZ
 unfold maxLen at a2
 have A3:=Lib.hid a3
 clear h a3
 go_enter Tryz.func167,Tryz.ntmps167
 go_wp2_with fail
 go_loopw [8] (fun i wr=> ∃k:Nat,k<=l.length/\i= .int .i64 (k:Int)/\g∉l.take k/\wr=w) (fun i _=>l.length-(intOf i).toNat)
 case atStart=>exact⟨0,by omega,rfl,by simp,rfl⟩
 case round=>
  obtain⟨k,hk,rfl,ht,rfl⟩:=hrel
  have HT:=Lib.hid ht
  clear ht
  by_cases hlt:k<l.length
  ·obtain⟨y,hy⟩: ∃y,l[k]?=some y:=⟨_,List.getElem?_eq_getElem hlt⟩
   obtain⟨b,off,rfl,hc⟩:=A3.out.resolve_left (fun h=>by rw[h]at hlt;simp at hlt)
   have y0:=hc k y hy
   have HY:=Lib.hid hy
   clear hc hy A3
   by_cases he:g=y
   ·subst he
    have hse:(g.toList==g.toList)=true:=by simp
    go_wp2_with fail
    go_ret
    exact⟨k,rfl,⟨fun _=>List.mem_of_getElem? HY.out,fun _=>by omega⟩,rfl⟩
   ·have hse:(g.toList==y.toList)=false:=by rw[str_eq,decide_eq_false he]
    go_wp2_with fail
    go_roundw
    case rel=>
     refine⟨k+1,by omega,by go_num,?_,by first|trivial|rfl⟩
     rw[List.take_add_one,HY.out]
     simp[HT.out,he]
    case measure=>simp[intOf];omega
  ·have hE:g∉l:=by have:=HT.out;rwa[List.take_of_length_le (by omega)]at this
   have HE:=Lib.hid hE
   have e1:k=l.length:=by omega
   subst e1
   go_wp2_with fail
   go_ret
   exact⟨-1,rfl,⟨fun h=>absurd h (by decide),fun h=>absurd h HE.out⟩,rfl⟩
theorem Eh (v:Value)(l:List ByteArray)(g:ByteArray)(w:World)(h:Reads w 1 v (strs l)):Calls Tryz.prog 133 #[v, .string g] w (fun e w'=>e= .returned (.bool (decide (g∈l)))/\w=w'):=by
 have c:=KP v l g w h
 obtain⟨pa,ca,rfl,a1,a2,a3⟩:=h.GZ
 clear h a3
 go_enter Tryz.func133,Tryz.ntmps133
 go_wp2_with fail
 refine c.mono ?_
 rintro e w2 ⟨n,rfl,hn,rfl⟩
 have F:=Lib.hid (show decide (g∈l)=decide (0<=n)from decide_eq_decide.2 hn.symm)
 clear hn
 go_wp2_with fail
 go_ret
 exact⟨aX (by rw[F.out]),rfl⟩
theorem size3 (w:World):(sizeOf 3).run Tryz.prog w= .ok 1 w:=by kernel_rfl
theorem Vt (w:World):(sizeOf 9).run Tryz.prog w= .ok 1 w:=by kernel_rfl
theorem zZ {α:Type}[DecidableEq α]{l:List α}{k:Nat}{x:α}(hx:l[k]?=some x):(l.take (k+1)).Nodup↔(l.take k).Nodup/\x∉l.take k:=by
 rw[List.take_add_one,hx]
 simp only[Option.toList_some]
 rw[List.nodup_append]
 constructor
 ·rintro⟨h1,_,h2⟩
  exact⟨h1,fun h=>h2 x h x (by simp) rfl⟩
 ·rintro⟨h1,h2⟩
  exact⟨h1,by simp,fun a ha b hb e=>h2 (by rw[List.mem_singleton]at hb;rw[<-hb,<-e];exact ha)⟩
theorem Dn {α:Type}{l:List α}{k:Nat}{x:α}(hx:l[k]?=some x)(h:x∈l.take k): ¬l.Nodup:=by
 intro hn
 have h2:=hn.sublist (List.take_sublist (k+1) l)
 rw[List.take_add_one,hx,Option.toList_some,List.nodup_append]at h2
 exact h2.2.2 x h x (by simp) rfl
theorem zK (v:Value)(l:List Int)(w:World)(h:Reads w 1 v (ints l)):Calls Tryz.prog 128 #[v] w (fun e w'=>e= .returned (.bool (!decide l.Nodup))/\w=w'):=by
 have hR:=h
 obtain⟨pa,ca,rfl,a1,a2,a3⟩:=h.at
 have A3:=Lib.hid (And.intro a3 hR)
 clear a3 hR
 have hlen:l.length<=9223372036854775807:=by unfold maxLen at a2;omega
 go_enter Tryz.func128,Tryz.ntmps128
 go_wp2_with fail
 go_loopg [7] l.length (fun m vk wr=> ∃k:Nat,k<=l.length/\m=l.length-k/\vk= .int .i64 (k:Int)/\(l.take k).Nodup/\wr=w)
 case atStart=>exact⟨0,Nat.zero_le _,rfl,rfl,by simp,rfl⟩
 case round=>
  obtain⟨k,hk,hm,rfl,ht,rfl⟩:=hrel
  have HT:=Lib.hid (And.intro ht hm)
  clear ht hm
  by_cases hlt:k<l.length
  ·obtain⟨y,hy⟩: ∃y,l[k]?=some y:=⟨_,List.getElem?_eq_getElem hlt⟩
   obtain⟨b,off,rfl,hc⟩:=A3.out.1.resolve_left (fun h=>by rw[h]at hlt;simp at hlt)
   have y0:=hc k y hy
   have hsl:=wQ (P:=Tryz.prog) (w:=wr) (a:=some ⟨b,off,none⟩) (n:=l.length) (cap:=ca) (i:=k) Tryz.underlying37 (size3 wr) (by omega) a1
   have hrd:=Reads.take A3.out.2 (i:=k) (by omega)
   have FV:Reads wr 1 (.slice (some ⟨b,off,none⟩) k ca) (ints (l.take k)):=by
    have:(ints l).take (k*1)=ints (l.take k):=by rw[Nat.mul_one];unfold ints;rw[List.map_take]
    rwa[this]at hrd
   have cc:=wF _ (l.take k) y wr FV
   have HY:=Lib.hid hy
   clear hc hy A3 hrd FV
   by_cases hm:y∈l.take k
   ·have e1:decide (y∈l.take k)=true:=decide_eq_true hm
    rw[e1]at cc
    have F:=Lib.hid (Dn HY.out hm)
    clear hm e1
    go_wp2_with (go_at_call 134;refine cc.mono ?_;rintro e w' ⟨rfl,rfl⟩)
    go_ret
    exact⟨aX (by rw[decide_eq_false F.out];rfl),rfl⟩
   ·have e1:decide (y∈l.take k)=false:=decide_eq_false hm
    rw[e1]at cc
    have F:=Lib.hid ((zZ HY.out).2 ⟨HT.out.1,hm⟩)
    clear hm e1
    go_wp2_with (go_at_call 134;refine cc.mono ?_;rintro e w' ⟨rfl,rfl⟩)
    go_roundg (l.length-(k+1))
    case rel=>exact⟨k+1,by omega,rfl,by go_num,F.out,rfl⟩
    case measure=>have:=HT.out.2;omega
  ·have e1:k=l.length:=by omega
   subst e1
   have F:=Lib.hid (show l.Nodup by have:=HT.out.1;rwa[List.take_length]at this)
   clear HT
   go_wp2_with fail
   go_ret
   exact⟨aX (by rw[decide_eq_true F.out];rfl),rfl⟩
theorem rE (k:Int)(w:World):Calls Tryz.prog 59 #[.int .u8 k] w fun e w'=>e= .returned (.bool (stateful k))/\w=w':=by
 have hs:stateful k=(k==6||k==7):=rfl
 by_cases h6:k=6
 ·subst h6
  go_enter Tryz.func59,Tryz.ntmps59
  go_wp2
  go_ret
  exact⟨rfl,rfl⟩
 ·have h6':(k==6)=false:=by simp[h6]
  rw[h6',Bool.false_or]at hs
  go_enter Tryz.func59,Tryz.ntmps59
  go_wp2
  go_ret
  exact⟨aX hs.symm,rfl⟩
end
end Go.Proofs.YtglbkodmmogomaaGreatDoor
