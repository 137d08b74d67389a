/- JOBS IN PLAIN WORDS: names, nodes, whether a job may be, ideals, what is fed, states, what is carried. -/
import Derived.Test.YtglbkodmmogomaaGreatDoorS07
set_option linter.unusedVariables false
set_option linter.unusedSimpArgs false
set_option maxHeartbeats 1000000
set_option maxRecDepth 100000
namespace Go.Proofs.YtglbkodmmogomaaGreatDoor
open List Go.Proofs.Tryz
section
open Go Go.RowKit
instance baDec:DecidableEq ByteArray:=fun a b=>decidable_of_iff (a.data=b.data) ⟨fun h=>by cases a;cases b;simp_all,fun h=>by rw[h]⟩
theorem Dl (a b:ByteArray):(a==b)=decide (a=b):=by
 have h:(a==b)=(a.data==b.data):=(by cases a;cases b;rfl);rw[h];by_cases e:a=b
 ·subst e;simp
 ·rw[decide_eq_false e]
  refine Bool.eq_false_iff.2 fun hd=>e ?_;have:=eq_of_beq hd;cases a;cases b;simp_all
instance aiR:LawfulBEq ByteArray where
 eq_of_beq h:=by rw[Dl]at h;exact of_decide_eq_true h
 rfl:=fun{a}=>(Dl a a).trans (decide_eq_true rfl)
def jo (r:Nat):Bool:=(decide (97<=r)&&decide (r<=122))||(decide (65<=r)&&decide (r<=90))||(decide (191<r)&&r !=65533)
def iQ (r:Nat):Bool:=jo r||(decide (48<=r)&&decide (r<=57))||r==45
def Lm:List (Nat×Nat)->Bool
 |[]=>false
 |p::l=>jo p.2&&(p::l).all (fun q=>iQ q.2)&&decide ((p::l).length<=24)
def fM (s:ByteArray):Bool:=Lm (runes s)
structure JN where
 uid:ByteArray
 kind:Int
 ins:List Int
 x:Ex
 n:Int
instance:Inhabited JN:=⟨⟨ByteArray.empty,0,[],default,0⟩⟩
def JN.iL (d:JN):dG:=⟨d.kind,d.x,d.n⟩
structure Jb where
 par:Int
 nodes:List JN
def lT (x:Ex):Bool:=x.op==0&&x.n==0&&x.args.isEmpty
mutual
def ig:Ex->Bool
 | .mk o _ l=>o==4||zN l
def zN:List Ex->Bool
 |[]=>false
 |x::l=>ig x||zN l
end
theorem EG: ∀l:List Ex,zN l=l.any ig
 |[]=>by simp[zN]
 |x::l=>by simp[zN,EG l]
def dY (x:Ex)(acc:Bool):Int×Int:=
 if bg 16 x=false then(0,2)else if acc=false/\ig x=true then(0,90)else if aC 16 x=0 then(0,91)else(aC 16 x,0)
def nP (x:Ex)(acc:Bool)(ty:Int):Bool:=(dY x acc).2==0&&(dY x acc).1==ty
def fU (ins:List Int)(at_:Nat):Bool:=decide ins.Nodup&&ins.all fun k=>decide (0<=k)&&decide (k<(at_:Int))
def bf (at_:Nat)(d:JN):Bool:=Ag (fM d.uid) d.kind d.ins.length (fU d.ins at_) (lT d.x) (fun acc ty=>nP d.x acc ty) d.n
def vG (W:List Int)(d:JN):Int:=if d.kind=1 then 1 else(d.ins.map fun k=>W.getD k.toNat 0).sum*(if d.kind=4 then 4 else 1)
def bK (nodes:List JN):List Int:=nodes.foldl (fun W d=>W++[vG W d]) []
def fV (nodes:List JN)(i:Nat):Nat:=nodes.countP fun d=>d.ins.contains (i:Int)
def H9 (nodes:List JN)(i:Nat):Nat:=(nodes.take (i+1)).countP fun d=>d.kind==4
def aS (nodes:List JN)(i:Nat)(d:JN):Bool:=
 (decide (d.kind=1) !=decide (i=0))||(decide (d.kind=9) !=decide (i+1=nodes.length))||(decide (fV nodes i=0) !=decide (i+1=nodes.length))||
   decide (3<fV nodes i)||decide (2<H9 nodes i)||decide (64<(bK nodes).getD i 0)
def fE (j:Jb):Bool:=decide (j.par<1)||decide (4<j.par)||decide (j.nodes.length<2)||decide (12<j.nodes.length)||decide (1000<1001-jl (j.nodes.map (·.x)) 1001)
def jR (nodes:List JN)(i:Nat)(d:JN):Bool:=decide (d.uid∈(nodes.take i).map fun e:JN=>e.uid)
def iD (j:Jb):Bool:=!fE j&&(range j.nodes.length).all fun i=>bf i (j.nodes.getD i default)&&!jR j.nodes i (j.nodes.getD i default)&&!aS j.nodes i (j.nodes.getD i default)
theorem qB {j:Jb}(h:iD j=true):fE j=false/\ ∀i d,j.nodes[i]?=some d->bf i d=true/\jR j.nodes i d=false/\aS j.nodes i d=false:=by unfold iD at h;rw[Φ,all_eq_true]at h;refine⟨by simpa using h.1,fun i d hd=>?_⟩;have hi:i<j.nodes.length:=(μ.1 hd).1;have:=h.2 i (mem_range.2 hi);rw[σ,hd]at this;simpa[and_assoc]using this
theorem abm {j:Jb}(h0:fE j=false)(h: ∀i d,j.nodes[i]?=some d->bf i d=true/\jR j.nodes i d=false/\aS j.nodes i d=false):iD j=true:=by unfold iD;rw[Φ,all_eq_true];refine⟨by simp[h0],fun i hi=>?_⟩;have hi:=mem_range.1 hi;have:=h i _ (ι hi);rw[σ,ι hi];simpa[and_assoc]using this
def stateful (k:Int):Bool:=k==6||k==7
def bJ (nodes:List JN)(uid:ByteArray):Int:=match nodes.findIdx? (fun d=>decide (d.uid=uid))with|some i=>(i:Int)|none=> -1
abbrev Tabs:=List (Option Tab)
abbrev St:=ByteArray×ByteArray
def bD (kind n:Int)(c:Cell):Bool:=!(decide (kind=6)&&decide (0<c.2.length))&&!(decide (kind=7)&&(decide (c.1≠0)||decide (c.2.length<1)||decide (n<=(c.2.length:Int))))
def fP (kind n:Int)(T:Tab):Bool:=stateful kind&&T.all fun p=>bD kind n p.2
def AB (nodes:List JN)(r:Rec)(st:List (List Rec)×Tabs)(i:Nat):List (List Rec)×Tabs:=
 (st.1++[(aI (nodes.getD i default).iL ((st.2.getD i none).getD []) (if i=0 then[r]else jC (nodes.getD i default).kind ((nodes.getD i default).ins.map fun k=>st.1.getD k.toNat []))).1],
  st.2.set i ((st.2.getD i none).map fun _=>(aI (nodes.getD i default).iL ((st.2.getD i none).getD []) (if i=0 then[r]else jC (nodes.getD i default).kind ((nodes.getD i default).ins.map fun k=>st.1.getD k.toNat []))).2))
def iE (nodes:List JN)(r:Rec)(Ts:Tabs):Nat->List (List Rec)×Tabs
 |0=>([],Ts)
 |k+1=>AB nodes r (iE nodes r Ts k) k
def gW (nodes:List JN)(Ts:Tabs)(key val:Int):List Rec×Tabs:=
 (aO ((iE nodes ⟨1,key,val⟩ Ts nodes.length).1.getD (nodes.length-1) []),(iE nodes ⟨1,key,val⟩ Ts nodes.length).2)
def oO (nodes:List JN)(Ts:Tabs):Tabs:=zipWith (fun(d:JN) (t:Option Tab)=>if t.isNone&&stateful d.kind then some []else t) nodes Ts
def aiT (w:World)(l:List Int)(g:Int)(e:Ending)(w':World):Prop:= ∃n:Int,e= .returned (.int .i64 n)/\(0<=n↔g∈l)/\w=w'
theorem VU (v:Value)(l:List Int)(g:Int)(w:World)(h:Reads w 1 v (ints l)):Calls prog 168 #[v,.int .i64 g] w (aiT w l g):=by
 obtain⟨pa,ca,rfl,a1,a2,a3⟩:=h.at;unfold maxLen at a2;have A3:=γ a3;clear h a3;go_enter func168,ntmps168;go_wp2_with fail
 go_loopw [8] (fun i wr=> ∃k:Nat,k<=l.length/\i= .int .i64 (k:Int)/\g∉l.take k/\wr=w) (fun i _=>l.length-(intOf i).toNat)
 case atStart=>exact⟨0,by omega,rfl,by simp,rfl⟩
 case round=>
  obtain⟨k,hk,rfl,ht,rfl⟩:=hrel;have HT:=γ ht;clear ht;by_cases hlt:k<l.length
  ·obtain⟨y,hy⟩: ∃y,l[k]?=some y:=⟨_,ι hlt⟩
   obtain⟨b,off,rfl,hc⟩:=A3.o.resolve_left (fun h=>by rw[h]at hlt;simp at hlt);have y0:=hc k y hy;have HY:=γ hy;clear hc hy A3;by_cases he:g=y
   ·subst he
    go_wp2;go_ret;exact⟨k,rfl,⟨fun _=>ς HY.o,fun _=>by omega⟩,rfl⟩
   ·go_wp2_with fail
    go_roundw
    case rel=>refine⟨k+1,by omega,by go_num,?_,by first|trivial|rfl⟩;rw[ψ,HY.o];simp[HT.o,he]
    case measure=>simp[intOf];omega
  ·have hE:g∉l:=by have:=HT.o;rwa[χ (by omega)]at this
   have HE:=γ hE;have e1:k=l.length:=(by omega);subst e1;go_wp2;go_ret;exact⟨-1,rfl,⟨fun h=>absurd h (by decide),fun h=>absurd h HE.o⟩,rfl⟩
theorem Bl (v:Value)(l:List Int)(g:Int)(w:World)(h:Reads w 1 v (ints l)):Calls prog 134 #[v,.int .i64 g] w (fun e w'=>e= .returned (.bool (decide (g∈l)))/\w=w'):=by have c:=VU v l g w h;obtain⟨pa,ca,rfl,a1,a2,a3⟩:=h.at;clear h a3;go_enter func134,ntmps134;go_wp2_with fail;refine c.mono ?_;rintro e w2 ⟨n,rfl,hn,rfl⟩;have F:=γ (show decide (g∈l)=decide (0<=n)from decide_eq_decide.2 hn.symm);clear hn;go_wp2;go_ret;exact⟨dw (by rw[F.o]),rfl⟩
theorem str_eq (a b:ByteArray):(a.toList==b.toList)=decide (a=b):=by rw[<-beq_toListBytes,Dl]
def agF (w:World)(l:List ByteArray)(g:ByteArray)(e:Ending)(w':World):Prop:= ∃n:Int,e= .returned (.int .i64 n)/\(0<=n↔g∈l)/\w=w'
theorem VT (v:Value)(l:List ByteArray)(g:ByteArray)(w:World)(h:Reads w 1 v (strs l)):Calls prog 167 #[v,.string g] w (agF w l g):=by
 obtain⟨pa,ca,rfl,a1,a2,a3⟩:=h.Rx;unfold maxLen at a2;have A3:=γ a3;clear h a3;go_enter func167,ntmps167;go_wp2_with fail
 go_loopw [8] (fun i wr=> ∃k:Nat,k<=l.length/\i= .int .i64 (k:Int)/\g∉l.take k/\wr=w) (fun i _=>l.length-(intOf i).toNat)
 case atStart=>exact⟨0,by omega,rfl,by simp,rfl⟩
 case round=>
  obtain⟨k,hk,rfl,ht,rfl⟩:=hrel;have HT:=γ ht;clear ht;by_cases hlt:k<l.length
  ·obtain⟨y,hy⟩: ∃y,l[k]?=some y:=⟨_,ι hlt⟩
   obtain⟨b,off,rfl,hc⟩:=A3.o.resolve_left (fun h=>by rw[h]at hlt;simp at hlt);have y0:=hc k y hy;have HY:=γ hy;clear hc hy A3;by_cases he:g=y
   ·subst he
    have hse:(g.toList==g.toList)=true:=(by simp);go_wp2;go_ret;exact⟨k,rfl,⟨fun _=>ς HY.o,fun _=>by omega⟩,rfl⟩
   ·have hse:(g.toList==y.toList)=false:=by rw[str_eq,decide_eq_false he]
    go_wp2_with fail
    go_roundw
    case rel=>refine⟨k+1,by omega,by go_num,?_,by first|trivial|rfl⟩;rw[ψ,HY.o];simp[HT.o,he]
    case measure=>simp[intOf];omega
  ·have hE:g∉l:=by have:=HT.o;rwa[χ (by omega)]at this
   have HE:=γ hE;have e1:k=l.length:=(by omega);subst e1;go_wp2;go_ret;exact⟨-1,rfl,⟨fun h=>absurd h (by decide),fun h=>absurd h HE.o⟩,rfl⟩
theorem Ld (v:Value)(l:List ByteArray)(g:ByteArray)(w:World)(h:Reads w 1 v (strs l)):Calls prog 133 #[v,.string g] w (fun e w'=>e= .returned (.bool (decide (g∈l)))/\w=w'):=by have c:=VT v l g w h;obtain⟨pa,ca,rfl,a1,a2,a3⟩:=h.Rx;clear h a3;go_enter func133,ntmps133;go_wp2_with fail;refine c.mono ?_;rintro e w2 ⟨n,rfl,hn,rfl⟩;have F:=γ (show decide (g∈l)=decide (0<=n)from decide_eq_decide.2 hn.symm);clear hn;go_wp2;go_ret;exact⟨dw (by rw[F.o]),rfl⟩
theorem size3 (w:World):(sizeOf 3).run prog w= .ok 1 w:=by kernel_rfl
theorem agh (w:World):(sizeOf 9).run prog w= .ok 1 w:=by kernel_rfl
theorem Gu {α:Type}[DecidableEq α]{l:List α}{k:Nat}{x:α}(hx:l[k]?=some x):(l.take (k+1)).Nodup↔(l.take k).Nodup/\x∉l.take k:=by
 rw[ψ,hx];simp only[Option.toList_some];rw[nodup_append];constructor
 ·rintro⟨h1,_,h2⟩
  exact⟨h1,fun h=>h2 x h x (by simp) rfl⟩
 ·rintro⟨h1,h2⟩
  exact⟨h1,by simp,fun a ha b hb e=>h2 (by rw[ach]at hb;rw[<-hb,<-e];exact ha)⟩
theorem JL {α:Type}{l:List α}{k:Nat}{x:α}(hx:l[k]?=some x)(h:x∈l.take k): ¬l.Nodup:=by intro hn;have h2:=hn.sublist (take_sublist (k+1) l);rw[ψ,hx,Option.toList_some,nodup_append]at h2;exact h2.2.2 x h x (by simp) rfl
theorem FY (v:Value)(l:List Int)(w:World)(h:Reads w 1 v (ints l)):Calls prog 128 #[v] w (fun e w'=>e= .returned (.bool (!decide l.Nodup))/\w=w'):=by
 have hR:=h;obtain⟨pa,ca,rfl,a1,a2,a3⟩:=h.at;have A3:=γ (θ a3 hR);clear a3 hR;have hlen:l.length<=9223372036854775807:=(by unfold maxLen at a2;omega);go_enter func128,ntmps128;go_wp2;go_loopg [7] l.length (fun m vk wr=> ∃k:Nat,k<=l.length/\m=l.length-k/\vk= .int .i64 (k:Int)/\(l.take k).Nodup/\wr=w)
 case atStart=>exact⟨0,Nat.zero_le _,rfl,rfl,by simp,rfl⟩
 case round=>
  obtain⟨k,hk,hm,rfl,ht,rfl⟩:=hrel;have HT:=γ (θ ht hm);clear ht hm;by_cases hlt:k<l.length
  ·obtain⟨y,hy⟩: ∃y,l[k]?=some y:=⟨_,ι hlt⟩
   obtain⟨b,off,rfl,hc⟩:=A3.o.1.resolve_left (fun h=>by rw[h]at hlt;simp at hlt);have y0:=hc k y hy;have hsl:=BO (P:=prog) (w:=wr) (a:=some ⟨b,off,none⟩) (n:=l.length) (cap:=ca) (i:=k) underlying37 (size3 wr) (by omega) a1;have hrd:=Reads.take A3.o.2 (i:=k) (by omega);have Qs:Reads wr 1 (.slice (some ⟨b,off,none⟩) k ca) (ints (l.take k)):=(by have:(ints l).take (k*1)=ints (l.take k):=(by rw[Nat.mul_one];unfold ints;rw[map_take]);rwa[this]at hrd);have cc:=Bl _ (l.take k) y wr Qs;have HY:=γ hy;clear hc hy A3 hrd Qs;by_cases hm:y∈l.take k
   ·have e1:decide (y∈l.take k)=true:=decide_eq_true hm
    rw[e1]at cc;have F:=γ (JL HY.o hm);clear hm e1;go_wp2_with (go_at_call 134;refine cc.mono ?_;rintro e w' ⟨rfl,rfl⟩);go_ret;exact⟨dw (by rw[decide_eq_false F.o];rfl),rfl⟩
   ·have e1:decide (y∈l.take k)=false:=decide_eq_false hm
    rw[e1]at cc;have F:=γ ((Gu HY.o).2 ⟨HT.o.1,hm⟩);clear hm e1;go_wp2_with (go_at_call 134;refine cc.mono ?_;rintro e w' ⟨rfl,rfl⟩);go_roundg (l.length-(k+1))
    case rel=>exact⟨k+1,by omega,rfl,by go_num,F.o,rfl⟩
    case measure=>have:=HT.o.2;omega
  ·have e1:k=l.length:=by omega
   subst e1;have F:=γ (show l.Nodup by have:=HT.o.1;rwa[take_length]at this);clear HT;go_wp2;go_ret;exact⟨dw (by rw[decide_eq_true F.o];rfl),rfl⟩
theorem xJ (k:Int)(w:World):Calls prog 59 #[.int .u8 k] w fun e w'=>e= .returned (.bool (stateful k))/\w=w':=by
 have hs:stateful k=(k==6||k==7):=rfl;by_cases h6:k=6
 ·subst h6
  go_enter func59,ntmps59;go_wp2;go_ret;exact⟨rfl,rfl⟩
 ·have h6':(k==6)=false:=by simp[h6]
  rw[h6',Bool.false_or]at hs;go_enter func59,ntmps59;go_wp2;go_ret;exact⟨dw hs.symm,rfl⟩
end
section
open Go Go.RowKit
attribute [local irreducible] dI
theorem Kv (x:Ex):ig x=(x.op==4||x.args.any ig):=by cases x;rw[ig,EG];rfl
theorem zq {α:Type}{l:List α}{k:Nat}{x:α}{p:α->Bool}(h:l[k]?=some x)(ht:(l.take k).any p=false)(hx:p x=false):(l.take (k+1)).any p=false:=by rw[ψ,h,any_append,ht];simp[hx]
theorem Ry: ∀(N:Nat)(x:Ex)(a:Array Value)(w:World),SizeOf.sizeOf x<=N->aF w a x->Calls prog 197 #[.agg a] w (Gives w (.bool (ig x)))
 |0,x,_,_,h,_=>by cases x;simp at h
 |N+1,x,a,w,hN,h=>by
  obtain⟨p,cap,rfl,h0,h1,h2,h3,h4,h5⟩:=h.parts;have sub: ∀(i:Nat)(y:Ex),x.args[i]?=some y->SizeOf.sizeOf y<=N:=(by intro i y hy;obtain⟨op,n,args⟩:=x;have h1:=sizeOf_lt_of_mem (ς (show args[i]?=some y from hy));simp at hN;omega);have IH:=γ (fun y a w hy=>Ry N y a w hy);have SB:=γ sub;have H5:=γ h5;have HX:=γ (Kv x);unfold maxLen at h4;clear h h5 sub hN;go_enter func197,ntmps197;by_cases hop:x.op=4
  ·have hb:(x.op==4)=true:=by simp[hop]
   have F:=γ (show ig x=true by rw[HX.o,hb];rfl);clear hop;go_wp2;go_ret;exact⟨aP (by rw[F.o]),δ.alloc _⟩
  ·have hb:(x.op==4)=false:=by simp[hop]
   have HY:=γ (show ig x=x.args.any ig by rw[HX.o,hb];rfl);clear hop;go_wp2_with fail;obtain⟨W0,hW0⟩:=acu (w.alloc (.cells #[.int .u8 x.op,.int .i64 x.n,.slice p x.args.length cap] 40));have k0:ε η w W0:=(by rw[<-hW0];exact δ.alloc _);rw[hW0];have K0:=γ k0;clear hW0 k0;go_loopg [11] x.args.length (fun g vi wr=> ∃(k:Nat),k<=x.args.length/\vi= .int .i64 (k:Int)/\x.args.length-k<=g/\(x.args.take k).any ig=false/\ε η w wr)
   case atStart=>exact⟨0,by omega,rfl,by omega,by simp,K0.o⟩
   case round=>
    obtain⟨k,hkl,rfl,hg,hno,hkp⟩:=hrel;by_cases hlt:k<x.args.length
    ·obtain⟨y,hy⟩: ∃y,x.args[k]?=some y:=⟨_,ι hlt⟩
     obtain⟨b,off,p',cap',rfl,q0,q1,q2,hy2⟩:=H5.o k y hy;have r0:=hkp.cell (p:=⟨b,off+k*3,none⟩) id q0;have r1:=hkp.cell (p:=⟨b,off+k*3+1,none⟩) id q1;have r2:=hkp.cell (p:=⟨b,off+k*3+2,none⟩) id q2;have G:=γ (θ hg (θ (aF.pure hkp hy2) (θ hkp (θ (SB.o k y hy) (θ hy hno)))));clear q0 q1 q2 hy hy2 hkp hg H5 hno;go_wp2_with fail;have ka:ε η wr (wr.alloc (.cells #[.int .u8 y.op,.int .i64 y.n,.slice p' y.args.length cap'] 40)):=δ.alloc _;have c:=IH.o y _ (wr.alloc (.cells #[.int .u8 y.op,.int .i64 y.n,.slice p' y.args.length cap'] 40)) G.o.2.2.2.1 (aF.pure ka G.o.2.1);refine c.mono ?_;clear c;rintro e w2 ⟨rfl,k2⟩;have K2:=γ (G.o.2.2.1.trans (ka.trans k2));clear k2 ka
     cases hA:ig y with
     |true=>have F:=γ (show ig x=true by rw[HY.o,any_eq_true];exact⟨y,ς G.o.2.2.2.2.1,hA⟩);clear hA;go_wp2;go_ret;exact⟨aP (by rw[F.o]),K2.o⟩
     |false=>
      have F:=γ (zq G.o.2.2.2.2.1 G.o.2.2.2.2.2 hA);clear hA;go_wp2;go_roundg (x.args.length-(k+1))
      case rel=>exact⟨k+1,by omega,by go_num,ξ _,F.o,K2.o⟩
      case measure=>have:=G.o.1;omega
    ·have F:=γ (θ (show ig x=false by rw[HY.o];rwa[χ (by omega)]at hno) hkp)
     clear hno hkp;go_wp2;go_ret;exact⟨aP (by rw[F.o.1]),F.o.2⟩
theorem GV (x:Ex):dY x true=qP x:=by
 unfold dY qP;split
 ·rfl
 ·rw[if_neg (by simp)]
theorem TB (x:Ex)(a:Array Value)(w:World)(h:aF w a x):Calls prog 166 #[.agg a,.bool false] w (rO w (dY x false)):=by
 obtain⟨p,cap,rfl,h0,h1,h2,h3,h4,h5⟩:=h.parts;have H:=γ h;clear h h5;have hk0:ε η w (w.alloc (.cells #[.int .u8 x.op,.int .i64 x.n,.slice p x.args.length cap] 40)):=δ.alloc _;obtain⟨W0,hW0⟩:=acu (w.alloc (.cells #[.int .u8 x.op,.int .i64 x.n,.slice p x.args.length cap] 40));have d0:W0.cell? ⟨w.heap.size,0,none⟩=some (.int .u8 x.op):=(by rw[<-hW0];simp);have d1:W0.cell? ⟨w.heap.size,1,none⟩=some (.int .i64 x.n):=(by rw[<-hW0];simp);have d2:W0.cell? ⟨w.heap.size,2,none⟩=some (.slice p x.args.length cap):=(by rw[<-hW0];simp);rw[hW0]at hk0;have HK:=γ hk0;have HW0:=γ hW0;clear hk0 hW0;go_enter func166,ntmps166;go_wp2_with fail;rw[HW0.o];refine(UU x _ W0 (aF.pure HK.o H.o)).mono ?_;rintro e W1 ⟨rfl,k1⟩;have c0:=k1.cell (p:=⟨w.heap.size,0,none⟩) id d0;have c1:=k1.cell (p:=⟨w.heap.size,1,none⟩) id d1;have c2:=k1.cell (p:=⟨w.heap.size,2,none⟩) id d2;have ou:=γ (HK.o.trans k1);clear k1 d0 d1 d2
 cases hm:bg 16 x with
 |false=>have F:rO w (dY x false) (.returned (.tuple #[.int .u8 0,.int .i64 2])) W1:=⟨by unfold dY;rw[if_pos hm],ou.o⟩;have F':=γ F;clear hm F;go_wp2;go_ret2;exact F'.o
 |true=>
  have HM:=γ hm;clear hm;go_wp2_with fail;refine(Ry _ x _ W1 (ξ _) (aF.pure ou.o H.o)).mono ?_;rintro e W1' ⟨rfl,k1⟩;have c0:=k1.cell (p:=⟨w.heap.size,0,none⟩) id c0;have c1:=k1.cell (p:=⟨w.heap.size,1,none⟩) id c1;have c2:=k1.cell (p:=⟨w.heap.size,2,none⟩) id c2;have ou:=γ (ou.o.trans k1);clear k1
  cases hA:ig x with
  |true=>have F:rO w (dY x false) (.returned (.tuple #[.int .u8 0,.int .i64 90])) W1':=⟨by unfold dY;rw[if_neg (by rw[HM.o];simp),if_pos ⟨rfl,hA⟩],ou.o⟩;have F':=γ F;clear hA F;go_wp2;go_ret2;exact F'.o
  |false=>
  have HA:=γ hA;clear hA;go_wp2;refine acv [1,0,2,3] ?_;simp only[aco]
  (apply aj rfl rfl;(intro W hW;have z0:=hW.cell id c0;have z1:=hW.cell id c1;have z2:=hW.cell id c2;go_simp;rfl);go_frame)
  apply ay rfl rfl;intro K hK;go_wp2_with fail;refine(Jw _).mono ?_;rintro e W2 ⟨m,rfl,r2,k2⟩;have k2':ε η W1' W2:=k2.aW;clear k2;go_wp2;refine hK _ _ (fun _=>k2') ?_;clear hK;apply ay rfl rfl;intro K hK;go_wp2_with fail;have c:=OY 16 x _ m _ (aF.pure (ou.o.trans k2') H.o) HM.o r2;refine c.mono ?_;clear c;rintro e W3 ⟨rfl,k3⟩;have dN:ε η W1' W3:=k2'.trans k3;clear k2' k3 r2;go_wp2;refine hK _ _ (fun _=>dN) ?_;clear hK
  (apply aj rfl rfl;(intro W hW;go_simp;rfl);go_frame)
  refine aA (fun _=>dN) ?_;by_cases ht:aC 16 x=0
  ·have F:rO w (dY x false) (.returned (.tuple #[.int .u8 0,.int .i64 91])) W3:=⟨by unfold dY;rw[if_neg (by rw[HM.o];simp),if_neg (by rw[HA.o];simp),if_pos ht],ou.o.trans dN⟩
   have F':=γ F;have hb:(aC 16 x==0)=true:=(by simp[ht]);clear F ht dN;go_wp2;go_ret2;exact F'.o
  ·have F:rO w (dY x false) (.returned (.tuple #[.int .u8 (aC 16 x),.int .i64 0])) W3:=⟨by unfold dY;rw[if_neg (by rw[HM.o];simp),if_neg (by rw[HA.o];simp),if_neg ht],ou.o.trans dN⟩
   have F':=γ F;have hb:(aC 16 x==0)=false:=(by simp[ht]);clear F ht dN;go_wp2;go_ret2;exact F'.o
theorem TA (x:Ex)(acc:Bool)(a:Array Value)(w:World)(h:aF w a x):Calls prog 166 #[.agg a,.bool acc] w (rO w (dY x acc)):=by
 cases acc with
 |true=>rw[GV];exact GU x a w h
 |false=>exact TB x a w h
theorem Zh (x:Ex)(acc:Bool)(ty:Int)(a:Array Value)(w:World)(h:aF w a x):Calls prog 132 #[.agg a,.bool acc,.int .u8 ty] w (Gives w (.bool (nP x acc ty))):=by
 obtain⟨p,cap,rfl,h0,h1,h2,h3,h4,h5⟩:=h.parts;have H:=γ h;clear h h5;go_enter func132,ntmps132;go_wp2_with fail;have k0:ε η w (w.alloc (.cells #[.int .u8 x.op,.int .i64 x.n,.slice p x.args.length cap] 40)):=δ.alloc _;have c:=TA x acc _ _ (aF.pure k0 H.o);refine c.mono ?_;clear c;rintro e W2 ⟨rfl,k2⟩;have HX:=γ (show nP x acc ty=((dY x acc).2==0&&(dY x acc).1==ty)from rfl);generalize dY x acc=r at*;obtain⟨r1,r2⟩:=r;have K:=γ (k0.trans k2);clear k0 k2;by_cases hr:r2=0
 ·have hb:(r2==0)=true:=by simp[hr]
  rw[hb]at HX;clear hr;go_wp2;go_ret;exact⟨aP (by rw[HX.o];rfl),K.o⟩
 ·have hb:(r2==0)=false:=by simp[hr]
  rw[hb]at HX;clear hr;go_wp2;go_ret;exact⟨aP (by rw[HX.o];rfl),K.o⟩
end
section
open Go Go.RowKit
def oq (w:World)(a:Array Value)(d:JN):Prop:=
 ∃pi ci p cap,a= #[.string d.uid,.int .u8 d.kind,.slice pi d.ins.length ci,.int .u8 d.x.op,.int .i64 d.x.n,.slice p d.x.args.length cap,.int .i64 d.n]/\
  aF w #[.int .u8 d.x.op,.int .i64 d.x.n,.slice p d.x.args.length cap] d.x/\Reads w 1 (.slice pi d.ins.length ci) (ints d.ins)/\(∀k∈d.ins,aJ k)/\0<=d.kind/\d.kind<=255/\aJ d.n/\d.uid.size<=maxLen
theorem Reads.UD {w w':World}{S:Nat->Prop}{k:Nat}{v:Value}{cs:List Value}(h:Reads w k v cs)(hk0:0<k)(hk:ε S w w')(hS: ∀k,S k-> ∀c E f,w.heap[k]?≠some (.cells c E f)):Reads w' k v cs:=
 h.kept hk (fun b hb hs=>by obtain⟨c,E,f,h⟩:=h.isCells hk0 hb;exact hS b hs c E f h)
theorem oq.kept {w w':World}{S:Nat->Prop}(hk:ε S w w')(hS: ∀k,S k-> ∀c E f,w.heap[k]?≠some (.cells c E f)){a:Array Value}{d:JN}(h:oq w a d):oq w' a d:=by obtain⟨pi,ci,p,cap,h1,h2,h3,h4⟩:=h;exact⟨pi,ci,p,cap,h1,h2.kept hk hS,h3.UD (by omega) hk hS,h4⟩
theorem oq.pure {w w':World}(hk:ε η w w'){a:Array Value}{d:JN}(h:oq w a d):oq w' a d:=h.kept hk (fun _ h=>h.elim)
def iR (w:World)(v:Value)(L:List JN):Prop:=
 ∃cs:List Value,Reads w 7 v cs/\cs.length=L.length*7/\ ∀i d,L[i]?=some d->oq w ((cs.drop (i*7)).take 7).toArray d
theorem iR.kept {w w':World}{S:Nat->Prop}(hk:ε S w w')(hS: ∀k,S k-> ∀c E f,w.heap[k]?≠some (.cells c E f)){v:Value}{L:List JN}(h:iR w v L):iR w' v L:=by obtain⟨cs,h1,h2,h3⟩:=h;exact⟨cs,h1.UD (by omega) hk hS,h2,fun i d hd=>(h3 i d hd).kept hk hS⟩
theorem iR.pure {w w':World}(hk:ε η w w'){v:Value}{L:List JN}(h:iR w v L):iR w' v L:=h.kept hk (fun _ h=>h.elim)
structure DZ (w:World)(b o:Nat)(d:JN)(pi:Option Addr)(ci:Nat)(p:Option Addr)(cap:Nat):Prop where
 c0:w.cell? ⟨b,o,none⟩=some (.string d.uid)
 c1:w.cell? ⟨b,o+1,none⟩=some (.int .u8 d.kind)
 c2:w.cell? ⟨b,o+2,none⟩=some (.slice pi d.ins.length ci)
 c3:w.cell? ⟨b,o+3,none⟩=some (.int .u8 d.x.op)
 c4:w.cell? ⟨b,o+4,none⟩=some (.int .i64 d.x.n)
 c5:w.cell? ⟨b,o+5,none⟩=some (.slice p d.x.args.length cap)
 c6:w.cell? ⟨b,o+6,none⟩=some (.int .i64 d.n)
theorem DZ.kept {w w':World}{S:Nat->Prop}{b o:Nat}{d:JN}{pi:Option Addr}{ci:Nat}{p:Option Addr}{cap:Nat}(h:DZ w b o d pi ci p cap)(hk:ε S w w')(hb: ¬S b):DZ w' b o d pi ci p cap:=
 ⟨hk.cell (p:=⟨b,o,none⟩) hb h.c0,hk.cell (p:=⟨b,o+1,none⟩) hb h.c1,hk.cell (p:=⟨b,o+2,none⟩) hb h.c2,hk.cell (p:=⟨b,o+3,none⟩) hb h.c3,hk.cell (p:=⟨b,o+4,none⟩) hb h.c4,hk.cell (p:=⟨b,o+5,none⟩) hb h.c5,hk.cell (p:=⟨b,o+6,none⟩) hb h.c6⟩
abbrev bQ (d:JN)(pi:Option Addr)(ci:Nat)(p:Option Addr)(cap:Nat):Array Value:=
 #[.string d.uid,.int .u8 d.kind,.slice pi d.ins.length ci,.int .u8 d.x.op,.int .i64 d.x.n,.slice p d.x.args.length cap,.int .i64 d.n]
theorem iR.at {w:World}{v:Value}{L:List JN}(h:iR w v L): ∃a cap,v= .slice a L.length cap/\L.length<=cap/\cap<=maxLen/\
 ∀i d,L[i]?=some d-> ∃b off pi ci p cap',a=some ⟨b,off,none⟩/\DZ w b (off+i*7) d pi ci p cap'/\oq w (bQ d pi ci p cap') d:=by
 obtain⟨cs,⟨a,n,cap,rfl,h1,h2,h3,h4⟩,h5,h6⟩:=h;have hn:n=L.length:=(by omega);subst hn;refine⟨a,cap,rfl,h1,h2,fun i d hd=>?_⟩;have hi:i<L.length:=(μ.1 hd).1;have hj:=h6 i d hd;have hne:cs≠[]:=fun e=>(by rw[e]at h5;simp at h5;omega);obtain⟨b,off,rfl,hc⟩:=h4.resolve_left hne;obtain⟨pi,ci,p,cap',e,hrest⟩:=hj;have hl:(cs.drop (i*7)).take 7=(bQ d pi ci p cap').toList:=(by have:=congrArg Array.toList e;simpa using this);have get: ∀j v,(bQ d pi ci p cap').toList[j]?=some v->cs[i*7+j]?=some v:=by
  intro j v hj;rw[<-hl,aaA]at hj;split at hj
  ·rwa[getElem?_drop]at hj
  ·cases hj
 have cell: ∀j v,(bQ d pi ci p cap').toList[j]?=some v->w.cell? ⟨b,off+i*7+j,none⟩=some v:=fun j v hj=>(by have:=hc _ _ (get j v hj);rwa[<-Nat.add_assoc]at this);exact⟨b,off,pi,ci,p,cap',rfl,⟨cell 0 _ rfl,cell 1 _ rfl,cell 2 _ rfl,cell 3 _ rfl,cell 4 _ rfl,cell 5 _ rfl,cell 6 _ rfl⟩,pi,ci,p,cap',rfl,hrest⟩
end
section
open Go Go.RowKit
attribute [local irreducible] dI
theorem EL: ∀(l m:List Ex)(n:Nat),jl (l++m) n=jl m (jl l n)
 |[],m,n=>by simp[jl]
 |x::l,m,n=>by simp only[cons_append,jl];exact EL l m _
theorem Kz {l:List Ex}{k:Nat}{y:Ex}(h:l[k]?=some y)(n:Nat):jl (l.take (k+1)) n=Di y (jl (l.take k) n):=by rw[ψ,h,EL];simp[jl]
theorem adV (x:Ex)(n:Nat):Di x n=if 0<n then jl x.args (n-1)else n:=by cases x;rfl
theorem DT (l:List Ex)(n:Nat):jl l n<=n:=by rw[DU];omega
structure wu (w0 w:World)(B1 B2:Nat)(n:Nat):Prop where
 left:w.heap[B1]?=some (.cells #[.int .i64 (n:Int)] 3 (0,0))
 self:w.heap[B2]?=some (.cells #[.func (.func 125) #[] #[.pointer (some ⟨B1,0,none⟩),.pointer (some ⟨B2,0,none⟩)]] 199 (0,0))
 ne:B1≠B2
 b1:w0.heap.size<=B1
 kept:ε η w0 w
theorem wu.alloc {w0 w:World}{B1 B2 n:Nat}(h:wu w0 w B1 B2 n)(o:Obj):wu w0 (w.alloc o) B1 B2 n:=
 ⟨((ε.refl η w).alloc o).heap h.left id,((ε.refl η w).alloc o).heap h.self id,h.ne,h.b1,h.kept.alloc o⟩
def aiW (w0 w:World)(B1 B2 n:Nat)(e:Ending)(w':World):Prop:=e= .returned (.tuple #[])/\wu w0 w' B1 B2 n
theorem UL: ∀(N:Nat)(x:Ex)(a:Array Value)(w0 w:World)(B1 B2 n:Nat),SizeOf.sizeOf x<=N->aF w0 a x->n<=1001->wu w0 w B1 B2 n->
 Calls prog 125 #[.agg a,.pointer (some ⟨B1,0,none⟩),.pointer (some ⟨B2,0,none⟩)] w (aiW w0 w B1 B2 (Di x n))
 |0,x,_,_,_,_,_,_,h,_,_,_=>by cases x;simp at h
 |N+1,x,a,w0,w,B1,B2,n,hN,h,hn,hst=>by
  obtain⟨p,cap,rfl,h0,h1,h2,h3,h4,h5⟩:=h.parts;have sub: ∀(i:Nat)(y:Ex),x.args[i]?=some y->SizeOf.sizeOf y<=N:=(by intro i y hy;obtain⟨op,n,args⟩:=x;have h1:=sizeOf_lt_of_mem (ς (show args[i]?=some y from hy));simp at hN;omega);have IH:=γ (fun y a w n hy h hn hst=>UL N y a w0 w B1 B2 n hy h hn hst);have SB:=γ sub;have H5:=γ h5;have HX:=γ (adV x n);unfold maxLen at h4;have hb1:B1<w.heap.size:=(κ.1 hst.left).1;have hb2:B2<w.heap.size:=(κ.1 hst.self).1;have c0:w.cell? ⟨B1,0,none⟩=some (.int .i64 (n:Int)):=ζ hst.left rfl;have f0:=free_at hst.left 0;have S0:=γ hst;clear h h5 sub hN hst;go_enter func125,ntmps125;by_cases hn0:0<n
  ·have hwn:wrap64 ((n:Int)-1)=((n-1:Nat):Int):=by unfold wrap64;omega
   have HY:=γ (show Di x n=jl x.args (n-1) by rw[HX.o,if_pos hn0]);clear HX;go_wp2_with fail;obtain⟨W1,hW1⟩:=acu ((w.setCell ⟨B1,0,none⟩ (.int .i64 ((n:Int)-1))).alloc (.cells #[.int .u8 x.op,.int .i64 x.n,.slice p x.args.length cap] 40));have kS:wu w0 W1 B1 B2 (n-1):=(by have st1:=S0.o;rw[<-hW1];have e1:((n:Int)-1)=((n-1:Nat):Int):=(by omega);rw[e1];exact wu.alloc ⟨by have:=aU st1.left 0 (.int .i64 ((n-1:Nat):Int));simpa using this,((ε.refl (one B1) _).setCell (p:=⟨B1,0,none⟩) (.inl rfl) _).heap st1.self (fun e=>st1.ne e.symm),st1.ne,st1.b1,st1.kept.setCell (p:=⟨B1,0,none⟩) (.inr st1.b1) _⟩ _);rw[hW1];have KS:=γ kS;clear hW1 kS S0 c0 f0;go_loopg [13] x.args.length (fun g vi wr=> ∃(k:Nat),k<=x.args.length/\vi= .int .i64 (k:Int)/\x.args.length-k<=g/\wu w0 wr B1 B2 (jl (x.args.take k) (n-1)))
   case atStart=>exact⟨0,by omega,rfl,by omega,by simpa[jl]using KS.o⟩
   case round=>
    obtain⟨k,hkl,rfl,hg,hst⟩:=hrel;by_cases hlt:k<x.args.length
    ·obtain⟨y,hy⟩: ∃y,x.args[k]?=some y:=⟨_,ι hlt⟩
     obtain⟨b,off,p',cap',rfl,q0,q1,q2,hy2⟩:=H5.o k y hy;have hkp:=hst.kept;have r0:=hkp.cell (p:=⟨b,off+k*3,none⟩) id q0;have r1:=hkp.cell (p:=⟨b,off+k*3+1,none⟩) id q1;have r2:=hkp.cell (p:=⟨b,off+k*3+2,none⟩) id q2;have s0:wr.cell? ⟨B2,0,none⟩=some (.func (.func 125) #[] #[.pointer (some ⟨B1,0,none⟩),.pointer (some ⟨B2,0,none⟩)]):=ζ hst.self rfl;have hb2:B2<wr.heap.size:=(κ.1 hst.self).1;have G:=γ (θ hg (θ hy2 (θ hst (θ (SB.o k y hy) hy))));have HM:=γ (show jl (x.args.take k) (n-1)<=1001 by have:=DT (x.args.take k) (n-1);omega);clear q0 q1 q2 hy hy2 hkp hg H5 hst;go_wp2_with fail;have c:=IH.o y _ _ _ G.o.2.2.2.1 G.o.2.1 HM.o (G.o.2.2.1.alloc (.cells #[.int .u8 y.op,.int .i64 y.n,.slice p' y.args.length cap'] 40));refine c.mono ?_;clear c;rintro e w2 ⟨rfl,st2⟩;rw[<-Kz G.o.2.2.2.2]at st2;have S2:=γ st2;clear st2;go_wp2;go_roundg (x.args.length-(k+1))
     case rel=>exact⟨k+1,by omega,by go_num,ξ _,S2.o⟩
     case measure=>have:=G.o.1;omega
    ·have S2:=γ hst
     have e1:k=x.args.length:=(by omega);subst e1;clear hst;go_wp2_with fail
     go_end0
     exact⟨rfl,by rw[HY.o];have:=S2.o;rwa[take_length]at this⟩
  ·have F:=γ (show Di x n=n by rw[HX.o,if_neg hn0])
   clear HX;go_wp2_with fail
   go_end0
   exact⟨rfl,by rw[F.o];exact S0.o.alloc _⟩
def oh (w:World)(a:Array Value)(j:Jb):Prop:= ∃v,a= #[.int .i64 j.par,v]/\iR w v j.nodes/\aJ j.par
theorem oh.pure {w w':World}(hk:ε η w w'){a:Array Value}{j:Jb}(h:oh w a j):oh w' a j:=by obtain⟨v,h1,h2,h3⟩:=h;exact⟨v,h1,h2.pure hk,h3⟩
theorem YK (j:Jb)(a:Array Value)(w:World)(h:oh w a j):Calls prog 85 #[.agg a] w (Gives w (.int .i64 ((1001-jl (j.nodes.map (·.x)) 1001:Nat):Int))):=by
 obtain⟨v,rfl,hn,hp⟩:=h;obtain⟨na,cap,rfl,h1,h2,h3⟩:=hn.at;unfold maxLen at h2;have H3:=γ h3;clear h3 hn hp;go_enter func85,ntmps85;go_wp2_with fail;obtain⟨W0,hW0⟩:=acu (((w.alloc (.cells #[.int .i64 j.par,.slice na j.nodes.length cap] 24)).alloc (.cells #[.int .i64 1001] 3)).alloc (.cells #[.func (.func 125) #[] #[.pointer (some ⟨w.heap.size+1,0,none⟩),.pointer (some ⟨w.heap.size+1+1,0,none⟩)]] 199));have st0:wu w W0 (w.heap.size+1) (w.heap.size+1+1) 1001:=by
  rw[<-hW0];refine⟨?_,?_,by omega,by omega,(δ.alloc _).alloc _|>.alloc _⟩
  ·rw[Below.heap_alloc _ _ _ (by simp)]
   have:=heap_alloc_new (w.alloc (.cells #[.int .i64 j.par,.slice na j.nodes.length cap] 24)) (.cells #[.int .i64 1001] 3);rwa[World.size_alloc]at this
  ·have:=heap_alloc_new ((w.alloc (.cells #[.int .i64 j.par,.slice na j.nodes.length cap] 24)).alloc (.cells #[.int .i64 1001] 3)) (.cells #[.func (.func 125) #[] #[.pointer (some ⟨w.heap.size+1,0,none⟩),.pointer (some ⟨w.heap.size+1+1,0,none⟩)]] 199)
   rwa[World.size_alloc,World.size_alloc]at this
 rw[hW0];have ST:=γ st0;clear hW0 st0;go_loopg [11] j.nodes.length (fun g vi wr=> ∃(k:Nat),k<=j.nodes.length/\vi= .int .i64 (k:Int)/\j.nodes.length-k<=g/\wu w wr (w.heap.size+1) (w.heap.size+1+1) (jl ((j.nodes.map (·.x)).take k) 1001))
 case atStart=>exact⟨0,by omega,rfl,by omega,by simpa[jl]using ST.o⟩
 case round=>
  obtain⟨k,hkl,rfl,hg,hst⟩:=hrel;by_cases hlt:k<j.nodes.length
  ·obtain⟨d,hd⟩: ∃d,j.nodes[k]?=some d:=⟨_,ι hlt⟩
   obtain⟨b,off,pi,ci,p,cap',rfl,hc,hj⟩:=H3.o k d hd;have hc':=hc.kept hst.kept id;obtain⟨c0,c1,c2,c3,c4,c5,c6⟩:=hc';have s0:wr.cell? ⟨w.heap.size+1+1,0,none⟩=some (.func (.func 125) #[] #[.pointer (some ⟨w.heap.size+1,0,none⟩),.pointer (some ⟨w.heap.size+1+1,0,none⟩)]):=ζ hst.self rfl;have hb2:w.heap.size+1+1<wr.heap.size:=(κ.1 hst.self).1;have hx:aF w #[.int .u8 d.x.op,.int .i64 d.x.n,.slice p d.x.args.length cap'] d.x:=by
    obtain⟨_,_,_,_,e,hx,_⟩:=hj
    injection e with e
    simp only[List.cons.injEq,and_true,true_and]at e;obtain⟨e1,e2⟩:=e;rw[e2];exact hx
   have hxk:(j.nodes.map (·.x))[k]?=some d.x:=(by rw[aav,hd];rfl);have G:=γ (θ hg (θ hx (θ hst hxk)));have HM:=γ (DT ((j.nodes.map (·.x)).take k) 1001);clear hd hj hc hg hst hx hxk H3;go_wp2_with fail;have c:=UL _ d.x _ _ _ _ _ _ (ξ _) G.o.2.1 HM.o (G.o.2.2.1.alloc (.cells (bQ d pi ci p cap') 42));refine c.mono ?_;clear c;rintro e w2 ⟨rfl,st2⟩;rw[<-Kz G.o.2.2.2]at st2;have S2:=γ st2;clear st2;go_wp2;go_roundg (j.nodes.length-(k+1))
   case rel=>exact⟨k+1,by omega,by go_num,ξ _,S2.o⟩
   case measure=>have:=G.o.1;omega
  ·have e1:k=j.nodes.length:=by omega
   subst e1;have l0:wr.cell? ⟨w.heap.size+1,0,none⟩=some (.int .i64 ((jl ((j.nodes.map (·.x)).take j.nodes.length) 1001:Nat):Int)):=ζ hst.left rfl;have hle:=DT (j.nodes.map (·.x)) 1001;have el:(j.nodes.map (·.x)).take j.nodes.length=j.nodes.map (·.x):=χ (by simp);rw[el]at l0;have K:=γ hst.kept;clear hst el;obtain⟨m,hm⟩:=acu (jl (j.nodes.map (·.x)) 1001);rw[hm]at l0 hle;have HM:=γ hm;clear hm;go_wp2;go_ret;exact⟨gV (by rw[HM.o];omega),K.o⟩
theorem rU: ∃i,prog.info? 3=some i/\i.zero=some (.int .i64 0)/\i.size=1/\i.bytes=8:=by
 have h:(prog.info? 3).map (fun i=>(i.zero,i.size,i.bytes))=some (some (.int .i64 0),1,8):=(by kernel_rfl);obtain⟨i,h1,h2⟩:=acg.1 h
 injection h2 with h2 h3
 injection h3 with h3 h4
 exact⟨i,h1,h2,h3,h4⟩
theorem abn: ∃i,prog.info? 9=some i/\i.zero=some (.string ByteArray.empty)/\i.size=1/\i.bytes=16:=by
 have h:(prog.info? 9).map (fun i=>(i.zero,i.size,i.bytes))=some (some (.string ByteArray.empty),1,16):=(by kernel_rfl);obtain⟨i,h1,h2⟩:=acg.1 h
 injection h2 with h2 h3
 injection h3 with h3 h4
 exact⟨i,h1,h2,h3,h4⟩
theorem PL {T E bytes:Nat}{z x:Value}{i:TypeInfo}(hT:prog.underlying T=some (.slice E))(hi:prog.info? E=some i)(hz:i.zero=some z)(hs:i.size=1)(hb:i.bytes=bytes)(hzc:z.cells.size=1)(hx:x.oneCell'=true)
 {wr:World} {base m:Nat} {v:Value} {xs:List Value} (hown:wr.ownsRow base E 1 v m xs) (hm:m<=100000) (hbb:bytes<=1000) (hbase:base<=wr.heap.size) (ty:TypeId):
 ∃v' w',(Builtin.append_ #[T,T] ty #[v,.slice (some ⟨wr.heap.size,0,none⟩) 1 1]).run prog (wr.alloc (.cells #[x] E))= .ok v' w'/\w'.ownsRow base E 1 v' (m+1) (xs++[x])/\ε (fun k=>base<=k) wr w':=by
 have kA:ε η wr (wr.alloc (.cells #[x] E)):=δ.alloc _;have hr:=Reads.lit wr [x] E 1 1 rfl (by unfold maxLen;omega);obtain⟨v',n',w',b1,b2,b3,b4,_⟩:=aZ (P:=prog) base T ty E i z 1 bytes hT hi hz hs hb hzc (by omega) (kA.owns hown (fun _ _ h=>h)) hr (by intro y hy;rw[ach.1 hy];exact hx)
  (by
    simp only[length_singleton,Nat.mul_one]
    calc(m+1)*bytes<=100001*1000:=Nat.mul_le_mul (by omega) hbb
     _<=140737488355328:=by decide) (by simp;unfold maxLen;omega) (by have:=kA.size;omega)
 have hn:n'=m+1:=(by simpa using b3);subst hn;exact⟨v',w',b1,b2,kA.pure.trans (ε.grown b4 (fun k hk _=>(aY hown hk).1))⟩
def dA (nodes:List JN)(i:Nat)(k:Nat):List Int:=((range k).filter fun m=>decide ((i:Int)∈(nodes.getD m default).ins)).map fun(m:Nat)=>(m:Int)
theorem oV {nodes:List JN}{i k:Nat}{d:JN}(hd:nodes[k]?=some d):dA nodes i (k+1)=dA nodes i k++if(i:Int)∈d.ins then[(k:Int)]else[]:=by
 unfold dA;rw[range_succ,filter_append,aay]
 congr 1
 have e:nodes.getD k default=d:=(by rw[σ,hd];rfl);by_cases h:(i:Int)∈d.ins
 ·have e2:decide ((i:Int)∈(nodes.getD k default).ins)=true:=by rw[e];exact decide_eq_true h
  rw[filter_cons,if_pos e2,if_pos h];rfl
 ·have e2: ¬(decide ((i:Int)∈(nodes.getD k default).ins)=true):=by rw[e];simpa using h
  rw[filter_cons,if_neg e2,if_neg h];rfl
theorem tK (nodes:List JN)(i:Nat): ∀k,k<=nodes.length->(dA nodes i k).length=(nodes.take k).countP fun d=>d.ins.contains (i:Int)
 |0,_=>rfl
 |k+1,hk=>by
  have hd:nodes[k]?=some nodes[k]:=ι (by omega);rw[oV hd,ν,tK nodes i k (by omega),ψ,hd,countP_append]
  congr 1
  by_cases h:(i:Int)∈(nodes[k]).ins
  ·simp[h]
  ·simp[h]
theorem Ei (nodes:List JN)(i k:Nat):(dA nodes i k).length<=k:=by unfold dA;rw[length_map];exact ω (length_filter_le _ _) (by simp)
def abZ (w:World)(n:Nat)(e:Ending)(w':World):Prop:= ∃a cap,e= .returned (.slice a n cap)/\ε η w w'
theorem y7 (j:Jb)(a:Array Value)(i:Nat)(w:World)(h:oh w a j)(ae0:j.nodes.length<=1000):Calls prog 88 #[.agg a,.int .i64 (i:Int)] w (abZ w (fV j.nodes i)):=by
 obtain⟨v,rfl,hn,hp⟩:=h;obtain⟨na,cap,rfl,h1,h2,h3⟩:=hn.at;unfold maxLen at h2;have H3:=γ h3;clear h3 hn hp;go_enter func88,ntmps88;go_wp2_with fail;obtain⟨W0,hW0⟩:=acu ((w.alloc (.cells #[.int .i64 j.par,.slice na j.nodes.length cap] 24)));have k0:ε η w W0:=(by rw[<-hW0];exact δ.alloc _);rw[hW0];have K0:=γ k0;clear hW0 k0;go_loopg [5,11] j.nodes.length (fun g vo vi wr=> ∃(k:Nat),k<=j.nodes.length/\vi= .int .i64 (k:Int)/\j.nodes.length-k<=g/\wr.ownsRow w.heap.size 3 1 vo (dA j.nodes i k).length (ints (dA j.nodes i k))/\ε η w wr)
 case atStart=>exact⟨0,by omega,rfl,by omega,World.ownsRow_nil _ _ _ _,K0.o⟩
 case round=>
  obtain⟨k,hkl,rfl,hg,hown,hkp⟩:=hrel;obtain⟨oa,oc,rfl⟩:=au hown;by_cases hlt:k<j.nodes.length
  ·obtain⟨d,hd⟩: ∃d,j.nodes[k]?=some d:=⟨_,ι hlt⟩
   obtain⟨b,off,pi,ci,p,cap',rfl,hc,hj⟩:=H3.o k d hd;obtain⟨c0,c1,c2,c3,c4,c5,c6⟩:=hc.kept hkp id;have hin:Reads w 1 (.slice pi d.ins.length ci) (ints d.ins):=by
    obtain⟨_,_,_,_,e,_,hx,_⟩:=hj
    injection e with e
    simp only[List.cons.injEq,and_true,true_and]at e;obtain⟨e1,e2⟩:=e;rw[e1];exact hx
   have kA:ε η wr (wr.alloc (.cells (bQ d pi ci p cap') 42)):=δ.alloc _;have cc:=Bl _ d.ins (i:Int) _ (hin.pure (hkp.trans kA));have hsz:=γ hkp.size;have G:=γ (θ hg (θ hown (θ (hkp.trans kA) (θ hd kA))));clear hd hj hc hg hown hkp hin H3;by_cases hm:(i:Int)∈d.ins
   ·have e1:decide ((i:Int)∈d.ins)=true:=decide_eq_true hm
    rw[e1]at cc;have E1:=γ (oV (i:=i) G.o.2.2.2.1);rw[if_pos hm]at E1;obtain⟨ti,hi3,hz3,hs3,hb3⟩:=rU;have hle:=Ei j.nodes i k;obtain⟨v',w',b1,b2,b3⟩:=PL (x:= .int .i64 (k:Int)) (bytes:=8) underlying37 hi3 hz3 hs3 hb3 rfl rfl (kA.owns G.o.2.1 (fun _ _ h=>h)) (by omega) (by omega) (ω hsz.o kA.size) 45;have hnew:w'.ownsRow w.heap.size 3 1 v' (dA j.nodes i (k+1)).length (ints (dA j.nodes i (k+1))):=(by rw[E1.o,ν];unfold ints at b2⊢;rw[aay];exact b2);have F:=γ (θ hnew (G.o.2.2.1.new b3 (fun i hi h=>by omega)));rw[World.size_alloc]at b1;have B1:=γ b1;clear b1 b2 b3 hnew hi3 hz3 hs3 hb3 kA hm e1;go_wp2_with (first|(go_at_call 134;refine cc.mono ?_;rintro e w' ⟨rfl,rfl⟩)|(at_builtin;refine wpList_append_run rfl (.tmp 20) (.tmp 22) 37 rfl (.slice oa (dA j.nodes i k).length oc) (.slice (some ⟨wr.heap.size+1,0,none⟩) 1 1) v' rfl rfl B1.o ?_));go_roundg (j.nodes.length-(k+1))
    case rel=>exact⟨k+1,by omega,by go_num,ξ _,F.o⟩
    case measure=>have:=G.o.1;omega
   ·have e1:decide ((i:Int)∈d.ins)=false:=decide_eq_false hm
    rw[e1]at cc;have E1:=oV (i:=i) G.o.2.2.2.1;rw[if_neg hm,append_nil]at E1;have F:=γ (show(wr.alloc (.cells (bQ d pi ci p cap') 42)).ownsRow w.heap.size 3 1 (.slice oa (dA j.nodes i k).length oc) (dA j.nodes i (k+1)).length (ints (dA j.nodes i (k+1))) by rw[E1];exact kA.owns G.o.2.1 (fun _ _ h=>h));clear kA hm e1 E1;go_wp2_with (go_at_call 134;refine cc.mono ?_;rintro e w' ⟨rfl,rfl⟩);go_roundg (j.nodes.length-(k+1))
    case rel=>exact⟨k+1,by omega,by go_num,ξ _,F.o,G.o.2.2.1⟩
    case measure=>have:=G.o.1;omega
  ·have e1:k=j.nodes.length:=by omega
   subst e1;have hF:(dA j.nodes i j.nodes.length).length=fV j.nodes i:=(by rw[tK _ _ _ (ξ _),take_length];rfl);rw[hF];clear hF;have HK:=γ hkp;clear hkp hown;go_wp2;go_ret;exact⟨oa,oc,rfl,HK.o⟩
end
