/- Symbolic runs: what is the same. -/
import Derived.Test.YtakhobfamnjnoaaGreatDoorC15
import Derived.Sort.Walk7a
set_option linter.unusedVariables false
set_option linter.unusedSimpArgs false
set_option maxHeartbeats 1000000
set_option maxRecDepth 100000
namespace Go.Proofs.YtakhobfamnjnoaaGreatDoor
section
namespace Sx
open Go Go.RowKit _root_.Go.Proofs.Tryz
set_option maxRecDepth 100000
mutual
def Au:Ex->List PV
 | .mk op n args=>[.int .u8 op, .int .i64 n, .fz args.length (gQ args)]
def gQ:List Ex->List PV
 |[]=>[]
 |x::l=>Au x++gQ l
end
mutual
def rY:Ex->Ex->Bool
 | .mk o n a, .mk p m b=>decide (o=p)&&decide (n=m)&&lK a b
def lK:List Ex->List Ex->Bool
 |[],[]=>true
 |a::l,b::m=>rY a b&&lK l m
 |_,_=>false
end
mutual
def iG:Ex->Prop
 | .mk op n args=>0<=op/\op<=255/\aO n/\args.length<4611686018427387904/\vU args
def vU:List Ex->Prop
 |[]=>True
 |x::l=>iG x/\vU l
end
theorem nY {x:Ex}: ∀{l:List Ex},vU l->x∈l->iG x
 |_::_,h, .head _=>h.1
 |_::_,h, .tail _ hm=>nY h.2 hm
theorem nH: ∀x:Ex,(Au x).length=3
 | .mk _ _ _=>by simp[Au]
theorem lT: ∀l:List Ex,gQ l=l.flatMap Au
 |[]=>rfl
 |x::l=>by rw[gQ,lT l];rfl
theorem H7: ∀{a b:List Ex},lK a b=true->a.length=b.length
 |[],[],_=>rfl
 |x::a,y::b,h=>by
  simp only[lK,Bool.and_eq_true]at h
  rw[List.length_cons,List.length_cons,H7 h.2]
 |[],_::_,h=>by cases h
 |_::_,[],h=>by cases h
theorem Et: ∀{a b:List Ex}{k:Nat}{x y:Ex},a[k]?=some x->b[k]?=some y->lK (a.take (k+1)) (b.take (k+1))=(lK (a.take k) (b.take k)&&rY x y)
 |[],_,_,_,_,h,_=>by simp at h
 |_::_,[],_,_,_,_,h=>by simp at h
 |u::a,v::b,0,x,y,h1,h2=>by
  simp at h1 h2;subst h1 h2
  simp[lK]
 |u::a,v::b,k+1,x,y,h1,h2=>by
  have:=Et (a:=a) (b:=b) (k:=k) (by simpa using h1) (by simpa using h2)
  simp only[List.take_succ_cons,lK]at this⊢
  rw[this,Bool.and_assoc]
theorem VD {a b:List Ex}{k:Nat}{x y:Ex}(h1:a[k]?=some x)(h2:b[k]?=some y)(h:rY x y=false):lK a b=false:=by
 induction a generalizing b k with
 |nil=>simp at h1
 |cons u a ih=>cases b with
  |nil=>rfl
  |cons v b=>cases k with
   |zero=>simp at h1 h2;subst h1 h2;simp[lK,h]
   |succ k=>simp only[lK];rw[ih (by simpa using h1) (by simpa using h2),Bool.and_false]
section
variable (bx:{α:Type}->α->α)
def J9 (x:Ex):List PV:=[.int .u8 (bx x.op), .int .i64 (bx x.n), .fz (bx x.args.length) (bx (gQ x.args))]
def qK (x:Ex):AV:= .agg [.p (.int .u8 (bx x.op)), .p (.int .i64 (bx x.n)), .p (.fz (bx x.args.length) (bx (gQ x.args)))]
end
section
variable {bx:{α:Type}->α->α} (hb: ∀{α:Type}(x:α),bx x=x)
include hb
theorem yF (x:Ex):J9 bx x=Au x:=by
 obtain⟨o,n,a⟩:=x
 simp only[J9,hb,Au,Ex.op,Ex.n,Ex.args]
theorem agi (a b:List Ex)(hl:a.length<4611686018427387904)(ih: ∀x∈a,∀y,Ct prog 68 [qK bx x,qK bx y] [] fun r h=>r= .a (.c (.p (.bool (bx (rY x y)))))/\h=[]):Ct prog 108 [.c (.p (.fz (bx a.length) (bx (gQ a)))), .c (.p (.fz (bx b.length) (bx (gQ b)))), .c (.p (.fn 68))] [] fun r h=>r= .a (.c (.p (.bool (bx (lK a b)))))/\h=[]:=ct hb func108 fun Q hQ K hK=>by
 cbv
 refine⟨fun hc=>?_,fun hc=>?_⟩<;>simp only[hb,pl]at hc
 ·cbv
  exact hK _ _ (.a (.c (.p (.bool (bx (lK a b)))))) [] (aS [] [] (he:=lF (by
   rw[hb,<-Bool.not_eq_true]
   exact fun h=>hc (H7 h)))) ⟨rfl,rfl⟩
 ·cbv
  refine loop hb (fun k=>k<=a.length/\lK (a.take k) (b.take k)=true) (fun k=>a.length-k) (fun k=>[(17, .a (.c (.p (.int .i64 (bx (Int.ofNat k))))))]) (fun _=>[]) 0 ⟨by omega,rfl⟩ (ent [] []) fun k hI=>?_
  cbv
  refine⟨fun hd=>?_,fun hd=>?_⟩<;>simp only[hb,pl]at hd
  ·obtain⟨x,hx⟩: ∃x,a[k]?=some x:=⟨_,List.getElem?_eq_getElem hd⟩
   obtain⟨y,hy⟩: ∃y,b[k]?=some y:=⟨_,List.getElem?_eq_getElem (by omega)⟩
   cbv
   refine get (J9 bx x) (gJ hb nH (lT a) hx (yF hb x)) (chk (gK hb hd (by omega)) ?_)
   cbv
   refine get (J9 bx y) (gJ hb nH (lT b) hy (yF hb y)) (chk (gK hb (by omega) (by omega)) ?_)
   cbv
   refine call hQ (ih x (List.mem_of_getElem? hx) y) [] ?_
   rintro _ _ ⟨rfl,rfl⟩
   cbv
   refine⟨fun he=>?_,fun he=>?_⟩<;>simp only[hb,pl]at he
   ·cbv
    exact hK _ _ (.a (.c (.p (.bool (bx (lK a b)))))) [] (aS [] [] (he:=lF (by rw[hb];exact VD hx hy he))) ⟨rfl,rfl⟩
   ·have hu:=mQ hb (k:=k) (by omega)
    cbv
    exact⟨k+1,⟨by omega,by rw[Et hx hy,hI.2,he];rfl⟩,by omega,ent [] [] (he:=by cbv;(repeat' (first|trivial|rfl|apply And.intro|exact hu)))⟩
  ·cbv
   have hk:k=a.length:=by omega
   have h1:=hI.2
   rw[hk,List.take_of_length_le (Nat.le_refl _),List.take_of_length_le (by omega)]at h1
   exact hK _ _ (.a (.c (.p (.bool (bx (lK a b)))))) [] (aS [] [] (he:=vC (by rw[hb];exact h1))) ⟨rfl,rfl⟩
omit hb in
theorem aai (x y:Ex):rY x y=(decide (x.op=y.op)&&decide (x.n=y.n)&&lK x.args y.args):=by
 obtain⟨o,n,a⟩:=x
 obtain⟨p,m,b⟩:=y
 rw[rY];rfl
omit hb in
theorem AL {x z:Ex}(h:z∈x.args):SizeOf.sizeOf z<SizeOf.sizeOf x:=by
 obtain⟨o,n,a⟩:=x
 have:=List.sizeOf_lt_of_mem (show z∈a from h)
 rw[Ex.mk.sizeOf_spec]
 omega
omit hb in
theorem iG.args {x:Ex}(h:iG x):x.args.length<4611686018427387904/\vU x.args:=by
 obtain⟨o,n,a⟩:=x
 obtain⟨_,_,_,h1,h2⟩:=h
 exact⟨h1,h2⟩
theorem YA (x y:Ex)(hx:iG x):Ct prog 68 [qK bx x,qK bx y] [] fun r h=>r= .a (.c (.p (.bool (bx (rY x y)))))/\h=[]:=by
 have he:=aai x y
 have c:=agi hb x.args y.args hx.args.1 fun z hz w=>YA z w (nY hx.args.2 hz)
 refine ct hb func68 fun Q hQ K hK=>?_
 have no: ∀{H:Hp},rY x y=false->K (.a (.c (.p .ff))) H:=fun h=>hK _ _ (.a (.c (.p (.bool (bx (rY x y)))))) [] (aS [] [] (he:=lF (by rw[hb];exact h))) ⟨rfl,rfl⟩
 cbv
 refine⟨fun h1=>?_,fun h1=>?_⟩<;>simp only[hb,pl]at h1
 ·cbv
  refine⟨fun h2=>?_,fun h2=>?_⟩<;>simp only[hb,pl]at h2
  ·cbv
   refine call hQ c [] ?_
   rintro _ _ ⟨rfl,rfl⟩
   cbv
   exact hK _ _ (.a (.c (.p (.bool (bx (rY x y)))))) [] (aS [] [] (he:=vF (by simp[hb,he,h1,h2]))) ⟨rfl,rfl⟩
  ·cbv
   exact no (by simp[he,h2])
 ·cbv
  exact no (by simp[he,h1])
termination_by SizeOf.sizeOf x
decreasing_by exact AL hz
end
end Sx
end
section
open Go Go.RowKit
theorem uS {l:List Int}{i:Nat}{x:Int}(h:l[i]?=some x):(ints l)[i]?=some (.int .i64 x):=by simp[ints,h]
theorem Reads.at {w:World}{v:Value}{l:List Int}(h:Reads w 1 v (ints l)): ∃a cap,v= .slice a l.length cap/\l.length<=cap/\cap<=maxLen/\(l=[]\/ ∃b off,a=some ⟨b,off,none⟩/\ ∀i x,l[i]?=some x->w.cell? ⟨b,off+i,none⟩=some (.int .i64 x)):=by
 obtain⟨a,n,cap,rfl,h1,h2,h3,h4⟩:=h
 have hn:n=l.length:=by simpa using h3.symm
 subst hn
 refine⟨a,cap,rfl,h1,h2,?_⟩
 rcases h4 with h4|⟨b,off,rfl,h4⟩
 ·left
  have:(ints l).length=0:=by rw[h4];rfl
  rw[Ud]at this
  exact List.eq_nil_of_length_eq_zero this
 ·exact .inr ⟨b,off,rfl,fun i x hx=>h4 i _ (uS hx)⟩
theorem jA {a b:Bool}(h:a=b):Ending.returned (.bool a)= .returned (.bool b):=by rw[h]
section
variable {P:Program} {w:World} {a:Option Addr} {n cap k i:Nat} {cs:List Value} {T E:TypeId}
theorem DF (hT:P.underlying T=some (.slice E))(hs:(sizeOf E).run P w= .ok k w)(hi:i<=n)(hc:n<=cap):(Instr.slice T (.slice a n cap) none (some (.int .i64 (i:Int))) none).run P w= .ok (.slice a i cap) w:=by
 have hb:(Instr.sliceBounds true n cap none (some (.int .i64 (i:Int))) none).run P w= .ok (0,i,cap) w:=by
  simp[Instr.sliceBounds,Instr.sliceBound,asIntOf]
  intro h;omega
 simp only[Instr.slice,Sem.run_bind,run_underlying hT,Result.andThen_ok,hb,hs,Sem.run_pure]
 cases a with
 |none=>simp
 |some a=>simp[Addr.add]
theorem Reads.take (h:Reads w k (.slice a n cap) cs)(hi:i<=n):Reads w k (.slice a i cap) (cs.take (i*k)):=by
 obtain⟨a',n',cap',e,h1,h2,h3,h4⟩:=h
 cases e
 refine⟨a,i,cap,rfl,by omega,h2,?_,?_⟩
 ·rw[List.length_take,h3]
  exact Nat.min_eq_left (Nat.mul_le_mul_right k hi)
 ·rcases h4 with h4|⟨b,off,rfl,h4⟩
  ·left;rw[h4];simp
  ·right
   refine⟨b,off,rfl,fun j x hx=>h4 j x ?_⟩
   rw[List.getElem?_take]at hx
   split at hx
   ·exact hx
   ·cases hx
theorem Reads.drop (h:Reads w k (.slice a n cap) cs)(hi:i<=n):Reads w k (.slice (if cap=i then a else a.map (·.add (i*k))) (n-i) (cap-i)) (cs.drop (i*k)):=by
 obtain⟨a',n',cap',e,h1,h2,h3,h4⟩:=h
 cases e
 refine⟨_,n-i,cap-i,rfl,by omega,by omega,by rw[List.length_drop,h3,Nat.sub_mul],?_⟩
 rcases h4 with h4|⟨b,off,rfl,h4⟩
 ·left;rw[h4];simp
 ·by_cases hc:cap=i
  ·left
   exact List.drop_eq_nil_of_le (by rw[h3];exact Nat.mul_le_mul_right k (by omega))
  ·right
   refine⟨b,off+i*k,by rw[if_neg hc];simp only[Option.map_some];rw[Addr.add_lit],fun j x hx=>?_⟩
   rw[Nat.add_assoc]
   rw[List.getElem?_drop]at hx
   exact h4 (i*k+j) x hx
end
def strs (l:List ByteArray):List Value:=l.map Value.string
@[simp] theorem TA (l:List ByteArray):(strs l).length=l.length:=by simp[strs]
theorem Reads.atS {w:World}{v:Value}{l:List ByteArray}(h:Reads w 1 v (strs l)): ∃a cap,v= .slice a l.length cap/\l.length<=cap/\cap<=maxLen/\(l=[]\/ ∃b off,a=some ⟨b,off,none⟩/\ ∀i x,l[i]?=some x->w.cell? ⟨b,off+i,none⟩=some (.string x)):=by
 obtain⟨a,n,cap,rfl,h1,h2,h3,h4⟩:=h
 have hn:n=l.length:=by simpa using h3.symm
 subst hn
 refine⟨a,cap,rfl,h1,h2,?_⟩
 rcases h4 with h4|⟨b,off,rfl,h4⟩
 ·left
  have:(strs l).length=0:=by rw[h4];rfl
  rw[TA]at this
  exact List.eq_nil_of_length_eq_zero this
 ·exact .inr ⟨b,off,rfl,fun i x hx=>h4 i _ (by simp[strs,hx])⟩
end
section
open Go Go.RowKit
def aiB (w:World)(l:List Int)(g:Int)(e:Ending)(w':World):Prop:= ∃n:Int,e= .returned (.int .i64 n)/\(0<=n↔g∈l)/\w=w'
theorem Xw (v:Value)(l:List Int)(g:Int)(w:World)(h:Reads w 1 v (ints l)):Calls Tryz.prog 148 #[v, .int .i64 g] w (aiB w l g):=by
 obtain⟨pa,ca,rfl,a1,a2,a3⟩:=h.at
 unfold maxLen at a2
 have A3:=Lib.hid a3
 clear h a3
 go_enter Tryz.func148,Tryz.ntmps148
 go_wp2_with fail
 go_loopw [8] (fun i wr=> ∃k:Nat,k<=l.length/\i= .int .i64 (k:Int)/\g∉l.take k/\wr=w) (fun i _=>l.length-(intOf i).toNat)
 case atStart=>exact⟨0,by omega,rfl,by simp,rfl⟩
 case round=>
  obtain⟨k,hk,rfl,ht,rfl⟩:=hrel
  have HT:=Lib.hid ht
  clear ht
  by_cases hlt:k<l.length
  ·obtain⟨y,hy⟩: ∃y,l[k]?=some y:=⟨_,List.getElem?_eq_getElem hlt⟩
   obtain⟨b,off,rfl,hc⟩:=A3.out.resolve_left (fun h=>by rw[h]at hlt;simp at hlt)
   have y0:=hc k y hy
   have HY:=Lib.hid hy
   clear hc hy A3
   by_cases he:g=y
   ·subst he
    go_wp2_with fail
    go_ret
    exact⟨k,rfl,⟨fun _=>List.mem_of_getElem? HY.out,fun _=>by omega⟩,rfl⟩
   ·go_wp2_with fail
    go_roundw
    case rel=>
     refine⟨k+1,by omega,by go_num,?_,by first|trivial|rfl⟩
     rw[List.take_add_one,HY.out]
     simp[HT.out,he]
    case measure=>simp[intOf];omega
  ·have hE:g∉l:=by have:=HT.out;rwa[List.take_of_length_le (by omega)]at this
   have HE:=Lib.hid hE
   have e1:k=l.length:=by omega
   subst e1
   go_wp2_with fail
   go_ret
   exact⟨-1,rfl,⟨fun h=>absurd h (by decide),fun h=>absurd h HE.out⟩,rfl⟩
theorem Dq (v:Value)(l:List Int)(g:Int)(w:World)(h:Reads w 1 v (ints l)):Calls Tryz.prog 105 #[v, .int .i64 g] w (fun e w'=>e= .returned (.bool (decide (g∈l)))/\w=w'):=by
 have c:=Xw v l g w h
 obtain⟨pa,ca,rfl,a1,a2,a3⟩:=h.at
 clear h a3
 go_enter Tryz.func105,Tryz.ntmps105
 go_wp2_with fail
 refine c.mono ?_
 rintro e w2 ⟨n,rfl,hn,rfl⟩
 have F:=Lib.hid (show decide (g∈l)=decide (0<=n)from decide_eq_decide.2 hn.symm)
 clear hn
 go_wp2_with fail
 go_ret
 exact⟨jA (by rw[F.out]),rfl⟩
theorem str_eq (a b:ByteArray):(a.toList==b.toList)=decide (a=b):=by rw[<-beq_toListBytes,um]
def ahF (w:World)(l:List ByteArray)(g:ByteArray)(e:Ending)(w':World):Prop:= ∃n:Int,e= .returned (.int .i64 n)/\(0<=n↔g∈l)/\w=w'
theorem Xv (v:Value)(l:List ByteArray)(g:ByteArray)(w:World)(h:Reads w 1 v (strs l)):Calls Tryz.prog 147 #[v, .string g] w (ahF w l g):=by
 obtain⟨pa,ca,rfl,a1,a2,a3⟩:=h.atS
 unfold maxLen at a2
 have A3:=Lib.hid a3
 clear h a3
 go_enter Tryz.func147,Tryz.ntmps147
 go_wp2_with fail
 go_loopw [8] (fun i wr=> ∃k:Nat,k<=l.length/\i= .int .i64 (k:Int)/\g∉l.take k/\wr=w) (fun i _=>l.length-(intOf i).toNat)
 case atStart=>exact⟨0,by omega,rfl,by simp,rfl⟩
 case round=>
  obtain⟨k,hk,rfl,ht,rfl⟩:=hrel
  have HT:=Lib.hid ht
  clear ht
  by_cases hlt:k<l.length
  ·obtain⟨y,hy⟩: ∃y,l[k]?=some y:=⟨_,List.getElem?_eq_getElem hlt⟩
   obtain⟨b,off,rfl,hc⟩:=A3.out.resolve_left (fun h=>by rw[h]at hlt;simp at hlt)
   have y0:=hc k y hy
   have HY:=Lib.hid hy
   clear hc hy A3
   by_cases he:g=y
   ·subst he
    have hse:(g.toList==g.toList)=true:=by simp
    go_wp2_with fail
    go_ret
    exact⟨k,rfl,⟨fun _=>List.mem_of_getElem? HY.out,fun _=>by omega⟩,rfl⟩
   ·have hse:(g.toList==y.toList)=false:=by rw[str_eq,decide_eq_false he]
    go_wp2_with fail
    go_roundw
    case rel=>
     refine⟨k+1,by omega,by go_num,?_,by first|trivial|rfl⟩
     rw[List.take_add_one,HY.out]
     simp[HT.out,he]
    case measure=>simp[intOf];omega
  ·have hE:g∉l:=by have:=HT.out;rwa[List.take_of_length_le (by omega)]at this
   have HE:=Lib.hid hE
   have e1:k=l.length:=by omega
   subst e1
   go_wp2_with fail
   go_ret
   exact⟨-1,rfl,⟨fun h=>absurd h (by decide),fun h=>absurd h HE.out⟩,rfl⟩
theorem OG (v:Value)(l:List ByteArray)(g:ByteArray)(w:World)(h:Reads w 1 v (strs l)):Calls Tryz.prog 104 #[v, .string g] w (fun e w'=>e= .returned (.bool (decide (g∈l)))/\w=w'):=by
 have c:=Xv v l g w h
 obtain⟨pa,ca,rfl,a1,a2,a3⟩:=h.atS
 clear h a3
 go_enter Tryz.func104,Tryz.ntmps104
 go_wp2_with fail
 refine c.mono ?_
 rintro e w2 ⟨n,rfl,hn,rfl⟩
 have F:=Lib.hid (show decide (g∈l)=decide (0<=n)from decide_eq_decide.2 hn.symm)
 clear hn
 go_wp2_with fail
 go_ret
 exact⟨jA (by rw[F.out]),rfl⟩
theorem size3 (w:World):(sizeOf 3).run Tryz.prog w= .ok 1 w:=by kernel_rfl
theorem ahd (w:World):(sizeOf 9).run Tryz.prog w= .ok 1 w:=by kernel_rfl
theorem Jl {α:Type}[DecidableEq α]{l:List α}{k:Nat}{x:α}(hx:l[k]?=some x):(l.take (k+1)).Nodup↔(l.take k).Nodup/\x∉l.take k:=by
 rw[List.take_add_one,hx]
 simp only[Option.toList_some]
 rw[List.nodup_append]
 constructor
 ·rintro⟨h1,_,h2⟩
  exact⟨h1,fun h=>h2 x h x (by simp) rfl⟩
 ·rintro⟨h1,h2⟩
  exact⟨h1,by simp,fun a ha b hb e=>h2 (by rw[List.mem_singleton]at hb;rw[<-hb,<-e];exact ha)⟩
theorem NI {α:Type}{l:List α}{k:Nat}{x:α}(hx:l[k]?=some x)(h:x∈l.take k): ¬l.Nodup:=by
 intro hn
 have h2:=hn.sublist (List.take_sublist (k+1) l)
 rw[List.take_add_one,hx,Option.toList_some,List.nodup_append]at h2
 exact h2.2.2 x h x (by simp) rfl
theorem IB (v:Value)(l:List Int)(w:World)(h:Reads w 1 v (ints l)):Calls Tryz.prog 100 #[v] w (fun e w'=>e= .returned (.bool (!decide l.Nodup))/\w=w'):=by
 have hR:=h
 obtain⟨pa,ca,rfl,a1,a2,a3⟩:=h.at
 have A3:=Lib.hid (And.intro a3 hR)
 clear a3 hR
 have hlen:l.length<=9223372036854775807:=by unfold maxLen at a2;omega
 go_enter Tryz.func100,Tryz.ntmps100
 go_wp2_with fail
 go_loopg [7] l.length (fun m vk wr=> ∃k:Nat,k<=l.length/\m=l.length-k/\vk= .int .i64 (k:Int)/\(l.take k).Nodup/\wr=w)
 case atStart=>exact⟨0,Nat.zero_le _,rfl,rfl,by simp,rfl⟩
 case round=>
  obtain⟨k,hk,hm,rfl,ht,rfl⟩:=hrel
  have HT:=Lib.hid (And.intro ht hm)
  clear ht hm
  by_cases hlt:k<l.length
  ·obtain⟨y,hy⟩: ∃y,l[k]?=some y:=⟨_,List.getElem?_eq_getElem hlt⟩
   obtain⟨b,off,rfl,hc⟩:=A3.out.1.resolve_left (fun h=>by rw[h]at hlt;simp at hlt)
   have y0:=hc k y hy
   have hsl:=DF (P:=Tryz.prog) (w:=wr) (a:=some ⟨b,off,none⟩) (n:=l.length) (cap:=ca) (i:=k) Tryz.underlying74 (size3 wr) (by omega) a1
   have hrd:=Reads.take A3.out.2 (i:=k) (by omega)
   have Rn:Reads wr 1 (.slice (some ⟨b,off,none⟩) k ca) (ints (l.take k)):=by
    have:(ints l).take (k*1)=ints (l.take k):=by rw[Nat.mul_one];unfold ints;rw[List.map_take]
    rwa[this]at hrd
   have cc:=Dq _ (l.take k) y wr Rn
   have HY:=Lib.hid hy
   clear hc hy A3 hrd Rn
   by_cases hm:y∈l.take k
   ·have e1:decide (y∈l.take k)=true:=decide_eq_true hm
    rw[e1]at cc
    have F:=Lib.hid (NI HY.out hm)
    clear hm e1
    go_wp2_with (go_at_call 105;refine cc.mono ?_;rintro e w' ⟨rfl,rfl⟩)
    go_ret
    exact⟨jA (by rw[decide_eq_false F.out];rfl),rfl⟩
   ·have e1:decide (y∈l.take k)=false:=decide_eq_false hm
    rw[e1]at cc
    have F:=Lib.hid ((Jl HY.out).2 ⟨HT.out.1,hm⟩)
    clear hm e1
    go_wp2_with (go_at_call 105;refine cc.mono ?_;rintro e w' ⟨rfl,rfl⟩)
    go_roundg (l.length-(k+1))
    case rel=>exact⟨k+1,by omega,rfl,by go_num,F.out,rfl⟩
    case measure=>have:=HT.out.2;omega
  ·have e1:k=l.length:=by omega
   subst e1
   have F:=Lib.hid (show l.Nodup by have:=HT.out.1;rwa[List.take_length]at this)
   clear HT
   go_wp2_with fail
   go_ret
   exact⟨jA (by rw[decide_eq_true F.out];rfl),rfl⟩
end
section
namespace Sx
open Go Go.RowKit _root_.Go.Proofs.Tryz
set_option maxRecDepth 100000
def iO (l:List Int):List PV:=l.flatMap fun x=>[.int .i64 x]
def y9 (d:JN):List PV:=[.str d.uid, .int .u8 d.kind, .fz d.ins.length (iO d.ins), .int .u8 d.x.op, .int .i64 d.x.n, .fz d.x.args.length (gQ d.x.args), .int .i64 d.n]
theorem kJ (d:JN):(y9 d).length=7:=rfl
def dI (l:List JN):List PV:=l.flatMap y9
@[simp] theorem qy:dI []=[]:=rfl
@[simp] theorem aij:iO []=[]:=rfl
def lS (d:JN):Prop:=d.ins.length<4611686018427387904/\iG d.x/\(∀k∈d.ins,aO k)/\0<=d.kind/\d.kind<=255/\aO d.n/\d.uid.size<=maxLen
def gX (j:Jb):Prop:=j.nodes.length<4611686018427387904/\(∀d∈j.nodes,lS d)/\aO j.par
def uy (a b:List Int):Bool:=decide (a=b)
def eqN (x y:JN):Bool:=decide (x.uid=y.uid)&&decide (x.kind=y.kind)&&decide (x.n=y.n)&&decide (x.ins=y.ins)&&rY x.x y.x
def kV:List JN->List JN->Bool
 |[],[]=>true
 |a::l,b::m=>eqN a b&&kV l m
 |_,_=>false
def o8 (a b:Jb):Bool:=decide (a.par=b.par)&&kV a.nodes b.nodes
theorem H8: ∀{a b:List JN},kV a b=true->a.length=b.length
 |[],[],_=>rfl
 |x::a,y::b,h=>by
  simp only[kV,Bool.and_eq_true]at h
  rw[List.length_cons,List.length_cons,H8 h.2]
 |[],_::_,h=>by cases h
 |_::_,[],h=>by cases h
theorem Eu: ∀{a b:List JN}{k:Nat}{x y:JN},a[k]?=some x->b[k]?=some y->kV (a.take (k+1)) (b.take (k+1))=(kV (a.take k) (b.take k)&&eqN x y)
 |[],_,_,_,_,h,_=>by simp at h
 |_::_,[],_,_,_,_,h=>by simp at h
 |u::a,v::b,0,x,y,h1,h2=>by
  simp at h1 h2;subst h1 h2
  simp[kV]
 |u::a,v::b,k+1,x,y,h1,h2=>by
  have:=Eu (a:=a) (b:=b) (k:=k) (by simpa using h1) (by simpa using h2)
  simp only[List.take_succ_cons,kV]at this⊢
  rw[this,Bool.and_assoc]
theorem VE {a b:List JN}{k:Nat}{x y:JN}(h1:a[k]?=some x)(h2:b[k]?=some y)(h:eqN x y=false):kV a b=false:=by
 induction a generalizing b k with
 |nil=>simp at h1
 |cons u a ih=>cases b with
  |nil=>rfl
  |cons v b=>cases k with
   |zero=>simp at h1 h2;subst h1 h2;simp[kV,h]
   |succ k=>simp only[kV];rw[ih (by simpa using h1) (by simpa using h2),Bool.and_false]
theorem take_snoc {a b:List Int}{k:Nat}{x y:Int}(h1:a[k]?=some x)(h2:b[k]?=some y)(h:a.take k=b.take k):a.take (k+1)=b.take (k+1)↔x=y:=by
 rw[List.take_add_one,List.take_add_one,h1,h2,h]
 simp
section
variable (bx:{α:Type}->α->α)
def wU (d:JN):List PV:=[.str (bx d.uid), .int .u8 (bx d.kind), .fz (bx d.ins.length) (bx (iO d.ins)), .int .u8 (bx d.x.op), .int .i64 (bx d.x.n), .fz (bx d.x.args.length) (bx (gQ d.x.args)), .int .i64 (bx d.n)]
def acO (d:JN):AV:= .agg [.p (.str (bx d.uid)), .p (.int .u8 (bx d.kind)), .p (.fz (bx d.ins.length) (bx (iO d.ins))), .p (.int .u8 (bx d.x.op)), .p (.int .i64 (bx d.x.n)), .p (.fz (bx d.x.args.length) (bx (gQ d.x.args))), .p (.int .i64 (bx d.n))]
def jM (j:Jb):AV:= .agg [.p (.int .i64 (bx j.par)), .p (.fz (bx j.nodes.length) (bx (dI j.nodes)))]
end
section
variable {bx:{α:Type}->α->α} (hb: ∀{α:Type}(x:α),bx x=x)
include hb
theorem rJ (d:JN):wU bx d=y9 d:=by simp only[wU,hb,y9]
theorem aiw (a b:List Int)(hl:a.length<4611686018427387904):Ct prog 67 [.c (.p (.fz (bx a.length) (bx (iO a)))), .c (.p (.fz (bx b.length) (bx (iO b))))] [] fun r h=>r= .a (.c (.p (.bool (bx (decide (a=b))))))/\h=[]:=ct hb func67 fun Q hQ K hK=>by
 have no: ∀{H:Hp},a≠b->K (.a (.c (.p .ff))) H:=fun h=>hK _ _ (.a (.c (.p (.bool (bx (decide (a=b))))))) [] (aS [] [] (he:=lF (by rw[hb];exact decide_eq_false h))) ⟨rfl,rfl⟩
 cbv
 refine⟨fun hc=>?_,fun hc=>?_⟩<;>simp only[hb,pl]at hc
 ·cbv
  exact no fun h=>hc (congrArg _ h)
 ·cbv
  refine loop hb (fun k=>k<=a.length/\a.take k=b.take k) (fun k=>a.length-k) (fun k=>[(13, .a (.c (.p (.int .i64 (bx (Int.ofNat k))))))]) (fun _=>[]) 0 ⟨by omega,rfl⟩ (ent [] []) fun k hI=>?_
  cbv
  refine⟨fun hd=>?_,fun hd=>?_⟩<;>simp only[hb,pl]at hd
  ·obtain⟨x,hx⟩: ∃x,a[k]?=some x:=⟨_,List.getElem?_eq_getElem hd⟩
   obtain⟨y,hy⟩: ∃y,b[k]?=some y:=⟨_,List.getElem?_eq_getElem (by omega)⟩
   have hs:=take_snoc hx hy hI.2
   cbv
   refine draw hb hQ eU [] ?_
   cbv
   refine get [.int .i64 (bx x)] (gJ hb (f:=fun x=>[.int .i64 x]) (fun _=>rfl) rfl hx (by rw[hb])) (chk (gK hb hd (by omega)) ?_)
   cbv
   refine get [.int .i64 (bx y)] (gJ hb (f:=fun x=>[.int .i64 x]) (fun _=>rfl) rfl hy (by rw[hb])) (chk (gK hb (by omega) (by omega)) ?_)
   cbv
   refine⟨fun he=>?_,fun he=>?_⟩<;>simp only[hb,pl]at he
   ·cbv
    exact no fun h=>he (hs.1 (by rw[h]))
   ·have hu:=mQ hb (k:=k) (by omega)
    cbv
    exact⟨k+1,⟨by omega,hs.2 he⟩,by omega,ent [] [] (he:=by cbv;(repeat' (first|trivial|rfl|apply And.intro|exact hu)))⟩
  ·cbv
   have hk:k=a.length:=by omega
   have h1:=hI.2
   rw[hk,List.take_of_length_le (Nat.le_refl _),List.take_of_length_le (by omega)]at h1
   exact hK _ _ (.a (.c (.p (.bool (bx (decide (a=b))))))) [] (aS [] [] (he:=vC (by rw[hb];exact decide_eq_true h1))) ⟨rfl,rfl⟩
theorem aeN (x y:JN)(hx:lS x):Ct prog 66 [acO bx x,acO bx y] [] fun r h=>r= .a (.c (.p (.bool (bx (eqN x y)))))/\h=[]:=ct hb func66 fun Q hQ K hK=>by
 have no: ∀{H:Hp},eqN x y=false->K (.a (.c (.p .ff))) H:=fun h=>hK _ _ (.a (.c (.p (.bool (bx (eqN x y)))))) [] (aS [] [] (he:=lF (by rw[hb];exact h))) ⟨rfl,rfl⟩
 have e:eqN x y=(decide (x.uid=y.uid)&&decide (x.kind=y.kind)&&decide (x.n=y.n)&&decide (x.ins=y.ins)&&rY x.x y.x):=rfl
 cbv
 refine⟨fun h1=>?_,fun h1=>?_⟩<;>simp only[hb,str_eq,pl]at h1
 ·cbv
  refine⟨fun h2=>?_,fun h2=>?_⟩<;>simp only[hb,pl]at h2
  ·cbv
   refine⟨fun h3=>?_,fun h3=>?_⟩<;>simp only[hb,pl]at h3
   ·cbv
    refine call hQ (aiw hb x.ins y.ins hx.1) [] ?_
    rintro _ _ ⟨rfl,rfl⟩
    cbv
    refine⟨fun h4=>?_,fun h4=>?_⟩<;>simp only[hb,pl]at h4
    ·cbv
     refine call hQ (YA hb x.x y.x hx.2.1) [] ?_
     rintro _ _ ⟨rfl,rfl⟩
     cbv
     exact hK _ _ (.a (.c (.p (.bool (bx (eqN x y)))))) [] (aS [] [] (he:=vF (by simp[hb,e,h1,h2,h3,h4]))) ⟨rfl,rfl⟩
    ·cbv
     exact no (by simp[e,h4])
   ·cbv
    exact no (by simp[e,h3])
  ·cbv
   exact no (by simp[e,h2])
 ·cbv
  exact no (by simp[e,h1])
theorem ahw (a b:List JN)(hl:a.length<4611686018427387904)(hf: ∀d∈a,lS d):Ct prog 65 [.c (.p (.fz (bx a.length) (bx (dI a)))), .c (.p (.fz (bx b.length) (bx (dI b)))), .c (.p (.fn 66))] [] fun r h=>r= .a (.c (.p (.bool (bx (kV a b)))))/\h=[]:=ct hb func65 fun Q hQ K hK=>by
 have no: ∀{H:Hp},kV a b=false->K (.a (.c (.p .ff))) H:=fun h=>hK _ _ (.a (.c (.p (.bool (bx (kV a b)))))) [] (aS [] [] (he:=lF (by rw[hb];exact h))) ⟨rfl,rfl⟩
 cbv
 refine⟨fun hc=>?_,fun hc=>?_⟩<;>simp only[hb,pl]at hc
 ·cbv
  exact no (by rw[<-Bool.not_eq_true];exact fun h=>hc (H8 h))
 ·cbv
  refine loop hb (fun k=>k<=a.length/\kV (a.take k) (b.take k)=true) (fun k=>a.length-k) (fun k=>[(17, .a (.c (.p (.int .i64 (bx (Int.ofNat k))))))]) (fun _=>[]) 0 ⟨by omega,rfl⟩ (ent [] []) fun k hI=>?_
  cbv
  refine⟨fun hd=>?_,fun hd=>?_⟩<;>simp only[hb,pl]at hd
  ·obtain⟨x,hx⟩: ∃x,a[k]?=some x:=⟨_,List.getElem?_eq_getElem hd⟩
   obtain⟨y,hy⟩: ∃y,b[k]?=some y:=⟨_,List.getElem?_eq_getElem (by omega)⟩
   cbv
   refine get (wU bx x) (gJ hb kJ rfl hx (rJ hb x)) (chk (gK hb hd (by omega)) ?_)
   cbv
   refine get (wU bx y) (gJ hb kJ rfl hy (rJ hb y)) (chk (gK hb (by omega) (by omega)) ?_)
   cbv
   refine call hQ (aeN hb x y (hf x (List.mem_of_getElem? hx))) [] ?_
   rintro _ _ ⟨rfl,rfl⟩
   cbv
   refine⟨fun he=>?_,fun he=>?_⟩<;>simp only[hb,pl]at he
   ·cbv
    exact no (VE hx hy he)
   ·have hu:=mQ hb (k:=k) (by omega)
    cbv
    exact⟨k+1,⟨by omega,by rw[Eu hx hy,hI.2,he];rfl⟩,by omega,ent [] [] (he:=by cbv;(repeat' (first|trivial|rfl|apply And.intro|exact hu)))⟩
  ·cbv
   have hk:k=a.length:=by omega
   have h1:=hI.2
   rw[hk,List.take_of_length_le (Nat.le_refl _),List.take_of_length_le (by omega)]at h1
   exact hK _ _ (.a (.c (.p (.bool (bx (kV a b)))))) [] (aS [] [] (he:=vC (by rw[hb];exact h1))) ⟨rfl,rfl⟩
theorem YB (a b:Jb)(hf:gX a):Ct prog 31 [jM bx a,jM bx b] [] fun r h=>r= .a (.c (.p (.bool (bx (o8 a b)))))/\h=[]:=ct hb func31 fun Q hQ K hK=>by
 have e:o8 a b=(decide (a.par=b.par)&&kV a.nodes b.nodes):=rfl
 cbv
 refine⟨fun h1=>?_,fun h1=>?_⟩<;>simp only[hb,pl]at h1
 ·cbv
  refine call hQ (ahw hb a.nodes b.nodes hf.1 hf.2.1) [] ?_
  rintro _ _ ⟨rfl,rfl⟩
  cbv
  exact hK _ _ (.a (.c (.p (.bool (bx (o8 a b)))))) [] (aS [] [] (he:=vF (by simp[hb,e,h1]))) ⟨rfl,rfl⟩
 ·cbv
  exact hK _ _ (.a (.c (.p (.bool (bx (o8 a b)))))) [] (aS [] [] (he:=lF (by simp[hb,e,h1]))) ⟨rfl,rfl⟩
end
end Sx
end
section
open Go
section
variable {P:Program} {ops:Array Oper} {md:Region.Mode} {C:World->Prop}
def ae2:Op->Bool
 | .move _| .assign _| .pick .. | .build .. | .binOp .. | .unOp .. | .convert .. | .fieldAddr .. | .field .. | .indexAddr .. | .extract .. =>true
 |_=>false
def Xz:Op->Bool
 | .store .. =>true
 |_=>false
def adF (o:Op):Bool:=floats o&&!ae2 o
theorem OD (listed:Array Bool)(j:Nat):(listed.setIfInBounds j true).getD j true=true:=by
 rw[Array.getD_eq_getD_getElem?,Array.getElem?_setIfInBounds]
 by_cases h:j<listed.size
 ·simp[h]
 ·simp[h]
theorem getD_set_true (listed:Array Bool)(j i:Nat)(h:listed.getD i true=true):(listed.setIfInBounds j true).getD i true=true:=by
 by_cases e:j=i
 ·subst e
  exact OD _ _
 ·rw[getD_set_ne true e];exact h
def aeh (C:World->Prop)(o:Oper)(w:World):Prop:=adF o.op=true->C w
def Ur (P:Program)(ops:Array Oper)(C:World->Prop)(Q:Act->World->Prop):Bool->List Oper->Act->World->Prop
 |L9,[],a,w=>(L9=true->C w)/\Q a w
 |L9,o::rest,a,w=>
  if Region.wanted o (yielded ops a.tmps)then
   if floats o.op then∃v,(∀w',aeh C o w'->(execOp a.eval o).run P w'= .ok (.value v) w')/\Ur P ops C Q L9 rest (a.put o.dst v) w
   else o.wp P a w (fun a' w'=>((L9&&!Xz o.op)=true->C w')/\Ur P ops C Q (L9&&!Xz o.op) rest a' w') (mX Q)
  else Ur P ops C Q (L9&&!Xz o.op) rest (a.put o.dst undef) w
end
end
end Go.Proofs.YtakhobfamnjnoaaGreatDoor
