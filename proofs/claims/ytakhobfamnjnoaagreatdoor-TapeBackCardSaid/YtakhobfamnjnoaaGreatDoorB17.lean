/- Symbolic runs: what is the same. -/
import Derived.Test.YtakhobfamnjnoaaGreatDoorB16
import Derived.Sort.Walk7a
set_option linter.unusedVariables false
set_option linter.unusedSimpArgs false
set_option maxHeartbeats 1000000
set_option maxRecDepth 100000
namespace Go.Proofs.YtakhobfamnjnoaaGreatDoor
section
namespace Sx
open Go Go.RowKit _root_.Go.Proofs.Tryz
set_option maxRecDepth 100000
mutual
def zQ:Ex->List PV
 | .mk op n args=>[.int .u8 op, .int .i64 n, .fz args.length (iV args)]
def iV:List Ex->List PV
 |[]=>[]
 |x::l=>zQ x++iV l
end
mutual
def wC:Ex->Ex->Bool
 | .mk o n a, .mk p m b=>decide (o=p)&&decide (n=m)&&kP a b
def kP:List Ex->List Ex->Bool
 |[],[]=>true
 |a::l,b::m=>wC a b&&kP l m
 |_,_=>false
end
mutual
def iO:Ex->Prop
 | .mk op n args=>0<=op/\op<=255/\aS n/\args.length<4611686018427387904/\rX args
def rX:List Ex->Prop
 |[]=>True
 |x::l=>iO x/\rX l
end
theorem qg {x:Ex}: ∀{l:List Ex},rX l->x∈l->iO x
 |_::_,h, .head _=>h.1
 |_::_,h, .tail _ hm=>qg h.2 hm
theorem oV: ∀x:Ex,(zQ x).length=3
 | .mk _ _ _=>by simp[zQ]
theorem oU: ∀l:List Ex,iV l=l.flatMap zQ
 |[]=>rfl
 |x::l=>by rw[iV,oU l];rfl
theorem NR: ∀{a b:List Ex},kP a b=true->a.length=b.length
 |[],[],_=>rfl
 |x::a,y::b,h=>by
  simp only[kP,Bool.and_eq_true]at h
  rw[List.length_cons,List.length_cons,NR h.2]
 |[],_::_,h=>by cases h
 |_::_,[],h=>by cases h
theorem Jv: ∀{a b:List Ex}{k:Nat}{x y:Ex},a[k]?=some x->b[k]?=some y->kP (a.take (k+1)) (b.take (k+1))=(kP (a.take k) (b.take k)&&wC x y)
 |[],_,_,_,_,h,_=>by simp at h
 |_::_,[],_,_,_,_,h=>by simp at h
 |u::a,v::b,0,x,y,h1,h2=>by
  simp at h1 h2;subst h1 h2
  simp[kP]
 |u::a,v::b,k+1,x,y,h1,h2=>by
  have:=Jv (a:=a) (b:=b) (k:=k) (by simpa using h1) (by simpa using h2)
  simp only[List.take_succ_cons,kP]at this⊢
  rw[this,Bool.and_assoc]
theorem aav {a b:List Ex}{k:Nat}{x y:Ex}(h1:a[k]?=some x)(h2:b[k]?=some y)(h:wC x y=false):kP a b=false:=by
 induction a generalizing b k with
 |nil=>simp at h1
 |cons u a ih=>cases b with
  |nil=>rfl
  |cons v b=>cases k with
   |zero=>simp at h1 h2;subst h1 h2;simp[kP,h]
   |succ k=>simp only[kP];rw[ih (by simpa using h1) (by simpa using h2),Bool.and_false]
section
variable (bx:{α:Type}->α->α)
def QL (x:Ex):List PV:=[.int .u8 (bx x.op), .int .i64 (bx x.n), .fz (bx x.args.length) (bx (iV x.args))]
def AZ (x:Ex):AV:= .agg [.p (.int .u8 (bx x.op)), .p (.int .i64 (bx x.n)), .p (.fz (bx x.args.length) (bx (iV x.args)))]
end
section
variable {bx:{α:Type}->α->α} (hb: ∀{α:Type}(x:α),bx x=x)
include hb
theorem Gh (x:Ex):QL bx x=zQ x:=by
 obtain⟨o,n,a⟩:=x
 simp only[QL,hb,zQ,Ex.op,Ex.n,Ex.args]
theorem acE (a b:List Ex)(hl:a.length<4611686018427387904)(ih: ∀x∈a,∀y,Ct prog 68 [AZ bx x,AZ bx y] [] fun r h=>r= .a (.c (.p (.bool (bx (wC x y)))))/\h=[]):Ct prog 108 [.c (.p (.fz (bx a.length) (bx (iV a)))), .c (.p (.fz (bx b.length) (bx (iV b)))), .c (.p (.fn 68))] [] fun r h=>r= .a (.c (.p (.bool (bx (kP a b)))))/\h=[]:=ct hb func108 fun Q hQ K hK=>by
 cbv
 refine⟨fun hc=>?_,fun hc=>?_⟩<;>simp only[hb,pl]at hc
 ·cbv
  exact hK _ _ (.a (.c (.p (.bool (bx (kP a b)))))) [] (aZ [] [] (he:=ou (by
   rw[hb,<-Bool.not_eq_true]
   exact fun h=>hc (NR h)))) ⟨rfl,rfl⟩
 ·cbv
  refine loop hb (fun k=>k<=a.length/\kP (a.take k) (b.take k)=true) (fun k=>a.length-k) (fun k=>[(17, .a (.c (.p (.int .i64 (bx (Int.ofNat k))))))]) (fun _=>[]) 0 ⟨by omega,rfl⟩ (ent [] []) fun k hI=>?_
  cbv
  refine⟨fun hd=>?_,fun hd=>?_⟩<;>simp only[hb,pl]at hd
  ·obtain⟨x,hx⟩: ∃x,a[k]?=some x:=⟨_,List.getElem?_eq_getElem hd⟩
   obtain⟨y,hy⟩: ∃y,b[k]?=some y:=⟨_,List.getElem?_eq_getElem (by omega)⟩
   cbv
   refine get (QL bx x) (jZ hb oV (oU a) hx (Gh hb x)) (chk (kC hb hd (by omega)) ?_)
   cbv
   refine get (QL bx y) (jZ hb oV (oU b) hy (Gh hb y)) (chk (kC hb (by omega) (by omega)) ?_)
   cbv
   refine call hQ (ih x (List.mem_of_getElem? hx) y) [] ?_
   rintro _ _ ⟨rfl,rfl⟩
   cbv
   refine⟨fun he=>?_,fun he=>?_⟩<;>simp only[hb,pl]at he
   ·cbv
    exact hK _ _ (.a (.c (.p (.bool (bx (kP a b)))))) [] (aZ [] [] (he:=ou (by rw[hb];exact aav hx hy he))) ⟨rfl,rfl⟩
   ·have hu:=uz hb (k:=k) (by omega)
    cbv
    exact⟨k+1,⟨by omega,by rw[Jv hx hy,hI.2,he];rfl⟩,by omega,ent [] [] (he:=by cbv;(repeat' (first|trivial|rfl|apply And.intro|exact hu)))⟩
  ·cbv
   have hk:k=a.length:=by omega
   have h1:=hI.2
   rw[hk,List.take_of_length_le (Nat.le_refl _),List.take_of_length_le (by omega)]at h1
   exact hK _ _ (.a (.c (.p (.bool (bx (kP a b)))))) [] (aZ [] [] (he:=J9 (by rw[hb];exact h1))) ⟨rfl,rfl⟩
omit hb in
theorem acH (x y:Ex):wC x y=(decide (x.op=y.op)&&decide (x.n=y.n)&&kP x.args y.args):=by
 obtain⟨o,n,a⟩:=x
 obtain⟨p,m,b⟩:=y
 rw[wC];rfl
omit hb in
theorem Ii {x z:Ex}(h:z∈x.args):SizeOf.sizeOf z<SizeOf.sizeOf x:=by
 obtain⟨o,n,a⟩:=x
 have:=List.sizeOf_lt_of_mem (show z∈a from h)
 rw[Ex.mk.sizeOf_spec]
 omega
omit hb in
theorem iO.args {x:Ex}(h:iO x):x.args.length<4611686018427387904/\rX x.args:=by
 obtain⟨o,n,a⟩:=x
 obtain⟨_,_,_,h1,h2⟩:=h
 exact⟨h1,h2⟩
theorem UU (x y:Ex)(hx:iO x):Ct prog 68 [AZ bx x,AZ bx y] [] fun r h=>r= .a (.c (.p (.bool (bx (wC x y)))))/\h=[]:=by
 have he:=acH x y
 have c:=acE hb x.args y.args hx.args.1 fun z hz w=>UU z w (qg hx.args.2 hz)
 refine ct hb func68 fun Q hQ K hK=>?_
 have no: ∀{H:Hp},wC x y=false->K (.a (.c (.p .ff))) H:=fun h=>hK _ _ (.a (.c (.p (.bool (bx (wC x y)))))) [] (aZ [] [] (he:=ou (by rw[hb];exact h))) ⟨rfl,rfl⟩
 cbv
 refine⟨fun h1=>?_,fun h1=>?_⟩<;>simp only[hb,pl]at h1
 ·cbv
  refine⟨fun h2=>?_,fun h2=>?_⟩<;>simp only[hb,pl]at h2
  ·cbv
   refine call hQ c [] ?_
   rintro _ _ ⟨rfl,rfl⟩
   cbv
   exact hK _ _ (.a (.c (.p (.bool (bx (wC x y)))))) [] (aZ [] [] (he:=rE (by simp[hb,he,h1,h2]))) ⟨rfl,rfl⟩
  ·cbv
   exact no (by simp[he,h2])
 ·cbv
  exact no (by simp[he,h1])
termination_by SizeOf.sizeOf x
decreasing_by exact Ii hz
end
end Sx
end
section
open Go Go.RowKit
theorem X5 {l:List (Int×Value)}{key:Int}{v:Value}(h:look l key=some v):(key,v)∈l:=by
 unfold look at h
 obtain⟨p,hp,rfl⟩:=Option.map_eq_some_iff.1 h
 have h1:=List.find?_some hp
 have h2:=List.mem_of_find?_eq_some hp
 have:key=p.1:=by simpa using h1
 subst this
 exact h2
theorem qU {l:List Int}{i:Nat}{x:Int}(h:l[i]?=some x):(ints l)[i]?=some (.int .i64 x):=by simp[ints,h]
theorem Reads.at {w:World}{v:Value}{l:List Int}(h:Reads w 1 v (ints l)): ∃a cap,v= .slice a l.length cap/\l.length<=cap/\cap<=maxLen/\(l=[]\/ ∃b off,a=some ⟨b,off,none⟩/\ ∀i x,l[i]?=some x->w.cell? ⟨b,off+i,none⟩=some (.int .i64 x)):=by
 obtain⟨a,n,cap,rfl,h1,h2,h3,h4⟩:=h
 have hn:n=l.length:=by simpa using h3.symm
 subst hn
 refine⟨a,cap,rfl,h1,h2,?_⟩
 rcases h4 with h4|⟨b,off,rfl,h4⟩
 ·left
  have:(ints l).length=0:=by rw[h4];rfl
  rw[OZ]at this
  exact List.eq_nil_of_length_eq_zero this
 ·exact .inr ⟨b,off,rfl,fun i x hx=>h4 i _ (qU hx)⟩
theorem oG {a b:Bool}(h:a=b):Ending.returned (.bool a)= .returned (.bool b):=by rw[h]
section
variable {P:Program} {w:World} {a:Option Addr} {n cap k i:Nat} {cs:List Value} {T E:TypeId}
theorem zZ (hT:P.underlying T=some (.slice E))(hs:(sizeOf E).run P w= .ok k w)(hi:i<=n)(hc:n<=cap):(Instr.slice T (.slice a n cap) none (some (.int .i64 (i:Int))) none).run P w= .ok (.slice a i cap) w:=by
 have hb:(Instr.sliceBounds true n cap none (some (.int .i64 (i:Int))) none).run P w= .ok (0,i,cap) w:=by
  simp[Instr.sliceBounds,Instr.sliceBound,asIntOf]
  intro h;omega
 simp only[Instr.slice,Sem.run_bind,run_underlying hT,Result.andThen_ok,hb,hs,Sem.run_pure]
 cases a with
 |none=>simp
 |some a=>simp[Addr.add]
theorem Reads.take (h:Reads w k (.slice a n cap) cs)(hi:i<=n):Reads w k (.slice a i cap) (cs.take (i*k)):=by
 obtain⟨a',n',cap',e,h1,h2,h3,h4⟩:=h
 cases e
 refine⟨a,i,cap,rfl,by omega,h2,?_,?_⟩
 ·rw[List.length_take,h3]
  exact Nat.min_eq_left (Nat.mul_le_mul_right k hi)
 ·rcases h4 with h4|⟨b,off,rfl,h4⟩
  ·left;rw[h4];simp
  ·right
   refine⟨b,off,rfl,fun j x hx=>h4 j x ?_⟩
   rw[List.getElem?_take]at hx
   split at hx
   ·exact hx
   ·cases hx
theorem Reads.drop (h:Reads w k (.slice a n cap) cs)(hi:i<=n):Reads w k (.slice (if cap=i then a else a.map (·.add (i*k))) (n-i) (cap-i)) (cs.drop (i*k)):=by
 obtain⟨a',n',cap',e,h1,h2,h3,h4⟩:=h
 cases e
 refine⟨_,n-i,cap-i,rfl,by omega,by omega,by rw[List.length_drop,h3,Nat.sub_mul],?_⟩
 rcases h4 with h4|⟨b,off,rfl,h4⟩
 ·left;rw[h4];simp
 ·by_cases hc:cap=i
  ·left
   exact List.drop_eq_nil_of_le (by rw[h3];exact Nat.mul_le_mul_right k (by omega))
  ·right
   refine⟨b,off+i*k,by rw[if_neg hc];simp only[Option.map_some];rw[Addr.add_lit],fun j x hx=>?_⟩
   rw[Nat.add_assoc]
   rw[List.getElem?_drop]at hx
   exact h4 (i*k+j) x hx
end
def strs (l:List ByteArray):List Value:=l.map Value.string
@[simp] theorem OD (l:List ByteArray):(strs l).length=l.length:=by simp[strs]
theorem Reads.atS {w:World}{v:Value}{l:List ByteArray}(h:Reads w 1 v (strs l)): ∃a cap,v= .slice a l.length cap/\l.length<=cap/\cap<=maxLen/\(l=[]\/ ∃b off,a=some ⟨b,off,none⟩/\ ∀i x,l[i]?=some x->w.cell? ⟨b,off+i,none⟩=some (.string x)):=by
 obtain⟨a,n,cap,rfl,h1,h2,h3,h4⟩:=h
 have hn:n=l.length:=by simpa using h3.symm
 subst hn
 refine⟨a,cap,rfl,h1,h2,?_⟩
 rcases h4 with h4|⟨b,off,rfl,h4⟩
 ·left
  have:(strs l).length=0:=by rw[h4];rfl
  rw[OD]at this
  exact List.eq_nil_of_length_eq_zero this
 ·exact .inr ⟨b,off,rfl,fun i x hx=>h4 i _ (by simp[strs,hx])⟩
end
section
open Go Go.RowKit
def aeW (w:World)(l:List Int)(g:Int)(e:Ending)(w':World):Prop:= ∃n:Int,e= .returned (.int .i64 n)/\(0<=n↔g∈l)/\w=w'
theorem Tq (v:Value)(l:List Int)(g:Int)(w:World)(h:Reads w 1 v (ints l)):Calls Tryz.prog 148 #[v, .int .i64 g] w (aeW w l g):=by
 obtain⟨pa,ca,rfl,a1,a2,a3⟩:=h.at
 unfold maxLen at a2
 have A3:=Lib.hid a3
 clear h a3
 go_enter Tryz.func148,Tryz.ntmps148
 go_wp2_with fail
 go_loopw [8] (fun i wr=> ∃k:Nat,k<=l.length/\i= .int .i64 (k:Int)/\g∉l.take k/\wr=w) (fun i _=>l.length-(intOf i).toNat)
 case atStart=>exact⟨0,by omega,rfl,by simp,rfl⟩
 case round=>
  obtain⟨k,hk,rfl,ht,rfl⟩:=hrel
  have HT:=Lib.hid ht
  clear ht
  by_cases hlt:k<l.length
  ·obtain⟨y,hy⟩: ∃y,l[k]?=some y:=⟨_,List.getElem?_eq_getElem hlt⟩
   obtain⟨b,off,rfl,hc⟩:=A3.out.resolve_left (fun h=>by rw[h]at hlt;simp at hlt)
   have y0:=hc k y hy
   have HY:=Lib.hid hy
   clear hc hy A3
   by_cases he:g=y
   ·subst he
    go_wp2_with fail
    go_ret
    exact⟨k,rfl,⟨fun _=>List.mem_of_getElem? HY.out,fun _=>by omega⟩,rfl⟩
   ·go_wp2_with fail
    go_roundw
    case rel=>
     refine⟨k+1,by omega,by go_num,?_,by first|trivial|rfl⟩
     rw[List.take_add_one,HY.out]
     simp[HT.out,he]
    case measure=>simp[intOf];omega
  ·have hE:g∉l:=by have:=HT.out;rwa[List.take_of_length_le (by omega)]at this
   have HE:=Lib.hid hE
   have e1:k=l.length:=by omega
   subst e1
   go_wp2_with fail
   go_ret
   exact⟨-1,rfl,⟨fun h=>absurd h (by decide),fun h=>absurd h HE.out⟩,rfl⟩
theorem zU (v:Value)(l:List Int)(g:Int)(w:World)(h:Reads w 1 v (ints l)):Calls Tryz.prog 105 #[v, .int .i64 g] w (fun e w'=>e= .returned (.bool (decide (g∈l)))/\w=w'):=by
 have c:=Tq v l g w h
 obtain⟨pa,ca,rfl,a1,a2,a3⟩:=h.at
 clear h a3
 go_enter Tryz.func105,Tryz.ntmps105
 go_wp2_with fail
 refine c.mono ?_
 rintro e w2 ⟨n,rfl,hn,rfl⟩
 have F:=Lib.hid (show decide (g∈l)=decide (0<=n)from decide_eq_decide.2 hn.symm)
 clear hn
 go_wp2_with fail
 go_ret
 exact⟨oG (by rw[F.out]),rfl⟩
theorem str_eq (a b:ByteArray):(a.toList==b.toList)=decide (a=b):=by rw[<-beq_toListBytes,su]
def adX (w:World)(l:List ByteArray)(g:ByteArray)(e:Ending)(w':World):Prop:= ∃n:Int,e= .returned (.int .i64 n)/\(0<=n↔g∈l)/\w=w'
theorem Tn (v:Value)(l:List ByteArray)(g:ByteArray)(w:World)(h:Reads w 1 v (strs l)):Calls Tryz.prog 147 #[v, .string g] w (adX w l g):=by
 obtain⟨pa,ca,rfl,a1,a2,a3⟩:=h.atS
 unfold maxLen at a2
 have A3:=Lib.hid a3
 clear h a3
 go_enter Tryz.func147,Tryz.ntmps147
 go_wp2_with fail
 go_loopw [8] (fun i wr=> ∃k:Nat,k<=l.length/\i= .int .i64 (k:Int)/\g∉l.take k/\wr=w) (fun i _=>l.length-(intOf i).toNat)
 case atStart=>exact⟨0,by omega,rfl,by simp,rfl⟩
 case round=>
  obtain⟨k,hk,rfl,ht,rfl⟩:=hrel
  have HT:=Lib.hid ht
  clear ht
  by_cases hlt:k<l.length
  ·obtain⟨y,hy⟩: ∃y,l[k]?=some y:=⟨_,List.getElem?_eq_getElem hlt⟩
   obtain⟨b,off,rfl,hc⟩:=A3.out.resolve_left (fun h=>by rw[h]at hlt;simp at hlt)
   have y0:=hc k y hy
   have HY:=Lib.hid hy
   clear hc hy A3
   by_cases he:g=y
   ·subst he
    have hse:(g.toList==g.toList)=true:=by simp
    go_wp2_with fail
    go_ret
    exact⟨k,rfl,⟨fun _=>List.mem_of_getElem? HY.out,fun _=>by omega⟩,rfl⟩
   ·have hse:(g.toList==y.toList)=false:=by rw[str_eq,decide_eq_false he]
    go_wp2_with fail
    go_roundw
    case rel=>
     refine⟨k+1,by omega,by go_num,?_,by first|trivial|rfl⟩
     rw[List.take_add_one,HY.out]
     simp[HT.out,he]
    case measure=>simp[intOf];omega
  ·have hE:g∉l:=by have:=HT.out;rwa[List.take_of_length_le (by omega)]at this
   have HE:=Lib.hid hE
   have e1:k=l.length:=by omega
   subst e1
   go_wp2_with fail
   go_ret
   exact⟨-1,rfl,⟨fun h=>absurd h (by decide),fun h=>absurd h HE.out⟩,rfl⟩
theorem JW (v:Value)(l:List ByteArray)(g:ByteArray)(w:World)(h:Reads w 1 v (strs l)):Calls Tryz.prog 104 #[v, .string g] w (fun e w'=>e= .returned (.bool (decide (g∈l)))/\w=w'):=by
 have c:=Tn v l g w h
 obtain⟨pa,ca,rfl,a1,a2,a3⟩:=h.atS
 clear h a3
 go_enter Tryz.func104,Tryz.ntmps104
 go_wp2_with fail
 refine c.mono ?_
 rintro e w2 ⟨n,rfl,hn,rfl⟩
 have F:=Lib.hid (show decide (g∈l)=decide (0<=n)from decide_eq_decide.2 hn.symm)
 clear hn
 go_wp2_with fail
 go_ret
 exact⟨oG (by rw[F.out]),rfl⟩
theorem size3 (w:World):(sizeOf 3).run Tryz.prog w= .ok 1 w:=by kernel_rfl
theorem adx (w:World):(sizeOf 9).run Tryz.prog w= .ok 1 w:=by kernel_rfl
theorem EU {α:Type}[DecidableEq α]{l:List α}{k:Nat}{x:α}(hx:l[k]?=some x):(l.take (k+1)).Nodup↔(l.take k).Nodup/\x∉l.take k:=by
 rw[List.take_add_one,hx]
 simp only[Option.toList_some]
 rw[List.nodup_append]
 constructor
 ·rintro⟨h1,_,h2⟩
  exact⟨h1,fun h=>h2 x h x (by simp) rfl⟩
 ·rintro⟨h1,h2⟩
  exact⟨h1,by simp,fun a ha b hb e=>h2 (by rw[List.mem_singleton]at hb;rw[<-hb,<-e];exact ha)⟩
theorem Jf {α:Type}{l:List α}{k:Nat}{x:α}(hx:l[k]?=some x)(h:x∈l.take k): ¬l.Nodup:=by
 intro hn
 have h2:=hn.sublist (List.take_sublist (k+1) l)
 rw[List.take_add_one,hx,Option.toList_some,List.nodup_append]at h2
 exact h2.2.2 x h x (by simp) rfl
theorem Es (v:Value)(l:List Int)(w:World)(h:Reads w 1 v (ints l)):Calls Tryz.prog 100 #[v] w (fun e w'=>e= .returned (.bool (!decide l.Nodup))/\w=w'):=by
 have hR:=h
 obtain⟨pa,ca,rfl,a1,a2,a3⟩:=h.at
 have A3:=Lib.hid (And.intro a3 hR)
 clear a3 hR
 have hlen:l.length<=9223372036854775807:=by unfold maxLen at a2;omega
 go_enter Tryz.func100,Tryz.ntmps100
 go_wp2_with fail
 go_loopg [7] l.length (fun m vk wr=> ∃k:Nat,k<=l.length/\m=l.length-k/\vk= .int .i64 (k:Int)/\(l.take k).Nodup/\wr=w)
 case atStart=>exact⟨0,Nat.zero_le _,rfl,rfl,by simp,rfl⟩
 case round=>
  obtain⟨k,hk,hm,rfl,ht,rfl⟩:=hrel
  have HT:=Lib.hid (And.intro ht hm)
  clear ht hm
  by_cases hlt:k<l.length
  ·obtain⟨y,hy⟩: ∃y,l[k]?=some y:=⟨_,List.getElem?_eq_getElem hlt⟩
   obtain⟨b,off,rfl,hc⟩:=A3.out.1.resolve_left (fun h=>by rw[h]at hlt;simp at hlt)
   have y0:=hc k y hy
   have hsl:=zZ (P:=Tryz.prog) (w:=wr) (a:=some ⟨b,off,none⟩) (n:=l.length) (cap:=ca) (i:=k) Tryz.underlying74 (size3 wr) (by omega) a1
   have hrd:=Reads.take A3.out.2 (i:=k) (by omega)
   have Nq:Reads wr 1 (.slice (some ⟨b,off,none⟩) k ca) (ints (l.take k)):=by
    have:(ints l).take (k*1)=ints (l.take k):=by rw[Nat.mul_one];unfold ints;rw[List.map_take]
    rwa[this]at hrd
   have cc:=zU _ (l.take k) y wr Nq
   have HY:=Lib.hid hy
   clear hc hy A3 hrd Nq
   by_cases hm:y∈l.take k
   ·have e1:decide (y∈l.take k)=true:=decide_eq_true hm
    rw[e1]at cc
    have F:=Lib.hid (Jf HY.out hm)
    clear hm e1
    go_wp2_with (go_at_call 105;refine cc.mono ?_;rintro e w' ⟨rfl,rfl⟩)
    go_ret
    exact⟨oG (by rw[decide_eq_false F.out];rfl),rfl⟩
   ·have e1:decide (y∈l.take k)=false:=decide_eq_false hm
    rw[e1]at cc
    have F:=Lib.hid ((EU HY.out).2 ⟨HT.out.1,hm⟩)
    clear hm e1
    go_wp2_with (go_at_call 105;refine cc.mono ?_;rintro e w' ⟨rfl,rfl⟩)
    go_roundg (l.length-(k+1))
    case rel=>exact⟨k+1,by omega,rfl,by go_num,F.out,rfl⟩
    case measure=>have:=HT.out.2;omega
  ·have e1:k=l.length:=by omega
   subst e1
   have F:=Lib.hid (show l.Nodup by have:=HT.out.1;rwa[List.take_length]at this)
   clear HT
   go_wp2_with fail
   go_ret
   exact⟨oG (by rw[decide_eq_true F.out];rfl),rfl⟩
end
section
namespace Sx
open Go Go.RowKit _root_.Go.Proofs.Tryz
set_option maxRecDepth 100000
def l9 (l:List Int):List PV:=l.flatMap fun x=>[.int .i64 x]
def wo (d:JN):List PV:=[.str d.uid, .int .u8 d.kind, .fz d.ins.length (l9 d.ins), .int .u8 d.x.op, .int .i64 d.x.n, .fz d.x.args.length (iV d.x.args), .int .i64 d.n]
theorem mQ (d:JN):(wo d).length=7:=rfl
def dO (l:List JN):List PV:=l.flatMap wo
@[simp] theorem yR:dO []=[]:=rfl
@[simp] theorem aeF:l9 []=[]:=rfl
def kG (d:JN):Prop:=d.ins.length<4611686018427387904/\iO d.x/\(∀k∈d.ins,aS k)/\0<=d.kind/\d.kind<=255/\aS d.n/\d.uid.size<=maxLen
def gK (j:Jb):Prop:=j.nodes.length<4611686018427387904/\(∀d∈j.nodes,kG d)/\aS j.par
def qC (a b:List Int):Bool:=decide (a=b)
def eqN (x y:JN):Bool:=decide (x.uid=y.uid)&&decide (x.kind=y.kind)&&decide (x.n=y.n)&&decide (x.ins=y.ins)&&wC x.x y.x
def kQ:List JN->List JN->Bool
 |[],[]=>true
 |a::l,b::m=>eqN a b&&kQ l m
 |_,_=>false
def zS (a b:Jb):Bool:=decide (a.par=b.par)&&kQ a.nodes b.nodes
theorem NT: ∀{a b:List JN},kQ a b=true->a.length=b.length
 |[],[],_=>rfl
 |x::a,y::b,h=>by
  simp only[kQ,Bool.and_eq_true]at h
  rw[List.length_cons,List.length_cons,NT h.2]
 |[],_::_,h=>by cases h
 |_::_,[],h=>by cases h
theorem Jz: ∀{a b:List JN}{k:Nat}{x y:JN},a[k]?=some x->b[k]?=some y->kQ (a.take (k+1)) (b.take (k+1))=(kQ (a.take k) (b.take k)&&eqN x y)
 |[],_,_,_,_,h,_=>by simp at h
 |_::_,[],_,_,_,_,h=>by simp at h
 |u::a,v::b,0,x,y,h1,h2=>by
  simp at h1 h2;subst h1 h2
  simp[kQ]
 |u::a,v::b,k+1,x,y,h1,h2=>by
  have:=Jz (a:=a) (b:=b) (k:=k) (by simpa using h1) (by simpa using h2)
  simp only[List.take_succ_cons,kQ]at this⊢
  rw[this,Bool.and_assoc]
theorem aaw {a b:List JN}{k:Nat}{x y:JN}(h1:a[k]?=some x)(h2:b[k]?=some y)(h:eqN x y=false):kQ a b=false:=by
 induction a generalizing b k with
 |nil=>simp at h1
 |cons u a ih=>cases b with
  |nil=>rfl
  |cons v b=>cases k with
   |zero=>simp at h1 h2;subst h1 h2;simp[kQ,h]
   |succ k=>simp only[kQ];rw[ih (by simpa using h1) (by simpa using h2),Bool.and_false]
theorem take_snoc {a b:List Int}{k:Nat}{x y:Int}(h1:a[k]?=some x)(h2:b[k]?=some y)(h:a.take k=b.take k):a.take (k+1)=b.take (k+1)↔x=y:=by
 rw[List.take_add_one,List.take_add_one,h1,h2,h]
 simp
section
variable (bx:{α:Type}->α->α)
def BL (d:JN):List PV:=[.str (bx d.uid), .int .u8 (bx d.kind), .fz (bx d.ins.length) (bx (l9 d.ins)), .int .u8 (bx d.x.op), .int .i64 (bx d.x.n), .fz (bx d.x.args.length) (bx (iV d.x.args)), .int .i64 (bx d.n)]
def Zc (d:JN):AV:= .agg [.p (.str (bx d.uid)), .p (.int .u8 (bx d.kind)), .p (.fz (bx d.ins.length) (bx (l9 d.ins))), .p (.int .u8 (bx d.x.op)), .p (.int .i64 (bx d.x.n)), .p (.fz (bx d.x.args.length) (bx (iV d.x.args))), .p (.int .i64 (bx d.n))]
def qR (j:Jb):AV:= .agg [.p (.int .i64 (bx j.par)), .p (.fz (bx j.nodes.length) (bx (dO j.nodes)))]
end
section
variable {bx:{α:Type}->α->α} (hb: ∀{α:Type}(x:α),bx x=x)
include hb
theorem yT (d:JN):BL bx d=wo d:=by simp only[BL,hb,wo]
theorem aeR (a b:List Int)(hl:a.length<4611686018427387904):Ct prog 67 [.c (.p (.fz (bx a.length) (bx (l9 a)))), .c (.p (.fz (bx b.length) (bx (l9 b))))] [] fun r h=>r= .a (.c (.p (.bool (bx (decide (a=b))))))/\h=[]:=ct hb func67 fun Q hQ K hK=>by
 have no: ∀{H:Hp},a≠b->K (.a (.c (.p .ff))) H:=fun h=>hK _ _ (.a (.c (.p (.bool (bx (decide (a=b))))))) [] (aZ [] [] (he:=ou (by rw[hb];exact decide_eq_false h))) ⟨rfl,rfl⟩
 cbv
 refine⟨fun hc=>?_,fun hc=>?_⟩<;>simp only[hb,pl]at hc
 ·cbv
  exact no fun h=>hc (congrArg _ h)
 ·cbv
  refine loop hb (fun k=>k<=a.length/\a.take k=b.take k) (fun k=>a.length-k) (fun k=>[(13, .a (.c (.p (.int .i64 (bx (Int.ofNat k))))))]) (fun _=>[]) 0 ⟨by omega,rfl⟩ (ent [] []) fun k hI=>?_
  cbv
  refine⟨fun hd=>?_,fun hd=>?_⟩<;>simp only[hb,pl]at hd
  ·obtain⟨x,hx⟩: ∃x,a[k]?=some x:=⟨_,List.getElem?_eq_getElem hd⟩
   obtain⟨y,hy⟩: ∃y,b[k]?=some y:=⟨_,List.getElem?_eq_getElem (by omega)⟩
   have hs:=take_snoc hx hy hI.2
   cbv
   refine draw hb hQ iW [] ?_
   cbv
   refine get [.int .i64 (bx x)] (jZ hb (f:=fun x=>[.int .i64 x]) (fun _=>rfl) rfl hx (by rw[hb])) (chk (kC hb hd (by omega)) ?_)
   cbv
   refine get [.int .i64 (bx y)] (jZ hb (f:=fun x=>[.int .i64 x]) (fun _=>rfl) rfl hy (by rw[hb])) (chk (kC hb (by omega) (by omega)) ?_)
   cbv
   refine⟨fun he=>?_,fun he=>?_⟩<;>simp only[hb,pl]at he
   ·cbv
    exact no fun h=>he (hs.1 (by rw[h]))
   ·have hu:=uz hb (k:=k) (by omega)
    cbv
    exact⟨k+1,⟨by omega,hs.2 he⟩,by omega,ent [] [] (he:=by cbv;(repeat' (first|trivial|rfl|apply And.intro|exact hu)))⟩
  ·cbv
   have hk:k=a.length:=by omega
   have h1:=hI.2
   rw[hk,List.take_of_length_le (Nat.le_refl _),List.take_of_length_le (by omega)]at h1
   exact hK _ _ (.a (.c (.p (.bool (bx (decide (a=b))))))) [] (aZ [] [] (he:=J9 (by rw[hb];exact decide_eq_true h1))) ⟨rfl,rfl⟩
theorem aa9 (x y:JN)(hx:kG x):Ct prog 66 [Zc bx x,Zc bx y] [] fun r h=>r= .a (.c (.p (.bool (bx (eqN x y)))))/\h=[]:=ct hb func66 fun Q hQ K hK=>by
 have no: ∀{H:Hp},eqN x y=false->K (.a (.c (.p .ff))) H:=fun h=>hK _ _ (.a (.c (.p (.bool (bx (eqN x y)))))) [] (aZ [] [] (he:=ou (by rw[hb];exact h))) ⟨rfl,rfl⟩
 have e:eqN x y=(decide (x.uid=y.uid)&&decide (x.kind=y.kind)&&decide (x.n=y.n)&&decide (x.ins=y.ins)&&wC x.x y.x):=rfl
 cbv
 refine⟨fun h1=>?_,fun h1=>?_⟩<;>simp only[hb,str_eq,pl]at h1
 ·cbv
  refine⟨fun h2=>?_,fun h2=>?_⟩<;>simp only[hb,pl]at h2
  ·cbv
   refine⟨fun h3=>?_,fun h3=>?_⟩<;>simp only[hb,pl]at h3
   ·cbv
    refine call hQ (aeR hb x.ins y.ins hx.1) [] ?_
    rintro _ _ ⟨rfl,rfl⟩
    cbv
    refine⟨fun h4=>?_,fun h4=>?_⟩<;>simp only[hb,pl]at h4
    ·cbv
     refine call hQ (UU hb x.x y.x hx.2.1) [] ?_
     rintro _ _ ⟨rfl,rfl⟩
     cbv
     exact hK _ _ (.a (.c (.p (.bool (bx (eqN x y)))))) [] (aZ [] [] (he:=rE (by simp[hb,e,h1,h2,h3,h4]))) ⟨rfl,rfl⟩
    ·cbv
     exact no (by simp[e,h4])
   ·cbv
    exact no (by simp[e,h3])
  ·cbv
   exact no (by simp[e,h2])
 ·cbv
  exact no (by simp[e,h1])
theorem adO (a b:List JN)(hl:a.length<4611686018427387904)(hf: ∀d∈a,kG d):Ct prog 65 [.c (.p (.fz (bx a.length) (bx (dO a)))), .c (.p (.fz (bx b.length) (bx (dO b)))), .c (.p (.fn 66))] [] fun r h=>r= .a (.c (.p (.bool (bx (kQ a b)))))/\h=[]:=ct hb func65 fun Q hQ K hK=>by
 have no: ∀{H:Hp},kQ a b=false->K (.a (.c (.p .ff))) H:=fun h=>hK _ _ (.a (.c (.p (.bool (bx (kQ a b)))))) [] (aZ [] [] (he:=ou (by rw[hb];exact h))) ⟨rfl,rfl⟩
 cbv
 refine⟨fun hc=>?_,fun hc=>?_⟩<;>simp only[hb,pl]at hc
 ·cbv
  exact no (by rw[<-Bool.not_eq_true];exact fun h=>hc (NT h))
 ·cbv
  refine loop hb (fun k=>k<=a.length/\kQ (a.take k) (b.take k)=true) (fun k=>a.length-k) (fun k=>[(17, .a (.c (.p (.int .i64 (bx (Int.ofNat k))))))]) (fun _=>[]) 0 ⟨by omega,rfl⟩ (ent [] []) fun k hI=>?_
  cbv
  refine⟨fun hd=>?_,fun hd=>?_⟩<;>simp only[hb,pl]at hd
  ·obtain⟨x,hx⟩: ∃x,a[k]?=some x:=⟨_,List.getElem?_eq_getElem hd⟩
   obtain⟨y,hy⟩: ∃y,b[k]?=some y:=⟨_,List.getElem?_eq_getElem (by omega)⟩
   cbv
   refine get (BL bx x) (jZ hb mQ rfl hx (yT hb x)) (chk (kC hb hd (by omega)) ?_)
   cbv
   refine get (BL bx y) (jZ hb mQ rfl hy (yT hb y)) (chk (kC hb (by omega) (by omega)) ?_)
   cbv
   refine call hQ (aa9 hb x y (hf x (List.mem_of_getElem? hx))) [] ?_
   rintro _ _ ⟨rfl,rfl⟩
   cbv
   refine⟨fun he=>?_,fun he=>?_⟩<;>simp only[hb,pl]at he
   ·cbv
    exact no (aaw hx hy he)
   ·have hu:=uz hb (k:=k) (by omega)
    cbv
    exact⟨k+1,⟨by omega,by rw[Jz hx hy,hI.2,he];rfl⟩,by omega,ent [] [] (he:=by cbv;(repeat' (first|trivial|rfl|apply And.intro|exact hu)))⟩
  ·cbv
   have hk:k=a.length:=by omega
   have h1:=hI.2
   rw[hk,List.take_of_length_le (Nat.le_refl _),List.take_of_length_le (by omega)]at h1
   exact hK _ _ (.a (.c (.p (.bool (bx (kQ a b)))))) [] (aZ [] [] (he:=J9 (by rw[hb];exact h1))) ⟨rfl,rfl⟩
theorem UW (a b:Jb)(hf:gK a):Ct prog 31 [qR bx a,qR bx b] [] fun r h=>r= .a (.c (.p (.bool (bx (zS a b)))))/\h=[]:=ct hb func31 fun Q hQ K hK=>by
 have e:zS a b=(decide (a.par=b.par)&&kQ a.nodes b.nodes):=rfl
 cbv
 refine⟨fun h1=>?_,fun h1=>?_⟩<;>simp only[hb,pl]at h1
 ·cbv
  refine call hQ (adO hb a.nodes b.nodes hf.1 hf.2.1) [] ?_
  rintro _ _ ⟨rfl,rfl⟩
  cbv
  exact hK _ _ (.a (.c (.p (.bool (bx (zS a b)))))) [] (aZ [] [] (he:=rE (by simp[hb,e,h1]))) ⟨rfl,rfl⟩
 ·cbv
  exact hK _ _ (.a (.c (.p (.bool (bx (zS a b)))))) [] (aZ [] [] (he:=ou (by simp[hb,e,h1]))) ⟨rfl,rfl⟩
end
end Sx
end
section
open Go
section
variable {P:Program} {ops:Array Oper} {md:Region.Mode} {C:World->Prop}
def abl:Op->Bool
 | .move _| .assign _| .pick .. | .build .. | .binOp .. | .unOp .. | .convert .. | .fieldAddr .. | .field .. | .indexAddr .. | .extract .. =>true
 |_=>false
def TA:Op->Bool
 | .store .. =>true
 |_=>false
def ZY (o:Op):Bool:=floats o&&!abl o
theorem JU (listed:Array Bool)(j:Nat):(listed.setIfInBounds j true).getD j true=true:=by
 rw[Array.getD_eq_getD_getElem?,Array.getElem?_setIfInBounds]
 by_cases h:j<listed.size
 ·simp[h]
 ·simp[h]
theorem getD_set_true (listed:Array Bool)(j i:Nat)(h:listed.getD i true=true):(listed.setIfInBounds j true).getD i true=true:=by
 by_cases e:j=i
 ·subst e
  exact JU _ _
 ·rw[getD_set_ne true e];exact h
def aaI (C:World->Prop)(o:Oper)(w:World):Prop:=ZY o.op=true->C w
def Pj (P:Program)(ops:Array Oper)(C:World->Prop)(Q:Act->World->Prop):Bool->List Oper->Act->World->Prop
 |Ig,[],a,w=>(Ig=true->C w)/\Q a w
 |Ig,o::rest,a,w=>
  if Region.wanted o (yielded ops a.tmps)then
   if floats o.op then∃v,(∀w',aaI C o w'->(execOp a.eval o).run P w'= .ok (.value v) w')/\Pj P ops C Q Ig rest (a.put o.dst v) w
   else o.wp P a w (fun a' w'=>((Ig&&!TA o.op)=true->C w')/\Pj P ops C Q (Ig&&!TA o.op) rest a' w') (jY Q)
  else Pj P ops C Q (Ig&&!TA o.op) rest (a.put o.dst undef) w
end
end
end Go.Proofs.YtakhobfamnjnoaaGreatDoor
