/- What an expression comes to: the walk of do. -/
import Derived.Test.YtglbkodmmogomaaGreatDoorM08
import Derived.Laws.EntriesVeiled
set_option linter.unusedVariables false
set_option linter.unusedSimpArgs false
set_option maxRecDepth 100000
namespace Go.Proofs.YtglbkodmmogomaaGreatDoor
section
open Go Go.RowKit
attribute [local irreducible] bH
theorem G6 {P:Program}{w w':World}(base:Nat)(t ty e:TypeId)(i:TypeInfo)(z:Value)(size bytes:Nat)(ht:P.underlying t=some (.slice e))(hi:P.info? e=some i)(hz:i.zero=some z)(hsize:i.size=size)(hby:i.bytes=bytes)
 (v:Value) (n:Nat) (xs:List Value) (hown:w.ownsRow base e size v n xs) (a:Addr) (m c:Nat) (news:List Value) (hl:news.length=m*size) (hnews: ∀j u,news[j]?=some u->w.cell? (a.add j)=some u)
 (h1: ∀u∈news,u.oneCell'=true) (hm:0<m) (h63:n+m<=maxLen) (hbytes:(n+m)*bytes<=140737488355328) {v':Value}
 (hr:(Builtin.append_ #[t,t] ty #[v, .slice (some a) m c]).run P w= .ok v' w'): ∀k,v'.ownBlock=some k->v.ownBlock=some k\/k=w.heap.size:=by
 subst hsize hby
 have hsmall:n+m<=9223372036854775807:=by simp only[maxLen]at h63;omega
 intro k hk
 rcases hown.2 with⟨rfl,rfl⟩|⟨g,cap,cur,rfl,hbg,hg,hnc,hcm,hcs,htake⟩
 ·have h2:=run_append_nil (P:=P) w t ty e i z ht hi hz a m c news hl hnews hm (by omega) (by simp only[Nat.zero_add]at hbytes;omega)
  rw[h2]at hr
  injection hr with hr _
  subst hr
  right;simpa[Value.ownBlock]using hk.symm
 ·by_cases hroom:n+m<=cap
  ·have h2:=run_append_room (P:=P) w t ty e i ht hi g n cap cur hg a m c news hl hnews h1 hroom (by rw[hl,hcs,<-Nat.add_mul];exact Nat.mul_le_mul_right _ hroom)
   rw[h2]at hr
   injection hr with hr _
   subst hr
   left;simpa[Value.ownBlock]using hk
  ·have h2:=run_append_grow (P:=P) w t ty e i z ht hi hz ⟨g,0,none⟩ n cap xs hown.1 (hown.cells (g:=g) rfl) a m c news hl hnews (by omega) (by omega) (growslice_fits (by omega) hbytes)
   rw[h2]at hr
   injection hr with hr _
   subst hr
   right;simpa[Value.ownBlock]using hk.symm
theorem wpList_append_run {P:Program}{w w':World}{ops:Array Oper}{rest:List Oper}{o:Oper}{a:Act}{Q:Exit->Act->World->Prop}(hgd:o.guard=none)(s x:Operand)(t:TypeId)
 (ho:o.op= .call {callee:= .builtin .append,args:= #[s,x],argTypes:= #[t,t]}) (v u v':Value) (hs:a.eval s=v) (hx:a.eval x=u) (hr:(Builtin.append_ #[t,t] o.type #[v,u]).run P w= .ok v' w')
 (h:wpList P ops Q rest (a.put o.dst v') w'):wpList P ops Q (o::rest) a w:=
 wpList_plain hgd fun K hK=>by
  unfold Oper.wp execOp
  simp only[ho,resolve,invoke,builtin,Sem.run_bind,Sem.run_pure,Result.andThen_ok,List.map_toArray,List.map_cons,List.map_nil,hs,hx,hr]
  exact hK _ _ h
section
variable {S:Nat->Prop} {w0 w w':World} {Bn Bi Bo Bg base:Nat} {na:Array Value} {nd:Nod} {v:Value} {L out out':List Rec}
end
end
section
open Go Go.RowKit
attribute [local irreducible] bH
end
section
open Go Go.RowKit Go.ChangeShapes Go.WideShapes Go.ChangeAt Go.Deep
end
section
open Go Go.RowKit
section
variable {Gs:Nat->Prop} {w w':World} {Bo base tb tm:Nat} {X:Nat->Prop} {out:List Rec} {T:Tab}
end
end
section
open Go Go.RowKit
attribute [local irreducible] bH
def Sz (T:Tab)(key n:Int)(len:Nat):Prop:=Xz T key len≠0\/((len:Nat):Int)<n
instance (T:Tab) (key n:Int) (len:Nat):Decidable (Sz T key n len):=by unfold Sz;exact inferInstance
end
section
open Go Go.RowKit
attribute [local irreducible] bH bW
end
section
open Go Go.RowKit Go.Shelf
attribute [local irreducible] bH
abbrev xU:Nat->Prop:=fun _=>True
theorem TabAt.any {w:World}{M:Nat->Prop}{b m:Nat}{T:Tab}(h:TabAt w M b m T):TabAt w xU b m T:=h.mono (fun _ _ _=>trivial)
theorem TabAt.Fb {w:World}{M:Nat->Prop}{b m:Nat}{T:Tab}(h:TabAt w M b m T): ∀c E f,w.heap[m]?≠some (.cells c E f):=by
 obtain⟨l,hl,_⟩:=h.map
 obtain⟨L,cl,hL,_⟩:=hl
 intro c E f e
 rw[hL.heap]at e;cases e
end
section
open Go Go.RowKit
attribute [local irreducible] bH
def ex2 (op a b:Int):Ex:= .mk op 0 [.mk a 0 [], .mk b 0 []]
theorem aC.leaf (w:World)(a:Int)(h0:0<=a)(h1:a<=255):aC w #[.int .u8 a, .int .i64 0, .slice none 0 0] (.mk a 0 []):=
 .mk h0 h1 nH (Reads.nil w 3) rfl (fun i x h=>by cases h)
theorem aC.two {w:World}{op a b:Int}{v:Value}(ho:0<=op/\op<=255)(ha:0<=a/\a<=255)(hb:0<=b/\b<=255)(hr:Reads w 3 v [.int .u8 a, .int .i64 0, .slice none 0 0, .int .u8 b, .int .i64 0, .slice none 0 0]):
 aC w #[.int .u8 op, .int .i64 0,v] (ex2 op a b):=by
 refine .mk ho.1 ho.2 nH hr rfl (fun i x h=>?_)
 match i,h with
 |0,h=>cases h;exact aC.leaf w a ha.1 ha.2
 |1,h=>cases h;exact aC.leaf w b hb.1 hb.2
theorem wZ {w:World}{base base' e e' size size' n n':Nat}{v v':Value}{xs xs':List Value}(h:w.ownsRow base e size v n xs)(h':w.ownsRow base' e' size' v' n' xs')(hne:e≠e'): ∀k,v.ownBlock=some k->v'.ownBlock=some k->False:=by
 intro k hk hk'
 rcases h.2 with⟨e1,_⟩|⟨g,cap,cur,e1,_,hg,_⟩
 ·rw[e1]at hk;cases hk
 ·rcases h'.2 with⟨e2,_⟩|⟨g',cap',cur',e2,_,hg',_⟩
  ·rw[e2]at hk';cases hk'
  ·rw[e1]at hk;rw[e2]at hk'
   simp[Value.ownBlock]at hk hk'
   subst hk hk'
   rw[hg]at hg'
   injection hg' with hg'
   injection hg' with _ hg' _
   exact hne hg'
end
section
open Go Go.RowKit Go.ChangeShapes Go.WideShapes Go.ChangeAt Go.Deep
theorem uV {n:Int}(h:(Lit.int .u8 n).wf=true):0<=n/\n<=255:=by
 simp[Lit.wf,IntKind.min,IntKind.max,IntKind.signed,IntKind.bits]at h
 omega
section
variable {H:Type} {enc:TypeId×Value->H} {P:Program} {w:World}
theorem Ih {t e:TypeId}{k fuel n cap:Nat}{a:Option Addr}{x:DataW H×List MemPlace}(ht:P.underlying t=some (.slice e))(hk:P.cellsOf e=k)(hk0:0<k)
 (h:DataW.trod enc P w 0 (fun _=>true) true fuel t [.slice a n cap]=some x):
 ∃(f:Nat)(cs:List Value)(ds:List (DataW H)),fuel=f+1/\cs.length=n*k/\Reads w k (.slice a n cap) cs/\ds.length=n/\((∃rest,x.1= .slice ds rest)\/n=0)/\
  ∀i,i<n-> ∃d p,ds[i]?=some d/\DataW.trod enc P w 0 (fun _=>true) true f e ((cs.drop (i*k)).take k)=some (d,p):=by
 obtain⟨cs,hl,hr,_⟩:=qP ht hk hk0 h
 rcases DataW.trod_slice ht h with⟨h0,hx⟩|⟨a',len,cap',elems,rest,f,rfl,h0,rfl,hb,hle,hm,hel,hbind,_,_⟩
 ·injection h0 with h0 _
  injection h0 with h1 h2 h3
  subst h1 h2 h3
  cases fuel with
  |zero=>simp[DataW.trod]at h
  |succ f=>exact⟨f,cs,[],rfl,hl,hr,rfl, .inr rfl,fun i hi=>by omega⟩
 ·injection h0 with h0 _
  injection h0 with h1 h2 h3
  subst h1 h2 h3
  refine⟨f,cs,elems.map (·.1),rfl,hl,hr,by simpa using hel, .inl ⟨_,rfl⟩,fun i hi=>?_⟩
  have h1:=hbind i hi
  rw[hk]at h1
  obtain⟨y,hy⟩: ∃y,elems[i]?=some y:=⟨_,List.getElem?_eq_getElem (by omega)⟩
  rw[hy]at h1
  obtain⟨ci,hci,hti⟩:=Option.bind_eq_some_iff.1 h1
  obtain⟨_,hlen,hcell⟩:=World.cells?_some hci
  refine⟨y.1,y.2,by rw[List.getElem?_map,hy];rfl,?_⟩
  have e1:(cs.drop (i*k)).take k=ci:=by
   obtain⟨a2,n2,cap2,e,_,_,_,hcl⟩:=hr
   cases e
   have hin:i*k+k<=n*k:=by rw[<-Nat.succ_mul];exact Nat.mul_le_mul_right k hi
   rcases hcl with hcl|⟨b,off,e,hcl⟩
   ·rw[hcl]at hl
    simp at hl
    omega
   ·cases e
    apply List.ext_getElem?
    intro j
    by_cases hj:j<k
    ·rw[List.getElem?_take,if_pos hj,List.getElem?_drop]
     have h3:=hcell j hj
     rw[add_add,Addr.add_lit]at h3
     have h4:=hcl (i*k+j) (cs[i*k+j]'(by omega)) (by rw[List.getElem?_eq_getElem])
     rw[h4]at h3
     rw[List.getElem?_eq_getElem (by omega)]
     exact h3
    ·rw[List.getElem?_take,if_neg hj,List.getElem?_eq_none (by omega)]
  rw[e1];exact hti
end
section
variable {H:Type} {enc:TypeId×Value->H} {w:World}
theorem MO (fuel:Nat): ∀(cs:List Value)(x:DataW H×List MemPlace),DataW.trod enc Tryz.prog w 0 (fun _=>true) true fuel 40 cs=some x-> ∃ex:Ex,aC w cs.toArray ex:=by
 induction fuel using Nat.strongRecOn with
 |ind fuel ih=>
  intro cs x h
  obtain⟨xs,n,rfl,_,hl,hxl,hf⟩:=DataW.trod_struct Tryz.underlying40 h
  rw[show Tryz.prog.cellsOf 40=3 by kernel_rfl]at hl
  match cs,hl with
  |[c0,c1,c2],_=>
   have g0:DataW.trod enc Tryz.prog w 0 (fun _=>true) true n 5 ([c0,c1,c2].drop 0|>.take (Tryz.prog.cellsOf 5))=xs[0]?:=hf 0 _ rfl
   have g1:DataW.trod enc Tryz.prog w 0 (fun _=>true) true n 2 ([c0,c1,c2].drop 1|>.take (Tryz.prog.cellsOf 2))=xs[1]?:=hf 1 _ rfl
   have g2:DataW.trod enc Tryz.prog w 0 (fun _=>true) true n 38 ([c0,c1,c2].drop 2|>.take (Tryz.prog.cellsOf 38))=xs[2]?:=hf 2 _ rfl
   rw[show Tryz.prog.cellsOf 5=1 by kernel_rfl]at g0
   rw[show Tryz.prog.cellsOf 2=1 by kernel_rfl]at g1
   rw[show Tryz.prog.cellsOf 38=1 by kernel_rfl]at g2
   simp only[List.drop_succ_cons,List.drop_zero,List.take_succ_cons,List.take_zero]at g0 g1 g2
   match xs,hxl with
   |[x0,x1,x2],_=>
    obtain⟨z0,hz0,_,hw0⟩:=DataW.trod_int Tryz.underlying5 g0
    obtain⟨z1,hz1,_,hw1⟩:=DataW.trod_int Tryz.underlying2 g1
    injection hz0 with hz0 _
    injection hz1 with hz1 _
    subst hz0 hz1
    obtain⟨sa,sn,sc,hs⟩: ∃sa sn sc,c2= .slice sa sn sc:=by
     rcases DataW.trod_slice Tryz.underlying38 g2 with⟨e,_⟩|⟨_,_,_,_,_,_,_,e,_⟩
     ·injection e with e _;exact⟨_,_,_,e⟩
     ·injection e with e _;exact⟨_,_,_,e⟩
    subst hs
    obtain⟨f,es,ds,rfl,hel,hre,_,_,Ld⟩:=Ih (k:=3) Tryz.underlying38 (by kernel_rfl) (by omega) g2
    have each: ∀i,i<sn-> ∃ex:Ex,aC w ((es.drop (i*3)).take 3).toArray ex:=by
     intro i hi
     obtain⟨d,p,_,hd⟩:=Ld i hi
     exact ih f (by omega) _ _ hd
    obtain⟨X,hX⟩:=choose_lt each
    refine⟨.mk z0 z1 ((List.range sn).map X), .mk (uV hw0).1 (uV hw0).2 (.Em hw1) hre (by simpa using hel) (fun i y hy=>?_)⟩
    rw[List.getElem?_map]at hy
    obtain⟨i',hi',rfl⟩:=Option.map_eq_some_iff.1 hy
    obtain⟨hlt,rfl⟩:=List.getElem?_eq_some_iff.1 hi'
    simp only[List.length_range]at hlt
    simpa using hX i hlt
end
end
section
open Go Go.RowKit
section
variable {P:Program} {w:World} {a:Option Addr} {n cap k i:Nat} {cs:List Value} {T E:TypeId}
theorem wQ (hT:P.underlying T=some (.slice E))(hs:(sizeOf E).run P w= .ok k w)(hi:i<=n)(hc:n<=cap):(Instr.slice T (.slice a n cap) none (some (.int .i64 (i:Int))) none).run P w= .ok (.slice a i cap) w:=by
 have hb:(Instr.sliceBounds true n cap none (some (.int .i64 (i:Int))) none).run P w= .ok (0,i,cap) w:=by
  simp[Instr.sliceBounds,Instr.sliceBound,asIntOf]
  intro h;omega
 simp only[Instr.slice,Sem.run_bind,run_underlying hT,Result.andThen_ok,hb,hs,Sem.run_pure]
 cases a with
 |none=>simp
 |some a=>simp[Addr.add]
theorem Reads.take (h:Reads w k (.slice a n cap) cs)(hi:i<=n):Reads w k (.slice a i cap) (cs.take (i*k)):=by
 obtain⟨a',n',cap',e,h1,h2,h3,h4⟩:=h
 cases e
 refine⟨a,i,cap,rfl,by omega,h2,?_,?_⟩
 ·rw[List.length_take,h3]
  exact Nat.min_eq_left (Nat.mul_le_mul_right k hi)
 ·rcases h4 with h4|⟨b,off,rfl,h4⟩
  ·left;rw[h4];simp
  ·right
   refine⟨b,off,rfl,fun j x hx=>h4 j x ?_⟩
   rw[List.getElem?_take]at hx
   split at hx
   ·exact hx
   ·cases hx
theorem Bz (hT:P.underlying T=some (.slice E))(hs:(sizeOf E).run P w= .ok k w)(hi:i<=n)(hc:n<=cap):
 (Instr.slice T (.slice a n cap) (some (.int .i64 (i:Int))) none none).run P w= .ok (.slice (if cap=i then a else a.map (·.add (i*k))) (n-i) (cap-i)) w:=by
 have hb:(Instr.sliceBounds true n cap (some (.int .i64 (i:Int))) none none).run P w= .ok (i,n,cap) w:=by
  simp[Instr.sliceBounds,Instr.sliceBound,asIntOf]
  intro h;omega
 simp only[Instr.slice,Sem.run_bind,run_underlying hT,Result.andThen_ok,hb,hs,Sem.run_pure]
theorem Reads.drop (h:Reads w k (.slice a n cap) cs)(hi:i<=n):Reads w k (.slice (if cap=i then a else a.map (·.add (i*k))) (n-i) (cap-i)) (cs.drop (i*k)):=by
 obtain⟨a',n',cap',e,h1,h2,h3,h4⟩:=h
 cases e
 refine⟨_,n-i,cap-i,rfl,by omega,by omega,by rw[List.length_drop,h3,Nat.sub_mul],?_⟩
 rcases h4 with h4|⟨b,off,rfl,h4⟩
 ·left;rw[h4];simp
 ·by_cases hc:cap=i
  ·left
   exact List.drop_eq_nil_of_le (by rw[h3];exact Nat.mul_le_mul_right k (by omega))
  ·right
   refine⟨b,off+i*k,by rw[if_neg hc];simp only[Option.map_some];rw[Addr.add_lit],fun j x hx=>?_⟩
   rw[Nat.add_assoc]
   rw[List.getElem?_drop]at hx
   exact h4 (i*k+j) x hx
end
def strs (l:List ByteArray):List Value:=l.map Value.string
@[simp] theorem Hw (l:List ByteArray):(strs l).length=l.length:=by simp[strs]
theorem Reads.GZ {w:World}{v:Value}{l:List ByteArray}(h:Reads w 1 v (strs l)): ∃a cap,v= .slice a l.length cap/\l.length<=cap/\cap<=maxLen/\(l=[]\/ ∃b off,a=some ⟨b,off,none⟩/\ ∀i x,l[i]?=some x->w.cell? ⟨b,off+i,none⟩=some (.string x)):=by
 obtain⟨a,n,cap,rfl,h1,h2,h3,h4⟩:=h
 have hn:n=l.length:=by simpa using h3.symm
 subst hn
 refine⟨a,cap,rfl,h1,h2,?_⟩
 rcases h4 with h4|⟨b,off,rfl,h4⟩
 ·left
  have:(strs l).length=0:=by rw[h4];rfl
  rw[Hw]at this
  exact List.eq_nil_of_length_eq_zero this
 ·exact .inr ⟨b,off,rfl,fun i x hx=>h4 i _ (by simp[strs,hx])⟩
end
section
mutual
def sF:Ex->Nat
 | .mk _ _ l=>1+jR l
def jR:List Ex->Nat
 |[]=>0
 |x::l=>sF x+jR l
end
mutual
def gZ:Ex->Nat->Nat
 | .mk _ _ l,most=>lG l 1 most
def lG:List Ex->Nat->Nat->Nat
 |[],n,_=>n
 |x::l,n,most=>if n<most then lG l (n+gZ x (most-n)) most else n
end
mutual
def xK:Ex->Nat->Nat
 | .mk _ _ l,left=>if 0<left then fV l (left-1)else left
def fV:List Ex->Nat->Nat
 |[],left=>left
 |x::l,left=>fV l (xK x left)
end
mutual
theorem wY: ∀(x:Ex)(most:Nat),1<=most->gZ x most=min (sF x) most
 | .mk o n l,most,h=>by
   unfold gZ sF
   rw[Di l 1 most h]
theorem Di: ∀(l:List Ex)(n most:Nat),n<=most->lG l n most=min (n+jR l) most
 |[],n,most,h=>by unfold lG jR;omega
 |x::l,n,most,h=>by
  unfold lG jR
  by_cases hn:n<most
  ·rw[if_pos hn,wY x (most-n) (by omega),Di l _ most (by omega)]
   omega
  ·rw[if_neg hn];omega
end
mutual
theorem RU: ∀(x:Ex)(left:Nat),xK x left=left-sF x
 | .mk o n l,left=>by
   unfold xK sF
   by_cases h:0<left
   ·rw[if_pos h,yu l];omega
   ·rw[if_neg h];omega
theorem yu: ∀(l:List Ex)(left:Nat),fV l left=left-jR l
 |[],left=>by unfold fV jR;omega
 |x::l,left=>by
  unfold fV jR
  rw[yu l,RU x]
  omega
end
theorem Ib (xs:List Ex):1000<1001-fV xs 1001↔1000<(xs.map fun x=>gZ x 1001).sum:=by
 rw[yu]
 have h: ∀xs:List Ex,min (jR xs) 1001=min (xs.map fun x=>gZ x 1001).sum 1001:=by
  intro xs
  induction xs with
  |nil=>simp[jR]
  |cons x l ih=>
   unfold jR
   rw[List.map_cons,List.sum_cons,wY x 1001 (by omega)]
   omega
 have:=h xs
 omega
def jA (k:Int):Nat:=if k=1 then 0 else if k=8 then 2 else 1
def jy (k:Int):Nat:=if k=1 then 0 else if k=8 then 3 else 1
def qy (k:Int):Int:=if k=3 then 2 else if k=2\/k=4\/k=5\/k=6 then 1 else 0
def oJ (k:Int):Bool:=k==6
def jN (k:Int):Int:=if k=7 then 16 else 0
def xu (name:Bool)(k:Int)(ins:Nat)(good:Bool)(none:Bool)(ty:Bool->Int->Bool)(n:Int):Bool:=
 if name=false\/k<1\/9<k then false
 else if ins<jA k\/jy k<ins\/good=false then false
 else if n<min (jN k) 1\/jN k<n then false
 else if qy k=0 then none else ty (oJ k) (qy k)
def dN (name:Bool)(k:Int)(ins:Nat)(good:Bool)(none:Bool)(ty:Bool->Int->Bool)(n:Int):Bool:=
 if name=false then false
 else if good=false then false
 else if k=1 then decide (ins=0)&&none&&decide (n=0)
 else if k=2\/k=4\/k=5 then decide (ins=1)&&ty false 1&&decide (n=0)
 else if k=3 then decide (ins=1)&&ty false 2&&decide (n=0)
 else if k=6 then decide (ins=1)&&ty true 1&&decide (n=0)
 else if k=7 then decide (ins=1)&&none&&decide (1<=n/\n<=16)
 else if k=8 then decide (ins=2\/ins=3)&&none&&decide (n=0)
 else if k=9 then decide (ins=1)&&none&&decide (n=0)
 else false
theorem MV (name:Bool)(k:Int)(ins:Nat)(good:Bool)(none:Bool)(ty:Bool->Int->Bool)(n:Int):xu name k ins good none ty n=dN name k ins good none ty n:=by
 unfold xu dN
 cases name
 ·simp
 cases good
 ·simp
 by_cases h:k<1\/9<k
 ·rw[if_pos (.inr h),if_neg (by decide),if_neg (by decide),if_neg (by omega),if_neg (by omega),if_neg (by omega),if_neg (by omega),if_neg (by omega),if_neg (by omega),if_neg (by omega)]
 ·rw[if_neg (by simp;omega)]
  have hk:k=1\/k=2\/k=3\/k=4\/k=5\/k=6\/k=7\/k=8\/k=9:=by omega
  have key: ∀(L M:Nat)(N:Int)(t:Bool)(p q:Prop)[Decidable p][Decidable q],((L<=ins/\ins<=M)↔p)->((min N 1<=n/\n<=N)↔q)->
   (if ins<L\/M<ins\/true=false then false else if n<min N 1\/N<n then false else t)=(decide p&&t&&decide q):=by
   intro L M N t p q _ _ hp hq
   by_cases h1:L<=ins/\ins<=M
   ·rw[if_neg (by simp;omega),decide_eq_true (hp.1 h1)]
    by_cases h2:min N 1<=n/\n<=N
    ·rw[if_neg (by omega),decide_eq_true (hq.1 h2)];simp
    ·rw[if_pos (by omega),decide_eq_false (fun h=>h2 (hq.2 h))];simp
   ·rw[if_pos (by omega),decide_eq_false (fun h=>h1 (hp.2 h))];simp
  rcases hk with rfl|rfl|rfl|rfl|rfl|rfl|rfl|rfl|rfl
  ·exact key 0 0 0 none (ins=0) (n=0) (by omega) (by omega)
  ·exact key 1 1 0 (ty false 1) (ins=1) (n=0) (by omega) (by omega)
  ·exact key 1 1 0 (ty false 2) (ins=1) (n=0) (by omega) (by omega)
  ·exact key 1 1 0 (ty false 1) (ins=1) (n=0) (by omega) (by omega)
  ·exact key 1 1 0 (ty false 1) (ins=1) (n=0) (by omega) (by omega)
  ·exact key 1 1 0 (ty true 1) (ins=1) (n=0) (by omega) (by omega)
  ·exact key 1 1 16 none (ins=1) (1<=n/\n<=16) (by omega) (by omega)
  ·exact key 2 3 0 none (ins=2\/ins=3) (n=0) (by omega) (by omega)
  ·exact key 1 1 0 none (ins=1) (n=0) (by omega) (by omega)
end
end Go.Proofs.YtglbkodmmogomaaGreatDoor
