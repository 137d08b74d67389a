/- Keys: all keys, in order (its walk). -/
import Derived.Test.YtglbkodmmogomaaGreatDoorM04
import Derived.Sort.OwnSortedInts
import Derived.Test.YtglbkodmmogomaaGreatDoorChecked
import Derived.ProofKit
import Derived.OpenShut
import Derived.ShutString
import Derived.ChangeCalls
set_option linter.unusedVariables false
set_option linter.unusedSimpArgs false
set_option maxHeartbeats 400000
set_option maxRecDepth 100000
namespace Go.Proofs.YtglbkodmmogomaaGreatDoor
section
open Go Go.RowKit Go.Shelf Go.Sort
theorem lI (x y:Int):ltOf uh x y=bD x y:=by unfold ltOf;exact Jy x y
theorem IW:SWO (ltOf uh) where
 irrefl x:=by rw[lI];exact dA x
 trans x y z h1 h2:=by rw[lI]at*;exact kU h1 h2
 ntrans x y z h1 h2:=by
  rw[lI]at*
  cases h:bD x z
  ·rfl
  ·rw[lJ]at h
   have h1': ¬bD x y=true:=by simp[h1]
   have h2': ¬bD y z=true:=by simp[h2]
   rw[lJ]at h1' h2'
   omega
theorem Hz {T:Tab}(hT:cu T){ss:List Int}(hp:ss.Perm (aQ T)):(ss.mergeSort fun x y=>!(ltOf uh) y x)=aQ T:=by
 have e:(fun x y=>!(ltOf uh) y x)=fun x y=>!bD y x:=by funext x y;rw[lI]
 rw[e]
 have tr: ∀a b c:Int,(!bD b a)=true->(!bD c b)=true->(!bD c a)=true:=fun a b c h1 h2=>by
  simp only[Bool.not_eq_true']at*
  have:=IW.ntrans c b a (by rw[lI];exact h2) (by rw[lI];exact h1)
  rwa[lI]at this
 have to: ∀a b:Int,(!bD b a||!bD a b)=true:=fun a b=>by
  by_cases h:a=b
  ·subst h;rw[dA];rfl
  ·rcases kV h with h'|h'
   ·rw[pX h'];rfl
   ·rw[pX h'];simp
 refine List.Perm.eq_of_pairwise (le:=fun a b=>(!bD b a)=true) (fun a b _ _ h1 h2=>?_) (List.pairwise_mergeSort tr to ss) ?_ ((List.mergeSort_perm ss _).trans hp)
 ·simp only[Bool.not_eq_true']at h1 h2
  by_cases h:a=b
  ·exact h
  ·rcases kV h with h'|h'
   ·rw[h']at h2;cases h2
   ·rw[h']at h1;cases h1
 ·unfold aQ
  rw[List.pairwise_map]
  exact hT.imp fun{a b} h=>by rw[pX h];rfl
theorem Pq (m:Nat)(w:World):Calls Tryz.prog 90 #[.map (some m)] w fun e w'=>e= .returned (.func (.func 137) #[] #[.pointer (some ⟨w.heap.size,0,none⟩)])/\w'=w.alloc (.cells #[.map (some m)] 113):=
 callsIn_wide.1 (AnyZI.keys_in Tryz.keysL Fence.wide 3 trivial rfl (some m) w)
theorem IJ (m Bm:Nat)(T:Tab)(l:List (Int×Value))(w:World)(hl:dh w m l)(hperm:(l.map (·.1)).Perm (aQ T))(hT:iy T)(hc:w.cell? ⟨Bm,0,none⟩=some (.map (some m))):
 Calls Tryz.prog 135 #[.func (.func 137) #[] #[.pointer (some ⟨Bm,0,none⟩)]] w fun e w'=> ∃(v:Value)(ss:List Int),e= .returned v/\ss.Perm (aQ T)/\w'.ownsRow w.heap.size 2 1 v ss.length (ss.map (Value.int .i64))/\(v= .slice none 0 0↔ss=[])/\Kept none' w w':=by
 have hR: ∀p∈l,bF p.1:=fun p hp=>by
  have:p.1∈aQ T:=hperm.mem_iff.1 (List.mem_map.2 ⟨p,hp,rfl⟩)
  obtain⟨q,hq,e⟩:=List.mem_map.1 this
  rw[<-e];exact hT.key q hq
 have hlen:l.length=T.length:=by
  have:=hperm.length_eq
  simpa[aQ]using this
 have h320:=hT.len
 obtain⟨D,hown,hk,hsz⟩:=hl.owns hR (by unfold maxLen;omega)
 have hseq:=AnyZI.keys_gives (ρ:=Tryz.keysL_ren) {Tryz.keysL with} Fence.wide 2 trivial rfl (by omega) Bm m l.length D w (block_lt_of_cell hc) hc hown
 have XV:=AnyZI.collect_in Tryz.collectL Fence.wide 4 trivial trivial rfl (by omega) 137 #[.pointer (some ⟨Bm,0,none⟩)] trivial (enters_of Tryz.func137 (by kernel_rfl) rfl) (fun ss=>ss.Perm (intKeys D)) (Maps.size D) (by rw[hsz];unfold maxLen;omega) (by rw[hsz];omega) w hseq
 refine(callsIn_wide.1 XV).mono fun e w' ⟨v,ss,h1,h2,h3,h4,h5⟩=>⟨v,ss,h1,(h2.trans hk).trans hperm,h3,h4, .of_below h5⟩
theorem IK (blk off size:Nat)(w:World):CmpLays1 Tryz.prog 50 #[] (Value.int .i64) uh blk off size w:=
 fun _ _ _ _ x y=>AY x y _
def Bd (w:World)(l:List Int)(e:Ending)(w':World):Prop:=
 ∃v,e= .returned v/\w'.ownsRow w.heap.size 2 1 v l.length (ints l)/\(v= .slice none 0 0↔l=[])/\Kept none' w w'
theorem OO (v:Value)(T:Tab)(hT:iy T)(ss:List Int)(base:Nat)(w:World)(hp:ss.Perm (aQ T))(hown:w.ownsRow base 2 1 v ss.length (ints ss))(hne:ss≠[]):
 Calls Tryz.prog 136 #[v, .func (.func 50) #[] #[]] w fun e w'=>e= .returned (.tuple #[])/\w'.ownsRow base 2 1 v ss.length (ints (aQ T))/\ ∀k,v.ownBlock=some k->Kept (one k) w w':=by
 obtain⟨hlen,h0|⟨g,cap,cur,rfl,hb,hg,hn,hc,hs,ht⟩⟩:=hown
 ·have:ss=[]:=List.eq_nil_of_length_eq_zero h0.2
  exact absurd this hne
 ·have hlt:g<w.heap.size:=(Array.getElem?_eq_some_iff.1 hg).1
  have hl320:ss.length<=320:=by rw[hp.length_eq];unfold aQ;rw[List.length_map];exact hT.len
  have ht':cur.toList.take ss.length=ss.map (Value.int .i64):=by rw[Nat.mul_one]at ht;exact ht
  have hH:=holds_of_blockI hg ht'
  have hcon:=Any.slices_SortFunc_total Tryz.sortL (Value.int .i64) (fun _=>rfl) uh IW 50 #[] g 0 cap ss.toArray w (enters_of Tryz.func50 (by kernel_rfl) rfl) (IK g 0 _ w) hH hlt (by simp;omega)
   (fun x y h1 h2=>by
     rw[lI]at h1 h2
     by_cases h:x=y
     ·exact h
     ·rcases kV h with h'|h'
      ·rw[h']at h1;cases h1
      ·rw[h']at h2;cases h2)
  have Es:Calls Tryz.prog 136 #[.slice (some ⟨g,0,none⟩) ss.length cap, .func (.func 50) #[] #[]] w fun e w'=>e= .returned (.tuple #[])/\ ∃n os,w'=grow (putRow (Value.int .i64) (Sort.ahead w n) g 0 (aQ T).toArray) os:=by
   have h1:=hcon
   rw[List.toList_toArray,Hz hT.rises hp]at h1
   exact h1
  refine Es.mono fun e w' ⟨he,n,os,hw⟩=>⟨he,?_,?_⟩
  ·rw[hw]
   exact ownsRow_sortedI hp.length_eq.symm hb hg hn hc hs
  ·intro k hk
   simp[Value.ownBlock]at hk
   subst hk
   rw[hw]
   exact Kept.grown (grownBy_sortedI _) (fun k hk _=>by cases hk;rfl)
theorem J3 (m Bm:Nat)(T:Tab)(l:List (Int×Value))(w:World)(hl:dh w m l)(hperm:(l.map (·.1)).Perm (aQ T))(hT:iy T)(hc:w.cell? ⟨Bm,0,none⟩=some (.map (some m))):
 Calls Tryz.prog 89 #[.func (.func 137) #[] #[.pointer (some ⟨Bm,0,none⟩)], .func (.func 50) #[] #[]] w (Bd w (aQ T)):=by
 have h1:=IJ m Bm T l w hl hperm hT hc
 have H1:=Lib.hid h1
 have HT:=Lib.hid hT
 clear h1 hl hperm hT hc
 go_enter Tryz.func89,Tryz.ntmps89
 go_wp2_with fail
 refine H1.out.mono ?_
 rintro e w1 ⟨v,ss,rfl,hp,hown,hnil,hk⟩
 by_cases hne:ss=[]
 ·subst hne
  obtain rfl:v= .slice none 0 0:=hnil.2 rfl
  have hT0:aQ T=[]:=List.eq_nil_of_length_eq_zero (by have:=hp.length_eq;simpa using this.symm)
  have hcon:=AnyF.slices_SortFunc_none {Tryz.sortL with} none 0 (.func (.func 50) #[] #[]) w1
  have Es:Calls Tryz.prog 136 #[.slice none 0 0, .func (.func 50) #[] #[]] w1 fun e w'=>e= .returned (.tuple #[])/\w'=w1:=hcon
  have F:Bd w (aQ T) (.returned (.slice none 0 0)) w1:=⟨_,rfl,by rw[hT0];exact World.ownsRow_nil _ _ _ _,by rw[hT0];simp,hk⟩
  have F':=Lib.hid F
  have HC:=Lib.hid Es
  clear F hcon Es hp hown hnil hT0 hk
  go_wp2_with fail
  refine HC.out.mono ?_
  rintro e w2 ⟨rfl,rfl⟩
  go_wp2_with fail
  go_ret
  exact F'.out
 ·have hcon:=OO v T HT.out ss w.heap.size w1 hp hown hne
  have F: ∀w2:World,w2.ownsRow w.heap.size 2 1 v ss.length (ints (aQ T))->(∀k,v.ownBlock=some k->Kept (one k) w1 w2)->Bd w (aQ T) (.returned v) w2:=fun w2 h1 h2=>by
   have hl:ss.length=(aQ T).length:=hp.length_eq
   refine⟨v,rfl,by rw[<-hl];exact h1,?_,?_⟩
   ·rw[hnil]
    constructor
    ·intro h;exact absurd h hne
    ·intro h;rw[h]at hl;exact List.eq_nil_of_length_eq_zero hl
   ·rcases hown.2 with⟨_,h0⟩|⟨g,cap,cur,rfl,hb,_⟩
    ·exact absurd (List.eq_nil_of_length_eq_zero h0) hne
    ·exact hk.new (h2 g rfl) (fun k hk e=>by unfold one at e;omega)
  have F':=Lib.hid F
  have HC:=Lib.hid hcon
  obtain⟨a,cap,rfl⟩:=ay hown
  clear F hcon hp hown hnil hk
  go_wp2_with fail
  refine HC.out.mono ?_
  rintro e w2 ⟨rfl,g1,g2⟩
  have G:=F'.out w2 g1 g2
  have G':=Lib.hid G
  clear G g1 g2
  go_wp2_with fail
  go_ret
  exact G'.out
theorem rP (B:Nat->Prop)(b m:Nat)(T:Tab)(w:World)(h:TabAt w B b m T):Calls Tryz.prog 42 #[.pointer (some ⟨b,0,none⟩)] w (Bd w (aQ T)):=by
 have hcb:=h.cell
 obtain⟨l,hml,hperm,hcs⟩:=h.map
 have HT:=Lib.hid h.ok
 have HM:=Lib.hid hml
 have HP:=Lib.hid hperm
 clear h hml hperm hcs
 go_enter Tryz.func42,Tryz.ntmps42
 go_wp2_with fail
 refine(Pq m w).mono ?_
 rintro e w1 ⟨rfl,rfl⟩
 have k1:Kept none' w (w.alloc (.cells #[.map (some m)] 113)):=(Kept.refl _ _).alloc _
 go_wp2_with fail
 refine(J3 m w.heap.size T l _ (HM.out.kept k1 (fun h=>h)) HP.out HT.out (by simp)).mono ?_
 rintro e w2 ⟨v,rfl,g1,g2,g3⟩
 obtain⟨a,cap,rfl⟩:=ay g1
 have F:Bd w (aQ T) (.returned (.slice a (aQ T).length cap)) w2:=⟨_,rfl,lH g1 (by simp),g2,k1.trans g3⟩
 have F':=Lib.hid F
 clear F g1 g2 g3
 go_wp2_with fail
 go_ret
 exact F'.out
end
section
open Go Go.RowKit
theorem pq {l:List Int}{i:Nat}{x:Int}(h:l[i]?=some x):(ints l)[i]?=some (.int .i64 x):=by simp[ints,h]
theorem Reads.at {w:World}{v:Value}{l:List Int}(h:Reads w 1 v (ints l)): ∃a cap,v= .slice a l.length cap/\l.length<=cap/\cap<=maxLen/\(l=[]\/ ∃b off,a=some ⟨b,off,none⟩/\ ∀i x,l[i]?=some x->w.cell? ⟨b,off+i,none⟩=some (.int .i64 x)):=by
 obtain⟨a,n,cap,rfl,h1,h2,h3,h4⟩:=h
 have hn:n=l.length:=by simpa using h3.symm
 subst hn
 refine⟨a,cap,rfl,h1,h2,?_⟩
 rcases h4 with h4|⟨b,off,rfl,h4⟩
 ·left
  have:(ints l).length=0:=by rw[h4];rfl
  rw[pY]at this
  exact List.eq_nil_of_length_eq_zero this
 ·exact .inr ⟨b,off,rfl,fun i x hx=>h4 i _ (pq hx)⟩
theorem aX {a b:Bool}(h:a=b):Ending.returned (.bool a)= .returned (.bool b):=by rw[h]
theorem TabAt.lt {w:World}{B:Nat->Prop}{b m:Nat}{T:Tab}(h:TabAt w B b m T):m<w.heap.size/\b<w.heap.size:=by
 obtain⟨l,hl,_⟩:=h.map
 exact⟨hl.lt,(Array.getElem?_eq_some_iff.1 h.obj).1⟩
end
section
open Go Go.RowKit Go.ChangeShapes Go.WideShapes Go.ChangeAt Go.Deep
theorem bF.Em {n:Int}(h:(Lit.int .i64 n).wf=true):bF n:=by
 have h2:IntKind.i64.min<=n/\n<=9223372036854775807:=by simpa[Lit.wf]using h
 exact⟨by have:IntKind.i64.min= -9223372036854775808:=by decide
          omega,h2.2⟩
theorem EL {w:World}{x:Addr}{v:Value}(h:w.cell? x=some v):x=⟨x.block,x.off,none⟩:=by
 unfold World.cell? at h
 split at h
 ·by_cases hs:x.spot.isSome=true
  ·rw[if_pos hs]at h;cases h
  ·have:x.spot=none:=by simpa using hs
   cases x;simp only at this;rw[this]
 ·cases h
section
variable {H:Type} {enc:TypeId×Value->H} {P:Program} {w:World}
theorem qP {t e:TypeId}{k fuel n cap:Nat}{a:Option Addr}{x:DataW H×List MemPlace}(ht:P.underlying t=some (.slice e))(hk:P.cellsOf e=k)(hk0:0<k)
 (h:DataW.trod enc P w 0 (fun _=>true) true fuel t [.slice a n cap]=some x):
 ∃cs:List Value,cs.length=n*k/\Reads w k (.slice a n cap) cs/\ ∀i,i<n-> ∃m y,DataW.trod enc P w 0 (fun _=>true) true m e ((cs.drop (i*k)).take k)=some y:=by
 rcases open_slice ht h with⟨h0,_⟩|⟨a',len,cap',m,f,D,Pl,h0,hb,hl,hm,hmm,rfl,hx⟩
 ·injection h0 with h0 _
  injection h0 with h1 h2 h3
  subst h1 h2 h3
  exact⟨[],by simp,Reads.nil _ _,fun i hi=>by omega⟩
 ·injection h0 with h0 _
  injection h0 with h1 h2 h3
  subst h1 h2 h3
  simp only[if_true]at hmm
  subst hmm
  have each: ∀j,j<n*k-> ∃v,w.cell? (a'.add j)=some v:=by
   intro j hj
   have hi:j/k<n:=(Nat.div_lt_iff_lt_mul hk0).2 hj
   have hr:j%k<k:=Nat.mod_lt _ hk0
   obtain⟨cs',h1,_⟩:=hx (j/k) (by omega)
   rw[hk]at h1
   obtain⟨_,hlen,hcell⟩:=World.cells?_some h1
   have h2:=hcell (j%k) hr
   rw[add_add,show j/k*k+j%k=j by rw[Nat.mul_comm];exact Nat.div_add_mod j k]at h2
   rw[h2,List.getElem?_eq_getElem (by omega)]
   exact⟨_,rfl⟩
  obtain⟨V,hV⟩:=choose_lt (α:=Value) (p:=fun j v=>w.cell? (a'.add j)=some v) each
  refine⟨(List.range (n*k)).map V,by simp,⟨_,_,_,rfl,hl,hm,by simp,?_⟩,fun i hi=>?_⟩
  ·by_cases hz:n*k=0
   ·left;rw[hz];rfl
   ·right
    have e0:=EL (hV 0 (by omega))
    rw[Addr.add_zero']at e0
    refine⟨a'.block,a'.off,by rw[<-e0],fun j x hj=>?_⟩
    rw[List.getElem?_map]at hj
    obtain⟨j',hj',rfl⟩:=Option.map_eq_some_iff.1 hj
    obtain⟨hlt,rfl⟩:=List.getElem?_eq_some_iff.1 hj'
    simp only[List.length_range]at hlt
    have:=hV j hlt
    rw[e0,Addr.add_lit]at this
    simpa using this
  ·obtain⟨cs',h1,h2⟩:=hx i (by omega)
   rw[hk]at h1
   obtain⟨_,hlen,hcell⟩:=World.cells?_some h1
   refine⟨f,(D i,Pl i),?_⟩
   ·rw[show((((List.range (n*k)).map V).drop (i*k)).take k)=cs' from ?_]
    ·exact h2
    ·apply List.ext_getElem?
     intro j
     have hin:i*k+k<=n*k:=by rw[<-Nat.succ_mul];exact Nat.mul_le_mul_right k hi
     by_cases hj:j<k
     ·rw[List.getElem?_take,if_pos hj,List.getElem?_drop,List.getElem?_map,List.getElem?_range (by omega)]
      have h3:=hcell j hj
      rw[add_add,hV (i*k+j) (by omega)]at h3
      simpa using h3
     ·rw[List.getElem?_take,if_neg hj,List.getElem?_eq_none (by omega)]
theorem MN {t e:TypeId}{fuel n cap:Nat}{a:Option Addr}{x:DataW H×List MemPlace}(ht:P.underlying t=some (.slice e))(he:P.underlying e=some (.int .i64))(hk:P.cellsOf e=1)
 (h:DataW.trod enc P w 0 (fun _=>true) true fuel t [.slice a n cap]=some x):
 ∃l:List Int,l.length=n/\Reads w 1 (.slice a n cap) (ints l)/\ ∀y∈l,bF y:=by
 obtain⟨cs,hl,hr,hel⟩:=qP ht hk (by omega) h
 have: ∃l:List Int,cs=ints l/\ ∀y∈l,bF y:=by
  rw[Nat.mul_one]at hl
  have UA: ∀v∈cs,∃y,v= .int .i64 y/\bF y:=by
   intro v hv
   obtain⟨i,hi,rfl⟩:=List.mem_iff_getElem.1 hv
   obtain⟨m,y,hy⟩:=hel i (by omega)
   obtain⟨z,hz,_,hw⟩:=DataW.trod_int he hy
   rw[Nat.mul_one,List.drop_eq_getElem_cons hi,List.take_succ_cons,List.take_zero]at hz
   injection hz with hz _
   exact⟨z,hz, .Em hw⟩
  clear hl hr hel
  induction cs with
  |nil=>exact⟨[],rfl,by simp⟩
  |cons v cs ih=>
   obtain⟨y,rfl,hy⟩:=UA v (by simp)
   obtain⟨l,rfl,hl⟩:=ih (fun u hu=>UA u (by simp[hu]))
   exact⟨y::l,rfl,by simpa using⟨hy,hl⟩⟩
 obtain⟨l,rfl,h64⟩:=this
 exact⟨l,by simpa using hl,hr,h64⟩
end
theorem own:ownKnob Tryz.prog.godebug=none:=by kernel_rfl
theorem laidOut:laidOutB Tryz.prog=true:=by kernel_rfl
noncomputable def readB (ts:List TypeId):Bool:=ts.all fun t=>Tryz.prog.readableRec t&&decide (t<Tryz.prog.types.size)
theorem Oq {H:Type}{enc:TypeId×Value->H}{W W':World}(hb:Below W.heap.size W W')(ts:List TypeId): ∀{vs:List Value}{ds:List (DataW H)}{ps:List MemPlace},readB ts=true->
 DataW.TrodAll enc Tryz.prog W 0 (fun _=>true) true ts vs ds ps-> ∃ps',DataW.TrodAll enc Tryz.prog W' 0 (fun b=>decide (b<W.heap.size)) true ts vs ds ps':=by
 induction ts with
 |nil=>
  intro vs ds ps _ h
  obtain⟨rfl,rfl,rfl⟩:=trodAll_nil h
  exact⟨[],trodAll_mk0⟩
 |cons t ts ih=>
  intro vs ds ps hr h
  obtain⟨v,vs',d,ds',p,q,rfl,rfl,rfl,h0,h1⟩:=trodAll_cons h
  unfold readB at hr
  rw[List.all_cons,Bool.and_eq_true,Bool.and_eq_true]at hr
  obtain⟨ps',h2⟩:=ih hr.2 h1
  have hlt: ∀x∈p,x.block<W.heap.size:=by obtain⟨m,hm⟩:=h0;exact DataW.trod_lt m _ _ _ hm
  exact⟨_,trodAll_cons_mk (Below.trod laidOut hr.1.1 (of_decide_eq_true hr.1.2) h0 hb hlt) h2⟩
end
end Go.Proofs.YtglbkodmmogomaaGreatDoor
