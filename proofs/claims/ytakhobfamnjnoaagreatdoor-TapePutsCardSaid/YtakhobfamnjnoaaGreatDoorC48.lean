/- The machine tells the truth. -/
import Derived.Test.YtakhobfamnjnoaaGreatDoorC47
import Derived.Shelf.SlIterI.Nil
import Derived.Shelf.SlSortCmp.NoneTotal
import Derived.Test.YtakhobfamnjnoaaGreatDoorC19
import Derived.Sort.OwnSortedInts
import Derived.Lib.Bytealg
set_option linter.unusedVariables false
set_option linter.unusedSimpArgs false
set_option maxHeartbeats 400000
set_option maxRecDepth 100000
namespace Go.Proofs.YtakhobfamnjnoaaGreatDoor
namespace bU
open Go Go.RowKit
theorem MS {sz:Nat}: ∀(al:List Nat)(L:Array Bool),L.size=sz->(∀i∈al,i<sz)->(al.foldl (fun L i=>L.setIfInBounds i true) L).size=sz/\(∀j,j∉al-> ∀d,(al.foldl (fun L i=>L.setIfInBounds i true) L).getD j d=L.getD j d)/\
 (∀j,j∈al\/(∀d,L.getD j d=true)-> ∀d,(al.foldl (fun L i=>L.setIfInBounds i true) L).getD j d=true)
 |[],L,hL,_=>⟨hL,fun _ _ _=>rfl,fun j hj d=>by rcases hj with h|h;cases h;exact h d⟩
 |i::al,L,hL,hlt=>by
  have hi:=hlt i (by simp)
  obtain⟨h1,h2,h3⟩:=MS al (L.setIfInBounds i true) (by simp[hL]) fun j hj=>hlt j (by simp[hj])
  refine⟨h1,fun j hj d=>?_,fun j hj d=>?_⟩
  ·simp only[List.mem_cons,not_or]at hj
   rw[List.foldl_cons,h2 j hj.2,getD_set_ne d (Ne.symm hj.1)]
  ·rw[List.foldl_cons]
   refine h3 j ?_ d
   by_cases e:j=i
   ·subst e;right;intro d;simp[hL,hi]
   ·rcases hj with h|h
    ·rcases List.mem_cons.1 h with h|h
     ·exact absurd h e
     ·exact .inl h
    ·right;intro d;rw[getD_set_ne d (Ne.symm e)];exact h d
theorem aaP (ops:Array Oper):(∀i∈kG ops,S9 ops i=true)/\(kG ops).Nodup/\(kG ops).length<=ops.size/\(∀i∈kG ops,i<ops.size)/\(∀j,j<ops.size->j∈kG ops\/early ops (kG ops) j=true\/late ops (kG ops) j=true)/\
 ∀i∈kG ops,∀j∈kG ops,i≠j-> ∀oi oj d,ops[i]?=some oi->ops[j]?=some oj->oi.dst=some d->oj.dst≠some d:=by
 cases hc:XQ ops (SY ops)with
 |false=>
  have e:kG ops=[]:=by simp[kG,hc]
  rw[e]
  refine⟨by simp,by simp,by simp,by simp,fun j hj=> .inr (.inl ?_),by simp⟩
  simp[early,hj]
 |true=>
  have e:kG ops=SY ops:=by simp[kG,hc]
  rw[e]
  simp only[XQ,Bool.and_eq_true,List.all_eq_true,List.mem_range,Bool.or_eq_true,beq_iff_eq,Bool.not_eq_true',List.contains_iff_mem]at hc
  refine⟨fun i hi=>?_,List.nodup_range.filter _,?_,fun i hi=>?_,fun j hj=>?_,fun i hi j hj hne oi oj d hoi hoj hdi hdj=>?_⟩
  ·exact(List.mem_filter.1 hi).2
  ·have:=List.length_filter_le (S9 ops) (List.range ops.size)
   simpa[SY]using this
  ·exact List.mem_range.1 (List.mem_filter.1 hi).1
  ·rcases hc.1 j hj with(h|h)|h
   ·exact .inl h
   ·exact .inr (.inl h)
   ·exact .inr (.inr h)
  ·rcases hc.2 i hi j hj with h|h
   ·exact hne h
   ·simp[XJ,hoi,hoj,hdi,hdj]at h
section
variable {P:Program} {g:Nat} {w0:World}
theorem sK {ro:Option Nat}{ops:Array Oper}{bar:Bool}(hd: ∀(i:Nat)(o:Oper),ops[i]?=some o-> ∀c,o.op≠ .defer c){Q:Act->World->Prop}{Q':Exit->Act->World->Prop}(hQ: ∀a w,Q a w->Q' .normal a w): ∀(fuel:Nat)(listed:Array Bool)(C:Nat->World->Prop)(a:Act)(w:World),
 jJ P ops bar Q fuel listed C a w->wpAnyIn (W ro) 0 P .any ops Q' fuel listed a w
 |0,_,_,_,_,h=>⟨ready_nil h.2.1,hQ _ _ h.2.2⟩
 |fuel+1,_,_,_,_,h=>⟨fun h0=>hQ _ _ (h.2.1 h0),fun i hi=>by
   have h1:=h.2.2 i hi
   unfold wpOp at h1
   unfold wpOpIn
   split
   ·rename_i ho
    rw[ho]at h1
    obtain⟨C',_,h1⟩:=h1
    exact sK hd hQ fuel _ C' _ _ h1
   ·rename_i o ho
    rw[ho]at h1
    dsimp only at h1
    split
    ·rename_i hw
     rw[if_pos hw]at h1
     rcases h1 with h1|⟨_,_,_,hq⟩
     ·refine Zc (hd i o ho) (Oper.wp_mono (fun a w ⟨C',_,h⟩=>sK hd hQ fuel _ C' a w h) (Oper.Pg (fun e a w h=>by cases e<;>first|exact hQ _ _ h|exact h.elim) h1))
     ·exact hq.elim
    ·rename_i hw
     rw[if_neg hw]at h1
     obtain⟨C',_,h1⟩:=h1
     exact⟨fun _ _=>trivial,sK hd hQ fuel _ C' _ _ h1⟩⟩
theorem Y6 {ops:Array Oper}(h:Qh ops=true):Region.noSelect ops=true/\ ∀(i:Nat)(o:Oper),ops[i]?=some o-> ∀c,o.op≠ .defer c:=by
 unfold Qh at h
 rw[Array.all_eq_true']at h
 refine⟨?_,fun i o ho c e=>?_⟩
 ·unfold Region.noSelect
  rw[Array.all_eq_true']
  intro o ho
  have:=h o ho
  cases hop:o.op<;>rw[hop]at this<;>first|rfl|cases this
 ·have:=h o (Array.mem_of_getElem? ho)
  rw[e]at this
  cases this
theorem ad9 {bG:mV}(hm:P.follows .mixedOrders=true)(hO:yO P g w0 bG):acy P g w0 bG:=by
 intro ih hI id ops N env h nx k hk ro D ρ a w H hF Q hQ
 unfold XK at hk
 obtain⟨hs,hk⟩:=aj hk
 obtain⟨hs,hnd⟩:=Y6 hs
 obtain⟨u1,u2,u3,u4,u5,u6⟩:=aaP ops
 generalize kG ops=al at*
 have H0:HR P g w0 ρ h (nx+ops.size) {w with drawn:=w.drawn+1}:=H.drew.widen (by omega)
 obtain⟨kX,h1,pre,hk,H1,hF1,_,_,hA⟩:=adG (bY:=nx) (Nat.le_refl _) u1 (fun i _=>H.fresh _ (by omega)) H0 hF hk
 obtain⟨hpre,hk⟩:=aj hk
 rw[gW]at hk
 rw[aI]at hk
 obtain⟨s1,s2,s3⟩:=MS (sz:=ops.size) al (Array.replicate ops.size false) (by simp) u4
 have ail: ∀j,j<ops.size->(Array.replicate ops.size false).getD j true=false:=fun j hj=>by simp[hj]
 refine wpIn_region_any hm (sK (bar:=barT ops) (Q:=Q .normal) hnd (fun _ _ h=>h) ops.size _ (fun _ _=>True) _ _ ?_)
 refine Qa (ρ0:=ρ) (bY:=nx) (pre:=pre) (al:=al) hO hI hs (fun i hi=>(hA i hi).1) u6 u5 ops.size ?_ (ops.size-al.length) al (by omega) _ [] kX h1 (nx+ops.size) _ _ ρ a _ hk
  ⟨H1,hF1,Nat.le_refl _,H.tV,⟨ρ.le_refl,by omega,fun _ _ h=>h⟩,s1,by simp,fun k o ho hl=>absurd hl (by rw[Array.getD_eq_getD_getElem?,Array.getElem?_replicate];split<;>simp),fun j hj d=>s2 j hj d,fun j hj d=>s3 j (.inl hj) d,fun j hj=>ail j (u4 j hj),fun _ h=>h,u2,fun j hj=>H.fresh _ (by omega),fun i hi hn=>absurd hi hn,fun i hi=>(hA i hi).2,Qb hpre,fun p hp=>(by cases hp),fun i o ho _ _=>H.fresh _ (by omega),fun _ _ _ _ _ _ _ _=>trivial⟩
 intro n L rs env h nx' cl C ρ' a w hk hE S
 obtain⟨env',hk,hF'⟩:=abb (fun i hi=>S.done i hi (by simp)) S.F hk
 refine Qa (ρ0:=ρ) (bY:=nx) (pre:=[]) (al:=[]) hO hI hs (by simp) (by simp) (fun j hj=> .inr (.inl (by simp[early,hj]))) n ?_ n [] (by simp) _ rs env' h nx' _ _ ρ' a _ hk
  ⟨S.H,hF',S.up,S.g0,S.ext,S.s1,S.s2,S.clo,S.rel,by simp,by simp,by simp,by simp,by simp,by simp,by simp,by simp,S.UK,S.bs,S.GL⟩
 intro n L rs env h nx' cl C ρ' a w hk hE S
 obtain⟨h0,hk⟩:=aj hk
 obtain rfl:=aQ h0
 refine⟨fun hb=>?_,fun j o ho=>?_,hQ env h nx' ρ' a w hk S.ext S.H S.F⟩
 ·exact S.cw
 ·rw[<-S.rel j (by simp)]
  have hlt:=(Array.getElem?_eq_some_iff.1 ho).1
  simp only[CX,List.all_eq_true,List.mem_range,Bool.or_eq_true,Bool.not_eq_true']at hE
  rcases hE j hlt with h|h
  ·exact h
  ·simp[early,hlt]at h
theorem RU {bG:mV}(hm:P.follows .mixedOrders=true)(hO:yO P g w0 bG)(n:Nat):yM P g w0 (exec P g bG n):=ad5 hO (ad9 hm hO) n n (Nat.le_refl _)
theorem HR.start (w:World)(hg:g<=w.heap.size):HR P g w (fun i=>if i<g then some (.blk i 0 0)else none) .leaf g w:=by
 refine⟨fun id hid=>if_neg (by omega),Nat.le_refl _,fun id o ho=>(by cases ho),fun i j oi oj b hi=>(by cases hi),fun id b ⟨x,y,hb⟩ hid=>?_,fun id b ⟨x,y,hb⟩=>?_,⟨rfl,rfl,rfl,Nat.le_refl _,fun _ _=>rfl⟩,fun i hi=>⟨0,if_pos hi⟩,fun _ _=>rfl⟩
 ·dsimp only at hb;rw[if_neg (by omega)]at hb;cases hb
 ·dsimp only at hb;split at hb
  ·cases hb;omega
  ·cases hb
theorem closed {bG:mV}(hm:P.follows .mixedOrders=true){w:World}(hO:yO P g w bG)(hg:g<=w.heap.size){n:Nat}{f:FuncId}{args:List AV}{xs:List Value}(hx: ∀ρ,F2 (GA ρ) args xs){k:KV}(hk:zn P g bG (exec P g bG n) f args .leaf g k=true)(hf:bG f=none):
 Calls P f xs.toArray w fun e w'=> ∃r x ρ h nx,e= .returned x/\k r h nx=true/\HR P g w ρ h nx w'/\GR ρ r x:=by
 rcases Sz hO (RU hm hO n) (HR.start w hg) (hx _) hk with⟨_,h2⟩|⟨r,x,h1,h2,h3⟩
 ·exact Calls.mono h2 fun e w' ⟨r,x,ρ',h',nx',he,h3,h4,h5,h6⟩=>⟨r,x,ρ',h',nx',he,h3,h5,h6⟩
 ·exfalso
  unfold zn at hk
  rw[hf]at hk
  have:=(CQ (RU hm hO n) (HR.start w hg) (hx _) hk).1 w
  rw[this]at h3
  cases h3
end
end bU
end Go.Proofs.YtakhobfamnjnoaaGreatDoor
namespace Go.Proofs
open Go.Shelf
def Tryz.keysL_ren:Go.Shelf.Ren:=⟨fun|7=>310|10=>382|n=>n,fun|23=>417|26=>2|3=>415|28=>422|0=>0|27=>421|33=>454|4=>4|n=>n,fun|n=>n⟩
theorem Tryz.keysL:Go.Proofs.SlLaysZI.n7 Tryz.prog Tryz.keysL_ren:={
 mixed:=by kernel_rfl
 f7:=⟨Tryz.f310.name,by decide,Tryz.func310.trans (congrArg some (by kernel_rfl))⟩
 f10:=⟨Tryz.f382.name,by decide,Tryz.func382.trans (congrArg some (by kernel_rfl))⟩
 t0:=Tryz.underlying0
 a0:=Tryz.isAgg0
 z0:=Tryz.sizeOf0
 v0:=Tryz.zeroValue0
 t4:=Tryz.underlying4
 a4:=Tryz.isAgg4
 z4:=Tryz.sizeOf4
 v4:=Tryz.zeroValue4
 t23:=Tryz.underlying417
 a23:=Tryz.isAgg417
 z23:=Tryz.sizeOf417
 v23:=Tryz.zeroValue417
 t26:=Tryz.underlying2
 a26:=Tryz.isAgg2
 z26:=Tryz.sizeOf2
 v26:=Tryz.zeroValue2
 t27:=Tryz.underlying421
 a27:=Tryz.isAgg421
 z27:=Tryz.sizeOf421
 v27:=Tryz.zeroValue421
 t28:=Tryz.underlying422
 a28:=Tryz.isAgg422
 z28:=Tryz.sizeOf422
 v28:=Tryz.zeroValue422
 t33:=Tryz.underlying454
 a33:=Tryz.isAgg454
 z33:=Tryz.sizeOf454
 v33:=Tryz.zeroValue454}
def Tryz.collectL_ren:Go.Shelf.Ren:=⟨fun|8=>380|11=>407|n=>n,fun|26=>2|28=>422|24=>55|0=>0|33=>454|4=>4|n=>n,fun|n=>n⟩
theorem Tryz.collectL:Go.Proofs.SlLaysZI.n8 Tryz.prog Tryz.collectL_ren:={
 mixed:=by kernel_rfl
 f8:=⟨Tryz.f380.name,by decide,Tryz.func380.trans (congrArg some (by kernel_rfl))⟩
 f11:=⟨Tryz.f407.name,by decide,Tryz.func407.trans (congrArg some (by kernel_rfl))⟩
 t0:=Tryz.underlying0
 a0:=Tryz.isAgg0
 z0:=Tryz.sizeOf0
 v0:=Tryz.zeroValue0
 t24:=Tryz.underlying55
 a24:=Tryz.isAgg55
 z24:=Tryz.sizeOf55
 v24:=Tryz.zeroValue55
 t26:=Tryz.underlying2
 a26:=Tryz.isAgg2
 z26:=Tryz.sizeOf2
 v26:=Tryz.zeroValue2
 t28:=Tryz.underlying422
 a28:=Tryz.isAgg422
 z28:=Tryz.sizeOf422
 v28:=Tryz.zeroValue422
 i26:=by kernel_rfl}
def Tryz.sortL_ren:Go.Shelf.Ren:=⟨fun|6=>381|15=>409|14=>408|28=>432|29=>433|20=>424|21=>425|22=>426|23=>427|24=>428|25=>429|26=>430|27=>431|46=>440|47=>441|48=>442|49=>443|50=>444|57=>448|n=>n,fun|22=>55|24=>2|25=>416|3=>3|39=>110|0=>0|53=>403|55=>108|4=>4|46=>526|45=>525|50=>271|5=>5|9=>9|66=>538|70=>542|76=>545|77=>546|n=>n,fun|n=>n⟩
theorem Tryz.sortL:Go.Proofs.SlLaysF.n6 Tryz.prog Tryz.sortL_ren:={
 mixed:=by kernel_rfl
 f6:=⟨Tryz.f381.name,by decide,Tryz.func381.trans (congrArg some (by kernel_rfl))⟩
 f14:=⟨Tryz.f408.name,by decide,Tryz.func408.trans (congrArg some (by kernel_rfl))⟩
 f15:=Tryz.func409.trans (congrArg some (by kernel_rfl))
 f20:=⟨Tryz.f424.name,by decide,Tryz.func424.trans (congrArg some (by kernel_rfl))⟩
 f21:=⟨Tryz.f425.name,by decide,Tryz.func425.trans (congrArg some (by kernel_rfl))⟩
 f22:=⟨Tryz.f426.name,by decide,Tryz.func426.trans (congrArg some (by kernel_rfl))⟩
 f23:=⟨Tryz.f427.name,by decide,Tryz.func427.trans (congrArg some (by kernel_rfl))⟩
 f24:=⟨Tryz.f428.name,by decide,Tryz.func428.trans (congrArg some (by kernel_rfl))⟩
 f25:=⟨Tryz.f429.name,by decide,Tryz.func429.trans (congrArg some (by kernel_rfl))⟩
 f26:=⟨Tryz.f430.name,by decide,Tryz.func430.trans (congrArg some (by kernel_rfl))⟩
 f27:=⟨Tryz.f431.name,by decide,Tryz.func431.trans (congrArg some (by kernel_rfl))⟩
 f28:=Tryz.func432.trans (congrArg some (by kernel_rfl))
 f29:=Tryz.func433.trans (congrArg some (by kernel_rfl))
 f46:=⟨Tryz.f440.name,by decide,Tryz.func440.trans (congrArg some (by kernel_rfl))⟩
 f47:=Tryz.func441.trans (congrArg some (by kernel_rfl))
 f48:=Tryz.func442.trans (congrArg some (by kernel_rfl))
 f49:=⟨Tryz.f443.name,by decide,Tryz.func443.trans (congrArg some (by kernel_rfl))⟩
 f50:=⟨Tryz.f444.name,by decide,Tryz.func444.trans (congrArg some (by kernel_rfl))⟩
 f57:=⟨Tryz.f448.name,by decide,Tryz.func448.trans (congrArg some (by kernel_rfl))⟩
 t0:=Tryz.underlying0
 a0:=Tryz.isAgg0
 z0:=Tryz.sizeOf0
 v0:=Tryz.zeroValue0
 t3:=Tryz.underlying3
 a3:=Tryz.isAgg3
 z3:=Tryz.sizeOf3
 v3:=Tryz.zeroValue3
 t4:=Tryz.underlying4
 a4:=Tryz.isAgg4
 z4:=Tryz.sizeOf4
 v4:=Tryz.zeroValue4
 t5:=Tryz.underlying5
 a5:=Tryz.isAgg5
 z5:=Tryz.sizeOf5
 v5:=Tryz.zeroValue5
 t9:=Tryz.underlying9
 a9:=Tryz.isAgg9
 z9:=Tryz.sizeOf9
 v9:=Tryz.zeroValue9
 t22:=Tryz.underlying55
 a22:=Tryz.isAgg55
 z22:=Tryz.sizeOf55
 v22:=Tryz.zeroValue55
 a24:=Tryz.isAgg2
 z24:=Tryz.sizeOf2
 t25:=Tryz.underlying416
 a25:=Tryz.isAgg416
 z25:=Tryz.sizeOf416
 v25:=Tryz.zeroValue416
 t39:=Tryz.underlying110
 a39:=Tryz.isAgg110
 z39:=Tryz.sizeOf110
 v39:=Tryz.zeroValue110
 t45:=Tryz.underlying525
 a45:=Tryz.isAgg525
 z45:=Tryz.sizeOf525
 v45:=Tryz.zeroValue525
 t46:=Tryz.underlying526
 a46:=Tryz.isAgg526
 z46:=Tryz.sizeOf526
 v46:=Tryz.zeroValue526
 t50:=Tryz.underlying271
 a50:=Tryz.isAgg271
 z50:=Tryz.sizeOf271
 v50:=Tryz.zeroValue271
 t53:=Tryz.underlying403
 a53:=Tryz.isAgg403
 z53:=Tryz.sizeOf403
 v53:=Tryz.zeroValue403
 t55:=Tryz.underlying108
 a55:=Tryz.isAgg108
 z55:=Tryz.sizeOf108
 v55:=Tryz.zeroValue108
 t66:=Tryz.underlying538
 a66:=Tryz.isAgg538
 z66:=Tryz.sizeOf538
 v66:=Tryz.zeroValue538
 t70:=Tryz.underlying542
 a70:=Tryz.isAgg542
 z70:=Tryz.sizeOf542
 v70:=Tryz.zeroValue542
 t76:=Tryz.underlying545
 a76:=Tryz.isAgg545
 z76:=Tryz.sizeOf545
 v76:=Tryz.zeroValue545
 t77:=Tryz.underlying546
 a77:=Tryz.isAgg546
 z77:=Tryz.sizeOf546
 v77:=Tryz.zeroValue546}
end Go.Proofs
namespace Go.Proofs.YtakhobfamnjnoaaGreatDoor
section
open Go Go.RowKit Go.Shelf Go.Sort
theorem X0 (w:World)(o:Obj):w.alloc o=grow (w.drewN 0) #[o]:=by
 unfold grow World.alloc
 rw[Array.push_eq_append]
 rfl
theorem XV (a b:Int)(w:World):Calls Tryz.prog 306 #[.int .i64 a, .int .i64 b] w fun e w'=>e= .returned (.int .i64 (CS a b))/\ ∃q os',w'=grow (w.drewN q) os':=by
 go_enter Tryz.func306,Tryz.ntmps306
 go_wp2_with fail
 refine(Zf _ _).mono ?_;rintro e w' ⟨rfl,rfl⟩
 go_wp2_with fail
 refine(Zf _ _).mono ?_;rintro e w' ⟨rfl,rfl⟩
 go_wp2_with fail
 refine(cmpInt _ _ _).mono ?_;rintro e w' ⟨rfl,rfl⟩
 go_wp2_with fail
 refine(ahy _ _ _).mono ?_;rintro e w' ⟨rfl,rfl⟩
 go_wp2_with fail
 refine(ae8 (oh (grp a) (grp b)) (oh a b) w.heap.size 2 _ (by simp) (by simp)).mono ?_;rintro e w' ⟨rfl,rfl⟩
 go_wp2_with fail
 go_ret
 exact⟨rfl,0,_,X0 _ _⟩
end
section
open Go Go.RowKit Go.Shelf
def yU:Value->Option (DataW Unit×List MemPlace):=fun _=>some (.lit (.bool true),[])
theorem aO.wf {n:Int}(h:aO n):(Lit.int .i64 n).wf=true:=by
 unfold aO at h
 exact WalkArith.wf_i64 h
theorem YR {t:T3}(h:aO t.1):WideElems.rd Tryz.prog 2 yU (ent t)=some (.int .i64 t.1, .lit (.bool true))/\WideElems.rg Tryz.prog 2 yU (ent t)=(.int .i64 t.1, .lit (.bool true)):=by
 have h1:WideElems.rd Tryz.prog 2 yU (ent t)=some (.int .i64 t.1, .lit (.bool true)):=by
  unfold WideElems.rd
  rw[show(ent t).key= .int .i64 t.1 from rfl,Maps.keyOf_int_mk Tryz.underlying2 h.wf]
  rfl
 exact⟨h1,by unfold WideElems.rg;rw[h1];rfl⟩
theorem zO.owns {w:World}{m:Nat}{l:List (Int×Value)}(h:zO w m l)(hk: ∀p∈l,aO p.1)(hl:l.length<=maxLen):
 ∃D:DataW Unit,w.ownsMap Tryz.prog 2 yU m l.length D/\(intKeys D).Perm (l.map (·.1))/\Maps.size D=l.length:=by
 obtain⟨L,clock,h,rfl⟩:=h
 have hk': ∀t∈L,aO t.1:=fun t ht=>hk (kv t) (List.mem_map.2 ⟨t,ht,rfl⟩)
 have hmap:(L.map ent).map (WideElems.rg Tryz.prog 2 yU)=L.map (fun t=>(Lit.int .i64 t.1,DataW.lit (.bool true))):=by
  rw[List.map_map]
  apply List.map_congr_left
  intro t ht
  have:=(YR (hk' t ht)).2
  rw[Function.comp_apply,this]
 have hsz:((L.map ent).toArray).size<=maxLen:=by rw[List.size_toArray,List.length_map];rw[List.length_map]at hl;exact hl
 have hsz2:((L.map ent).toArray).size<=(L.map kv).length:=by simp
 refine⟨.map (List.foldr DataW.insert [] (List.map (WideElems.rg Tryz.prog 2 yU) (L.map ent).toArray.toList)),⟨(L.map ent).toArray,clock,h.heap,⟨hsz,⟨?_,?_,?_⟩,?_⟩,hsz2,rfl⟩,?_,?_⟩
 ·intro x hx
  rw[List.toList_toArray]at hx
  obtain⟨t,ht,rfl⟩:=List.mem_map.1 hx
  exact h.old t ht
 ·simpa[ent,Function.comp_def]using h.born
 ·have:(L.map ent).toArray.toList.map (·.key)=(L.map (·.1)).map (Value.int .i64):=by simp[ent,Function.comp_def]
  rw[this]
  exact List.Pairwise.map _ (fun a b hab e=>hab (by simpa using e)) h.keys
 ·intro x hx
  rw[List.toList_toArray]at hx
  obtain⟨t,ht,rfl⟩:=List.mem_map.1 hx
  exact⟨_,(YR (hk' t ht)).1⟩
 ·show(List.map (fun p=>_root_.Go.intOf p.1) (List.foldr DataW.insert [] (((L.map ent).toArray.toList).map (WideElems.rg Tryz.prog 2 yU)))).Perm _
  rw[List.toList_toArray,hmap]
  refine((WideShapes.sorted_perm _).map _).trans ?_
  simp[_root_.Go.intOf,kv,Function.comp_def]
 ·show(List.foldr DataW.insert [] (((L.map ent).toArray.toList).map (WideElems.rg Tryz.prog 2 yU))).length=_
  rw[length_sorted]
  simp
end
section
open Go Go.RowKit Go.Shelf Go.Sort
theorem pV (x y:Int):ltOf CS x y=fF x y:=by unfold ltOf;exact aeo x y
theorem Ux:SWO (ltOf CS) where
 irrefl x:=by rw[pV];exact ji x
 trans x y z h1 h2:=by rw[pV]at*;exact qX h1 h2
 ntrans x y z h1 h2:=by
  rw[pV]at*
  cases h:fF x z
  ·rfl
  ·rw[rW]at h
   have h1': ¬fF x y=true:=by simp[h1]
   have h2': ¬fF y z=true:=by simp[h2]
   rw[rW]at h1' h2'
   omega
theorem TB {T:Tab}(hT:qJ T){ss:List Int}(hp:ss.Perm (iK T)):(ss.mergeSort fun x y=>!(ltOf CS) y x)=iK T:=by
 have e:(fun x y=>!(ltOf CS) y x)=fun x y=>!fF y x:=by funext x y;rw[pV]
 rw[e]
 have tr: ∀a b c:Int,(!fF b a)=true->(!fF c b)=true->(!fF c a)=true:=fun a b c h1 h2=>by
  simp only[Bool.not_eq_true']at*
  have:=Ux.ntrans c b a (by rw[pV];exact h2) (by rw[pV];exact h1)
  rwa[pV]at this
 have tot: ∀a b:Int,(!fF b a||!fF a b)=true:=fun a b=>by
  by_cases h:a=b
  ·subst h;rw[ji];rfl
  ·rcases oJ h with h'|h'
   ·rw[zD h'];rfl
   ·rw[zD h'];simp
 refine List.Perm.eq_of_pairwise (le:=fun a b=>(!fF b a)=true) (fun a b _ _ h1 h2=>?_) (List.pairwise_mergeSort tr tot ss) ?_ ((List.mergeSort_perm ss _).trans hp)
 ·simp only[Bool.not_eq_true']at h1 h2
  by_cases h:a=b
  ·exact h
  ·rcases oJ h with h'|h'
   ·rw[h']at h2;cases h2
   ·rw[h']at h1;cases h1
 ·unfold iK
  rw[List.pairwise_map]
  exact hT.imp fun{a b} h=>by rw[zD h];rfl
theorem Uj (m Bm:Nat)(T:Tab)(l:List (Int×Value))(w:World)(hl:zO w m l)(hperm:(l.map (·.1)).Perm (iK T))(hT:ED T)(hc:w.cell? ⟨Bm,0,none⟩=some (.map (some m))):
 Calls Tryz.prog 380 #[.func (.func 382) #[] #[.pointer (some ⟨Bm,0,none⟩)]] w fun e w'=> ∃(v:Value)(ss:List Int),e= .returned v/\ss.Perm (iK T)/\w'.ownsRow w.heap.size 2 1 v ss.length (ss.map (Value.int .i64))/\(v= .slice none 0 0↔ss=[])/\Kept none' w w':=by
 have hR: ∀p∈l,aO p.1:=fun p hp=>by
  have:p.1∈iK T:=hperm.mem_iff.1 (List.mem_map.2 ⟨p,hp,rfl⟩)
  obtain⟨q,hq,e⟩:=List.mem_map.1 this
  rw[<-e];exact hT.key q hq
 have hlen:l.length=T.length:=by
  have:=hperm.length_eq
  simpa[iK]using this
 have h320:=hT.len
 obtain⟨D,hown,hk,hsz⟩:=hl.owns hR (by unfold maxLen;omega)
 have hseq:=AnyZI.keys_gives (ρ:=Tryz.keysL_ren) {Tryz.keysL with} Fence.wide 2 trivial rfl (by omega) Bm m l.length D w (block_lt_of_cell hc) hc hown
 have ait:=AnyZI.collect_in Tryz.collectL Fence.wide 4 trivial trivial rfl (by omega) 382 #[.pointer (some ⟨Bm,0,none⟩)] trivial (enters_of Tryz.func382 (by kernel_rfl) rfl) (fun ss=>ss.Perm (intKeys D)) (Maps.size D) (by rw[hsz];unfold maxLen;omega) (by rw[hsz];omega) w hseq
 refine(callsIn_wide.1 ait).mono fun e w' ⟨v,ss,h1,h2,h3,h4,h5⟩=>⟨v,ss,h1,(h2.trans hk).trans hperm,h3,h4, .of_below h5⟩
theorem Uk (blk off size:Nat)(w:World):CmpLays1 Tryz.prog 306 #[] (Value.int .i64) CS blk off size w:=
 fun _ _ _ _ x y=>XV x y _
def X5 (w:World)(l:List Int)(e:Ending)(w':World):Prop:=
 ∃v,e= .returned v/\w'.ownsRow w.heap.size 2 1 v l.length (ints l)/\(v= .slice none 0 0↔l=[])/\Kept none' w w'
theorem aaU (v:Value)(T:Tab)(hT:ED T)(ss:List Int)(base:Nat)(w:World)(hp:ss.Perm (iK T))(hown:w.ownsRow base 2 1 v ss.length (ints ss))(hne:ss≠[]):
 Calls Tryz.prog 381 #[v, .func (.func 306) #[] #[]] w fun e w'=>e= .returned (.tuple #[])/\w'.ownsRow base 2 1 v ss.length (ints (iK T))/\ ∀k,v.ownBlock=some k->Kept (one k) w w':=by
 obtain⟨hlen,h0|⟨g,cap,cur,rfl,hb,hg,hn,hc,hs,ht⟩⟩:=hown
 ·have:ss=[]:=List.eq_nil_of_length_eq_zero h0.2
  exact absurd this hne
 ·have hlt:g<w.heap.size:=(Array.getElem?_eq_some_iff.1 hg).1
  have hl320:ss.length<=320:=by rw[hp.length_eq];unfold iK;rw[List.length_map];exact hT.len
  have ht':cur.toList.take ss.length=ss.map (Value.int .i64):=by rw[Nat.mul_one]at ht;exact ht
  have hH:=holds_of_blockI hg ht'
  have hcon:=Any.slices_SortFunc_total Tryz.sortL (Value.int .i64) (fun _=>rfl) CS Ux 306 #[] g 0 cap ss.toArray w (enters_of Tryz.func306 (by kernel_rfl) rfl) (Uk g 0 _ w) hH hlt (by simp;omega)
   (fun x y h1 h2=>by
     rw[pV]at h1 h2
     by_cases h:x=y
     ·exact h
     ·rcases oJ h with h'|h'
      ·rw[h']at h1;cases h1
      ·rw[h']at h2;cases h2)
  have OW:Calls Tryz.prog 381 #[.slice (some ⟨g,0,none⟩) ss.length cap, .func (.func 306) #[] #[]] w fun e w'=>e= .returned (.tuple #[])/\ ∃n os,w'=grow (putRow (Value.int .i64) (Sort.ahead w n) g 0 (iK T).toArray) os:=by
   have h1:=hcon
   rw[List.toList_toArray,TB hT.rises hp]at h1
   exact h1
  refine OW.mono fun e w' ⟨he,n,os,hw⟩=>⟨he,?_,?_⟩
  ·rw[hw]
   exact ownsRow_sortedI hp.length_eq.symm hb hg hn hc hs
  ·intro k hk
   simp[Value.ownBlock]at hk
   subst hk
   rw[hw]
   exact Kept.grown (grownBy_sortedI _) (fun k hk _=>by cases hk;rfl)
theorem Wn (m Bm:Nat)(T:Tab)(l:List (Int×Value))(w:World)(hl:zO w m l)(hperm:(l.map (·.1)).Perm (iK T))(hT:ED T)(hc:w.cell? ⟨Bm,0,none⟩=some (.map (some m))):
 Calls Tryz.prog 309 #[.func (.func 382) #[] #[.pointer (some ⟨Bm,0,none⟩)], .func (.func 306) #[] #[]] w (X5 w (iK T)):=by
 have h1:=Uj m Bm T l w hl hperm hT hc
 have H1:=Lib.hid h1
 have HT:=Lib.hid hT
 clear h1 hl hperm hT hc
 go_enter Tryz.func309,Tryz.ntmps309
 go_wp2_with fail
 refine H1.out.mono ?_
 rintro e w1 ⟨v,ss,rfl,hp,hown,hnil,hk⟩
 by_cases hne:ss=[]
 ·subst hne
  obtain rfl:v= .slice none 0 0:=hnil.2 rfl
  have hT0:iK T=[]:=List.eq_nil_of_length_eq_zero (by have:=hp.length_eq;simpa using this.symm)
  have hcon:=AnyF.slices_SortFunc_none {Tryz.sortL with} none 0 (.func (.func 306) #[] #[]) w1
  have OW:Calls Tryz.prog 381 #[.slice none 0 0, .func (.func 306) #[] #[]] w1 fun e w'=>e= .returned (.tuple #[])/\w'=w1:=hcon
  have F:X5 w (iK T) (.returned (.slice none 0 0)) w1:=⟨_,rfl,by rw[hT0];exact World.ownsRow_nil _ _ _ _,by rw[hT0];simp,hk⟩
  have F':=Lib.hid F
  have HC:=Lib.hid OW
  clear F hcon OW hp hown hnil hT0 hk
  go_wp2_with fail
  refine HC.out.mono ?_
  rintro e w2 ⟨rfl,rfl⟩
  go_wp2_with fail
  go_ret
  exact F'.out
 ·have hcon:=aaU v T HT.out ss w.heap.size w1 hp hown hne
  have F: ∀w2:World,w2.ownsRow w.heap.size 2 1 v ss.length (ints (iK T))->(∀k,v.ownBlock=some k->Kept (one k) w1 w2)->X5 w (iK T) (.returned v) w2:=fun w2 h1 h2=>by
   have hl:ss.length=(iK T).length:=hp.length_eq
   refine⟨v,rfl,by rw[<-hl];exact h1,?_,?_⟩
   ·rw[hnil]
    constructor
    ·intro h;exact absurd h hne
    ·intro h;rw[h]at hl;exact List.eq_nil_of_length_eq_zero hl
   ·rcases hown.2 with⟨_,h0⟩|⟨g,cap,cur,rfl,hb,_⟩
    ·exact absurd (List.eq_nil_of_length_eq_zero h0) hne
    ·exact hk.new (h2 g rfl) (fun k hk e=>by unfold one at e;omega)
  have F':=Lib.hid F
  have HC:=Lib.hid hcon
  obtain⟨a,cap,rfl⟩:=dP hown
  clear F hcon hp hown hnil hk
  go_wp2_with fail
  refine HC.out.mono ?_
  rintro e w2 ⟨rfl,g1,g2⟩
  have G:=F'.out w2 g1 g2
  have G':=Lib.hid G
  clear G g1 g2
  go_wp2_with fail
  go_ret
  exact G'.out
end
section
namespace bU
open Go Go.RowKit
noncomputable def Ri (b:Nat)(s:List Nat):Nat->Int:=List.rec (motive:=fun _=>Nat->Int) (fun _=>Int.negSucc 0) (fun a _ ih i=>Bool.casesOn (Nat.beq a b) (ih (Nat.succ i)) (Int.ofNat i)) s
noncomputable def iq (b:Nat)(s:List Nat):Nat:=List.rec (motive:=fun _=>Nat) 0 (fun a _ ih=>Bool.casesOn (Nat.beq a b) ih (Nat.succ ih)) s
noncomputable def rO (l:List AV)(k:RV->Bool):Bool:=match l with
 |[.c (.str s), .c (.int .u8 (.ofNat b))]=>iff (Nat.ble b 255) (fI (Ri b s 0) fun n=>k (.c (.int .i64 n)))
 |_=>false
noncomputable def ab7 (l:List AV)(k:RV->Bool):Bool:=match l with
 |[.c (.str s), .c (.int .u8 (.ofNat b))]=>iff (Nat.ble b 255) (fN (iq b s) fun n=>k (.c (.int .i64 (Int.ofNat n))))
 |_=>false
noncomputable def intsOf (es:List ME):(List Int->Bool)->Bool:=List.rec (motive:=fun _=>(List Int->Bool)->Bool) (fun k=>k []) (fun e _ ih k=>match e.key with
 | .c (.int .i64 n)=>ih fun l=>k (n::l)
 |_=>false) es
def insL (x:Int):List Int->List Int
 |[]=>[x]
 |y::r=>if fF x y then x::y::r else y::insL x r
def sortL:List Int->List Int
 |[]=>[]
 |x::r=>insL x (sortL r)
def I5:List Int->Bool
 |[]=>true
 |x::r=>r.all (fun y=>fF x y)&&I5 r
def Ky (clock:Nat):List Nat->Bool
 |[]=>true
 |b::r=>r.all (fun c=>!Nat.beq b c)&&(Nat.ble (Nat.succ b) clock&&Ky clock r)
instance (x:Int):Decidable (aO x):=by unfold aO;infer_instance
def keysB (ss:List Int):Bool:=I5 ss&&ss.all (fun x=>decide (aO x))&&Nat.ble ss.length 40
noncomputable def keysA (args:List AV)(h:Hp)(nx:Nat)(k:KV):Bool:=match args with
 |[.c (.clo id), .c (.fn bf)]=>iff (Nat.beq bf 306) (au (h.get id) fun o=>(match o with
  | .clo f [] [.c (.ptr c 0)]=>iff (Nat.beq f 382) (au (h.get c) fun oc=>(match oc with
    | .row [.mp m] _ (some 0)=>au (h.get m) fun om=>(match om with
      | .map es clock=>iff (Ky clock (es.map (·.born))) (intsOf es fun ks=>fL (sortL ks) fun ss=>iff (keysB ss) (match ss with
        |[]=>k (.c .bZ) h nx
        |ss=>pU h nx (.row (ss.map fun n=> .int .i64 n) 2 none) fun id h nx=>k (.c (.sl id 0 (llen ss) 0 none)) h nx))
      |_=>false)
    |_=>false))
  |_=>false))
 |_=>false
noncomputable def acD (l:List CV):(List (List Nat)->Bool)->Bool:=
 List.rec (motive:=fun _=>(List (List Nat)->Bool)->Bool) (fun k=>k []) (fun v _ ih k=>match v with| .str s=>ih fun ss=>k (s::ss)|_=>false) l
noncomputable def BQ (sep:List Nat)(l:List (List Nat)):List Nat:=List.rec (motive:=fun _=>List Nat) [] (fun s _ ih=>sep++(s++ih)) l
noncomputable def Xk (sep:List Nat)(l:List (List Nat)):List Nat:=match l with|[]=>[]|s::l=>s++BQ sep l
noncomputable def Xl (args:List AV)(h:Hp)(nx:Nat)(k:KV):Bool:=match args with
 |[.c (.sl id off len _ _), .c (.str sep)]=>au (h.get id) fun o=>au (rowOf o) fun cells=>fL (List.take len (List.drop off cells)) fun cs=>iff (Nat.beq (llen cs) len&&Nat.ble len 1048576) (acD cs fun ss=>Z8 (Xk sep ss) fun s=>iff (Nat.ble (llen s) 1073741824) (k (.c (.str s)) h nx))
 |_=>false
noncomputable def Ws (l:List AV)(k:RV->Bool):Bool:=match l with
 |[a]=>k a.rv
 |_=>false
noncomputable def Qn:mV:=fun f=>match f with
 |415=>some (.val rO)
 |358=>some (.val ab7)
 |309=>some (.call keysA)
 |95=>some (.call Xl)
 |152=>some .spine
 |288=>some (.val Ws)
 |_=>none
noncomputable def aeP (f:Nat)(args:List AV)(k:RV->Hp->Nat->Bool):Bool:=zn Tryz.prog 8 Qn (exec Tryz.prog 8 Qn 1000000) f args .leaf 8 k
noncomputable def isTrue (r:RV):Bool:=match r with| .c (.bool true)=>true|_=>false
end bU
end
section
namespace bU
open Go Go.RowKit
theorem Ye {a b:Nat}(ha:a<256)(hb:b<256):(UInt8.ofNat a==UInt8.ofNat b)=Nat.beq a b:=by
 cases h:Nat.beq a b with
 |true=>rw[aQ h];simp
 |false=>
  have hne:=qA h
  have:UInt8.ofNat a≠UInt8.ofNat b:=fun e=>hne (by
   have:=congrArg UInt8.toNat e
   simpa[UInt8.toNat_ofNat',Nat.mod_eq_of_lt ha,Nat.mod_eq_of_lt hb]using this)
  simpa using this
theorem Vu {b:Nat}(hb:b<256): ∀(s:List Nat)(i:Nat),small s->Ri b s i=(if Lib.indexByte (s.map UInt8.ofNat) (UInt8.ofNat b)== -1 then-1 else Lib.indexByte (s.map UInt8.ofNat) (UInt8.ofNat b)+i)
 |[],i,_=>by simp[Ri,Lib.indexByte]
 |a::s,i,hs=>by
  have ha:=hs a (by simp)
  have ih:=Vu hb s (i+1) fun x hx=>hs x (by simp[hx])
  have hge:=Lib.indexByte_ge (s.map UInt8.ofNat) (UInt8.ofNat b)
  show(Bool.casesOn (Nat.beq a b) (Ri b s (i+1)) (Int.ofNat i):Int)=_
  simp only[List.map_cons,Lib.indexByte,Ye ha hb]
  cases h:Nat.beq a b with
  |true=>simp
  |false=>
   simp only[ih,Bool.false_eq_true,if_false]
   by_cases h1:Lib.indexByte (s.map UInt8.ofNat) (UInt8.ofNat b)= -1
   ·simp[h1]
   ·have h2: ¬Lib.indexByte (s.map UInt8.ofNat) (UInt8.ofNat b)+1= -1:=by omega
    simp only[beq_iff_eq,h1,if_false,h2]
    omega
theorem abM {b:Nat}(hb:b<256)(s:List Nat)(hs:small s):Ri b s 0=Lib.indexByte (ba s).data.toList (UInt8.ofNat b):=by
 rw[Vu hb s 0 hs]
 have:(ba s).data.toList=s.map UInt8.ofNat:=by simp[ba]
 rw[this]
 by_cases h1:Lib.indexByte (s.map UInt8.ofNat) (UInt8.ofNat b)= -1
 ·simp[h1]
 ·simp[h1]
theorem su {b:Nat}(hb:b<256): ∀(s:List Nat),small s->iq b s=(s.map UInt8.ofNat).count (UInt8.ofNat b)
 |[],_=>rfl
 |a::s,hs=>by
  have ha:=hs a (by simp)
  have ih:=su hb s fun x hx=>hs x (by simp[hx])
  show(Bool.casesOn (Nat.beq a b) (iq b s) (Nat.succ (iq b s)):Nat)=_
  rw[List.map_cons,List.count_cons,Ye ha hb,ih]
  cases h:Nat.beq a b<;>simp
theorem ad3 {l:List AV}{k:RV->Bool}(hk:rO l k=true){ρ:Ren}{xs:List Value}(hx:F2 (GA ρ) l xs): ∃r x,k r=true/\GR ρ r x/\ ∀w,(callFunc 415 xs.toArray).run Tryz.prog w= .ok (.value x) w:=by
 unfold rO at hk
 split at hk
 ·rename_i s b
  replace hk:=aj hk
  obtain⟨hb,hk⟩:=hk
  have hb:b<256:=Nat.lt_succ_of_le (aT hb)
  rw[XF]at hk
  cases hx with
  |cons h1 t=>cases t with
   |cons h2 t=>cases t with
    |nil=>
     cases h1 with
     |c h1=>cases h1 with
      |str _ hs=>
       cases h2 with
       |c h2=>
        cases h2
        refine⟨_,_,hk, .c (.int _ _),fun w=>?_⟩
        have he:=run_callFunc_extern (P:=Tryz.prog) Tryz.func415 (by kernel_rfl) (by kernel_rfl) (by kernel_rfl) (e:=Extern.BytealgIndexByte.indexByte) (by kernel_rfl) #[.string (ba s), .int .u8 (Int.ofNat b)] w
        have hr:=Lib.run_indexByteString (P:=Tryz.prog) (ba s) (Int.ofNat b) w
        have hc:(Int.ofNat b).toNat.toUInt8=UInt8.ofNat b:=rfl
        rw[hc,<-abM hb s hs]at hr
        rw[hr]at he
        simpa using he
 ·cases hk
theorem aeg {l:List AV}{k:RV->Bool}(hk:ab7 l k=true){ρ:Ren}{xs:List Value}(hx:F2 (GA ρ) l xs): ∃r x,k r=true/\GR ρ r x/\ ∀w,(callFunc 358 xs.toArray).run Tryz.prog w= .ok (.value x) w:=by
 unfold ab7 at hk
 split at hk
 ·rename_i s b
  replace hk:=aj hk
  obtain⟨hb,hk⟩:=hk
  have hb:b<256:=Nat.lt_succ_of_le (aT hb)
  rw[gW]at hk
  cases hx with
  |cons h1 t=>cases t with
   |cons h2 t=>cases t with
    |nil=>
     cases h1 with
     |c h1=>cases h1 with
      |str _ hs=>
       cases h2 with
       |c h2=>
        cases h2
        refine⟨_,_,hk, .c (.int _ _),fun w=>?_⟩
        have he:=run_callFunc_extern (P:=Tryz.prog) Tryz.func358 (by kernel_rfl) (by kernel_rfl) (by kernel_rfl) (e:=Extern.BytealgCount.count) (by kernel_rfl) #[.string (ba s), .int .u8 (Int.ofNat b)] w
        have hr:=Lib.run_countString (P:=Tryz.prog) (ba s) (Int.ofNat b) w
        have hc:(Int.ofNat b).toNat.toUInt8=UInt8.ofNat b:=rfl
        have hd:(ba s).data.toList=s.map UInt8.ofNat:=by simp[ba]
        rw[hc,Lib.countByte,hd,<-su hb s hs]at hr
        rw[hr]at he
        simpa using he
 ·cases hk
end bU
end
end Go.Proofs.YtakhobfamnjnoaaGreatDoor
