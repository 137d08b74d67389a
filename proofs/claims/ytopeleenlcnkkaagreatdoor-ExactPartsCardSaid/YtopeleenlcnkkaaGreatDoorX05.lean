/- DERIVED: THE SHELF's CONTRACTS AT THIS DUMP, IN PLAIN WORDS (tools/lay-plain.mjs out of 'YtopeleenlcnkkaaGreatDoorShelf.lean', which tools/lay-shelf.mjs wrote): THE SAME DECLARATIONS UNDER THE SAME NAMES: 'import', 'namespace', 'open', 'def', 'theorem' AND NOTHING ELSE: no command of the shelf's: FOR A HAND-IN. Each laying: the table of numbers ('.._ren') and one theorem, a field a fact of the dump's own or the kernel's comparison; each contract: ONE APPLICATION. -/
import Derived.Shelf.SlIterI.Nil
import Derived.Shelf.SlSortCmp.NoneTotal
import Derived.Test.YtopeleenlcnkkaaGreatDoorX04
import Derived.Sort.OwnSortedInts
import Derived.Test.YtopeleenlcnkkaaGreatDoorChecked
import Derived.ProofKit
import Derived.OpenShut
import Derived.ShutString
import Derived.ChangeCalls
set_option linter.unusedVariables false
set_option linter.unusedSimpArgs false
set_option maxHeartbeats 400000
set_option maxRecDepth 100000
namespace Go.Proofs
open Go.Shelf
def Tryz.keysL_ren:Go.Shelf.Ren:=⟨fun|7=>62|10=>99|n=>n,fun|23=>127|26=>2|3=>124|28=>132|0=>0|27=>131|33=>160|4=>4|n=>n,fun|n=>n⟩
theorem Tryz.keysL:Go.Proofs.SlLaysZI.n7 Tryz.prog Tryz.keysL_ren:={
 mixed:=by kernel_rfl
 f7:=⟨Tryz.f62.name,by decide,Tryz.func62.trans (congrArg some (by kernel_rfl))⟩
 f10:=⟨Tryz.f99.name,by decide,Tryz.func99.trans (congrArg some (by kernel_rfl))⟩
 t0:=Tryz.underlying0
 a0:=Tryz.isAgg0
 z0:=Tryz.sizeOf0
 v0:=Tryz.zeroValue0
 t4:=Tryz.underlying4
 a4:=Tryz.isAgg4
 z4:=Tryz.sizeOf4
 v4:=Tryz.zeroValue4
 t23:=Tryz.underlying127
 a23:=Tryz.isAgg127
 z23:=Tryz.sizeOf127
 v23:=Tryz.zeroValue127
 t26:=Tryz.underlying2
 a26:=Tryz.isAgg2
 z26:=Tryz.sizeOf2
 v26:=Tryz.zeroValue2
 t27:=Tryz.underlying131
 a27:=Tryz.isAgg131
 z27:=Tryz.sizeOf131
 v27:=Tryz.zeroValue131
 t28:=Tryz.underlying132
 a28:=Tryz.isAgg132
 z28:=Tryz.sizeOf132
 v28:=Tryz.zeroValue132
 t33:=Tryz.underlying160
 a33:=Tryz.isAgg160
 z33:=Tryz.sizeOf160
 v33:=Tryz.zeroValue160}
def Tryz.collectL_ren:Go.Shelf.Ren:=⟨fun|8=>97|11=>121|n=>n,fun|26=>2|28=>132|24=>65|0=>0|33=>160|4=>4|n=>n,fun|n=>n⟩
theorem Tryz.collectL:Go.Proofs.SlLaysZI.n8 Tryz.prog Tryz.collectL_ren:={
 mixed:=by kernel_rfl
 f8:=⟨Tryz.f97.name,by decide,Tryz.func97.trans (congrArg some (by kernel_rfl))⟩
 f11:=⟨Tryz.f121.name,by decide,Tryz.func121.trans (congrArg some (by kernel_rfl))⟩
 t0:=Tryz.underlying0
 a0:=Tryz.isAgg0
 z0:=Tryz.sizeOf0
 v0:=Tryz.zeroValue0
 t24:=Tryz.underlying65
 a24:=Tryz.isAgg65
 z24:=Tryz.sizeOf65
 v24:=Tryz.zeroValue65
 t26:=Tryz.underlying2
 a26:=Tryz.isAgg2
 z26:=Tryz.sizeOf2
 v26:=Tryz.zeroValue2
 t28:=Tryz.underlying132
 a28:=Tryz.isAgg132
 z28:=Tryz.sizeOf132
 v28:=Tryz.zeroValue132
 i26:=by kernel_rfl}
def Tryz.sortL_ren:Go.Shelf.Ren:=⟨fun|6=>98|15=>123|14=>122|28=>151|29=>152|20=>143|21=>144|22=>145|23=>146|24=>147|25=>148|26=>149|27=>150|46=>175|47=>176|48=>177|49=>178|50=>179|57=>200|n=>n,fun|22=>65|24=>2|25=>125|3=>3|39=>190|0=>0|53=>232|55=>165|4=>4|46=>226|45=>225|50=>64|5=>5|9=>9|66=>261|70=>265|76=>288|77=>289|n=>n,fun|n=>n⟩
theorem Tryz.sortL:Go.Proofs.SlLaysF.n6 Tryz.prog Tryz.sortL_ren:={
 mixed:=by kernel_rfl
 f6:=⟨Tryz.f98.name,by decide,Tryz.func98.trans (congrArg some (by kernel_rfl))⟩
 f14:=⟨Tryz.f122.name,by decide,Tryz.func122.trans (congrArg some (by kernel_rfl))⟩
 f15:=Tryz.func123.trans (congrArg some (by kernel_rfl))
 f20:=⟨Tryz.f143.name,by decide,Tryz.func143.trans (congrArg some (by kernel_rfl))⟩
 f21:=⟨Tryz.f144.name,by decide,Tryz.func144.trans (congrArg some (by kernel_rfl))⟩
 f22:=⟨Tryz.f145.name,by decide,Tryz.func145.trans (congrArg some (by kernel_rfl))⟩
 f23:=⟨Tryz.f146.name,by decide,Tryz.func146.trans (congrArg some (by kernel_rfl))⟩
 f24:=⟨Tryz.f147.name,by decide,Tryz.func147.trans (congrArg some (by kernel_rfl))⟩
 f25:=⟨Tryz.f148.name,by decide,Tryz.func148.trans (congrArg some (by kernel_rfl))⟩
 f26:=⟨Tryz.f149.name,by decide,Tryz.func149.trans (congrArg some (by kernel_rfl))⟩
 f27:=⟨Tryz.f150.name,by decide,Tryz.func150.trans (congrArg some (by kernel_rfl))⟩
 f28:=Tryz.func151.trans (congrArg some (by kernel_rfl))
 f29:=Tryz.func152.trans (congrArg some (by kernel_rfl))
 f46:=⟨Tryz.f175.name,by decide,Tryz.func175.trans (congrArg some (by kernel_rfl))⟩
 f47:=Tryz.func176.trans (congrArg some (by kernel_rfl))
 f48:=Tryz.func177.trans (congrArg some (by kernel_rfl))
 f49:=⟨Tryz.f178.name,by decide,Tryz.func178.trans (congrArg some (by kernel_rfl))⟩
 f50:=⟨Tryz.f179.name,by decide,Tryz.func179.trans (congrArg some (by kernel_rfl))⟩
 f57:=⟨Tryz.f200.name,by decide,Tryz.func200.trans (congrArg some (by kernel_rfl))⟩
 t0:=Tryz.underlying0
 a0:=Tryz.isAgg0
 z0:=Tryz.sizeOf0
 v0:=Tryz.zeroValue0
 t3:=Tryz.underlying3
 a3:=Tryz.isAgg3
 z3:=Tryz.sizeOf3
 v3:=Tryz.zeroValue3
 t4:=Tryz.underlying4
 a4:=Tryz.isAgg4
 z4:=Tryz.sizeOf4
 v4:=Tryz.zeroValue4
 t5:=Tryz.underlying5
 a5:=Tryz.isAgg5
 z5:=Tryz.sizeOf5
 v5:=Tryz.zeroValue5
 t9:=Tryz.underlying9
 a9:=Tryz.isAgg9
 z9:=Tryz.sizeOf9
 v9:=Tryz.zeroValue9
 t22:=Tryz.underlying65
 a22:=Tryz.isAgg65
 z22:=Tryz.sizeOf65
 v22:=Tryz.zeroValue65
 a24:=Tryz.isAgg2
 z24:=Tryz.sizeOf2
 t25:=Tryz.underlying125
 a25:=Tryz.isAgg125
 z25:=Tryz.sizeOf125
 v25:=Tryz.zeroValue125
 t39:=Tryz.underlying190
 a39:=Tryz.isAgg190
 z39:=Tryz.sizeOf190
 v39:=Tryz.zeroValue190
 t45:=Tryz.underlying225
 a45:=Tryz.isAgg225
 z45:=Tryz.sizeOf225
 v45:=Tryz.zeroValue225
 t46:=Tryz.underlying226
 a46:=Tryz.isAgg226
 z46:=Tryz.sizeOf226
 v46:=Tryz.zeroValue226
 t50:=Tryz.underlying64
 a50:=Tryz.isAgg64
 z50:=Tryz.sizeOf64
 v50:=Tryz.zeroValue64
 t53:=Tryz.underlying232
 a53:=Tryz.isAgg232
 z53:=Tryz.sizeOf232
 v53:=Tryz.zeroValue232
 t55:=Tryz.underlying165
 a55:=Tryz.isAgg165
 z55:=Tryz.sizeOf165
 v55:=Tryz.zeroValue165
 t66:=Tryz.underlying261
 a66:=Tryz.isAgg261
 z66:=Tryz.sizeOf261
 v66:=Tryz.zeroValue261
 t70:=Tryz.underlying265
 a70:=Tryz.isAgg265
 z70:=Tryz.sizeOf265
 v70:=Tryz.zeroValue265
 t76:=Tryz.underlying288
 a76:=Tryz.isAgg288
 z76:=Tryz.sizeOf288
 v76:=Tryz.zeroValue288
 t77:=Tryz.underlying289
 a77:=Tryz.isAgg289
 z77:=Tryz.sizeOf289
 v77:=Tryz.zeroValue289}
end Go.Proofs
namespace Go.Proofs.YtopeleenlcnkkaaGreatDoor
section
open Go Go.RowKit Go.Shelf Go.Sort
def fJ (a b:Int):Int:=if a<b then-1 else if b<a then 1 else 0
def PL (a b:Int):Int:=if a=0 then b else a
def xE (a b:Int):Int:=PL (fJ (grp a) (grp b)) (fJ a b)
theorem Qs (a b:Int):decide (xE a b<0)=dD a b:=by
 rw[Bool.eq_iff_iff,pU]
 unfold xE PL fJ
 simp only[decide_eq_true_eq]
 by_cases h1:grp a<grp b
 ·simp[h1]
 ·by_cases h2:grp b<grp a
  ·simp[h1,h2];omega
  ·have:grp a=grp b:=by omega
   simp[this]
   by_cases h3:a<b
   ·simp[h3]
   ·by_cases h4:b<a<;>simp[h3,h4]
theorem Z9 (a b:Int)(w:World):Calls Tryz.prog 92 #[.int .i64 a, .int .i64 b] w fun e w'=>e= .returned (.int .i64 (fJ a b))/\w=w':=by
 by_cases h1:a<b
 ·have e:fJ a b= -1:=by simp[fJ,h1]
  have E:=Lib.hid e
  clear e
  go_enter Tryz.func92,Tryz.ntmps92
  go_wp2
  go_ret
  exact⟨fV E.out.symm,rfl⟩
 ·by_cases h2:b<a
  ·have e:fJ a b=1:=by simp[fJ,h1,h2]
   have E:=Lib.hid e
   clear e
   go_enter Tryz.func92,Tryz.ntmps92
   go_wp2
   go_ret
   exact⟨fV E.out.symm,rfl⟩
  ·have e:fJ a b=0:=by simp[fJ,h1,h2]
   have E:=Lib.hid e
   clear e
   go_enter Tryz.func92,Tryz.ntmps92
   go_wp2
   go_ret
   exact⟨fV E.out.symm,rfl⟩
theorem cmpInt (a b:Int)(w:World):Calls Tryz.prog 96 #[.int .i64 a, .int .i64 b] w fun e w'=>e= .returned (.int .i64 (fJ a b))/\w=w':=by
 by_cases h1:a<b
 ·have e:fJ a b= -1:=by simp[fJ,h1]
  have E:=Lib.hid e
  clear e
  go_enter Tryz.func96,Tryz.ntmps96
  go_wp2
  go_ret
  exact⟨fV E.out.symm,rfl⟩
 ·by_cases h2:b<a
  ·have e:fJ a b=1:=by simp[fJ,h1,h2]
   have E:=Lib.hid e
   clear e
   go_enter Tryz.func96,Tryz.ntmps96
   go_wp2
   go_ret
   exact⟨fV E.out.symm,rfl⟩
  ·have e:fJ a b=0:=by simp[fJ,h1,h2]
   have E:=Lib.hid e
   clear e
   go_enter Tryz.func96,Tryz.ntmps96
   go_wp2
   go_ret
   exact⟨fV E.out.symm,rfl⟩
theorem abp (a b:Int)(g cap:Nat)(w:World)(h0:w.cell? ⟨g,0,none⟩=some (.int .i64 a))(h1:w.cell? ⟨g,0+1,none⟩=some (.int .i64 b)):
 Calls Tryz.prog 95 #[.slice (some ⟨g,0,none⟩) 2 cap] w fun e w'=>e= .returned (.int .i64 (PL a b))/\w=w':=by
 go_enter Tryz.func95,Tryz.ntmps95
 go_wp2
 go_loop [8] (fun i=> ∃k:Nat,k<=2/\i= .int .i64 k/\(1<=k->a=0)/\(2<=k->b=0)) (fun i=>2-(intOf i).toNat)
 case atStart=>exact⟨0,by omega,rfl,by omega,by omega⟩
 case round=>
  obtain⟨k,hk,rfl,ha,hb⟩:=hrel
  have hk3:k=0\/k=1\/k=2:=by omega
  rcases hk3 with rfl|rfl|rfl
  ·clear ha hb
   by_cases hz:a=0
   ·subst hz
    go_wp2
    go_round
    case rel=>exact⟨1,by omega,by go_num,fun _=>(by simp),by omega⟩
    case measure=>simp[intOf]
   ·have hz1:(a !=0)=true:=by simp[hz]
    go_wp2
    go_ret
    exact⟨fV (by unfold PL;rw[if_neg hz]),rfl⟩
  ·have ha':=ha (Nat.le_refl _)
   clear ha hb
   have A:=Lib.hid ha'
   clear ha'
   by_cases hz:b=0
   ·subst hz
    go_wp2
    go_round
    case rel=>exact⟨2,by omega,by go_num,fun _=>A.out,fun _=>(by simp)⟩
    case measure=>simp[intOf]
   ·have hz1:(b !=0)=true:=by simp[hz]
    go_wp2
    go_ret
    exact⟨fV (by unfold PL;rw[if_pos A.out]),rfl⟩
  ·have A:=Lib.hid (And.intro (ha (by omega)) (hb (by omega)))
   clear ha hb
   go_wp2
   go_ret
   exact⟨fV (by unfold PL;rw[if_pos A.out.1,A.out.2]),rfl⟩
theorem SH (w:World)(o:Obj):w.alloc o=grow (w.drewN 0) #[o]:=by
 unfold grow World.alloc
 rw[Array.push_eq_append]
 rfl
theorem EL (a b:Int)(w:World):Calls Tryz.prog 58 #[.int .i64 a, .int .i64 b] w fun e w'=>e= .returned (.int .i64 (xE a b))/\ ∃q os',w'=grow (w.drewN q) os':=by
 go_enter Tryz.func58,Tryz.ntmps58
 go_wp2_with fail
 refine(sF _ _).mono ?_;rintro e w' ⟨rfl,rfl⟩
 go_wp2_with fail
 refine(sF _ _).mono ?_;rintro e w' ⟨rfl,rfl⟩
 go_wp2_with fail
 refine(cmpInt _ _ _).mono ?_;rintro e w' ⟨rfl,rfl⟩
 go_wp2_with fail
 refine(Z9 _ _ _).mono ?_;rintro e w' ⟨rfl,rfl⟩
 go_wp2_with fail
 refine(abp (fJ (grp a) (grp b)) (fJ a b) w.heap.size 2 _ (by simp) (by simp)).mono ?_;rintro e w' ⟨rfl,rfl⟩
 go_wp2_with fail
 go_ret
 exact⟨rfl,0,_,SH _ _⟩
end
section
open Go Go.RowKit Go.Shelf
def vK:Value->Option (DataW Unit×List MemPlace):=fun _=>some (.lit (.bool true),[])
theorem aI.wf {n:Int}(h:aI n):(Lit.int .i64 n).wf=true:=by
 unfold aI at h
 exact WalkArith.wf_i64 h
theorem UR {t:T3}(h:aI t.1):WideElems.rd Tryz.prog 2 vK (ent t)=some (.int .i64 t.1, .lit (.bool true))/\WideElems.rg Tryz.prog 2 vK (ent t)=(.int .i64 t.1, .lit (.bool true)):=by
 have h1:WideElems.rd Tryz.prog 2 vK (ent t)=some (.int .i64 t.1, .lit (.bool true)):=by
  unfold WideElems.rd
  rw[show(ent t).key= .int .i64 t.1 from rfl,Maps.keyOf_int_mk Tryz.underlying2 h.wf]
  rfl
 exact⟨h1,by unfold WideElems.rg;rw[h1];rfl⟩
theorem dw.owns {w:World}{m:Nat}{l:List (Int×Value)}(h:dw w m l)(hk: ∀p∈l,aI p.1)(hl:l.length<=maxLen):
 ∃D:DataW Unit,w.ownsMap Tryz.prog 2 vK m l.length D/\(intKeys D).Perm (l.map (·.1))/\Maps.size D=l.length:=by
 obtain⟨L,clock,h,rfl⟩:=h
 have hk': ∀t∈L,aI t.1:=fun t ht=>hk (kv t) (List.mem_map.2 ⟨t,ht,rfl⟩)
 have hmap:(L.map ent).map (WideElems.rg Tryz.prog 2 vK)=L.map (fun t=>(Lit.int .i64 t.1,DataW.lit (.bool true))):=by
  rw[List.map_map]
  apply List.map_congr_left
  intro t ht
  have:=(UR (hk' t ht)).2
  rw[Function.comp_apply,this]
 have hsz:((L.map ent).toArray).size<=maxLen:=by rw[List.size_toArray,List.length_map];rw[List.length_map]at hl;exact hl
 have hsz2:((L.map ent).toArray).size<=(L.map kv).length:=by simp
 refine⟨.map (List.foldr DataW.insert [] (List.map (WideElems.rg Tryz.prog 2 vK) (L.map ent).toArray.toList)),⟨(L.map ent).toArray,clock,h.heap,⟨hsz,⟨?_,?_,?_⟩,?_⟩,hsz2,rfl⟩,?_,?_⟩
 ·intro x hx
  rw[List.toList_toArray]at hx
  obtain⟨t,ht,rfl⟩:=List.mem_map.1 hx
  exact h.old t ht
 ·simpa[ent,Function.comp_def]using h.born
 ·have:(L.map ent).toArray.toList.map (·.key)=(L.map (·.1)).map (Value.int .i64):=by simp[ent,Function.comp_def]
  rw[this]
  exact List.Pairwise.map _ (fun a b hab e=>hab (by simpa using e)) h.keys
 ·intro x hx
  rw[List.toList_toArray]at hx
  obtain⟨t,ht,rfl⟩:=List.mem_map.1 hx
  exact⟨_,(UR (hk' t ht)).1⟩
 ·show(List.map (fun p=>_root_.Go.intOf p.1) (List.foldr DataW.insert [] (((L.map ent).toArray.toList).map (WideElems.rg Tryz.prog 2 vK)))).Perm _
  rw[List.toList_toArray,hmap]
  refine((WideShapes.sorted_perm _).map _).trans ?_
  simp[_root_.Go.intOf,kv,Function.comp_def]
 ·show(List.foldr DataW.insert [] (((L.map ent).toArray.toList).map (WideElems.rg Tryz.prog 2 vK))).length=_
  rw[length_sorted]
  simp
end
section
open Go Go.RowKit Go.Shelf Go.Sort
theorem nV (x y:Int):ltOf xE x y=dD x y:=by unfold ltOf;exact Qs x y
theorem Pz:SWO (ltOf xE) where
 irrefl x:=by rw[nV];exact dN x
 trans x y z h1 h2:=by rw[nV]at*;exact mX h1 h2
 ntrans x y z h1 h2:=by
  rw[nV]at*
  cases h:dD x z
  ·rfl
  ·rw[pU]at h
   have h1': ¬dD x y=true:=by simp[h1]
   have h2': ¬dD y z=true:=by simp[h2]
   rw[pU]at h1' h2'
   omega
theorem OA {T:Tab}(hT:dG T){ss:List Int}(hp:ss.Perm (aP T)):(ss.mergeSort fun x y=>!(ltOf xE) y x)=aP T:=by
 have e:(fun x y=>!(ltOf xE) y x)=fun x y=>!dD y x:=by funext x y;rw[nV]
 rw[e]
 have tr: ∀a b c:Int,(!dD b a)=true->(!dD c b)=true->(!dD c a)=true:=fun a b c h1 h2=>by
  simp only[Bool.not_eq_true']at*
  have:=Pz.ntrans c b a (by rw[nV];exact h2) (by rw[nV];exact h1)
  rwa[nV]at this
 have to: ∀a b:Int,(!dD b a||!dD a b)=true:=fun a b=>by
  by_cases h:a=b
  ·subst h;rw[dN];rfl
  ·rcases mY h with h'|h'
   ·rw[rM h'];rfl
   ·rw[rM h'];simp
 refine List.Perm.eq_of_pairwise (le:=fun a b=>(!dD b a)=true) (fun a b _ _ h1 h2=>?_) (List.pairwise_mergeSort tr to ss) ?_ ((List.mergeSort_perm ss _).trans hp)
 ·simp only[Bool.not_eq_true']at h1 h2
  by_cases h:a=b
  ·exact h
  ·rcases mY h with h'|h'
   ·rw[h']at h2;cases h2
   ·rw[h']at h1;cases h1
 ·unfold aP
  rw[List.pairwise_map]
  exact hT.imp fun{a b} h=>by rw[rM h];rfl
theorem Yk (m:Nat)(w:World):Calls Tryz.prog 62 #[.map (some m)] w fun e w'=>e= .returned (.func (.func 99) #[] #[.pointer (some ⟨w.heap.size,0,none⟩)])/\w'=w.alloc (.cells #[.map (some m)] 127):=
 callsIn_wide.1 (AnyZI.keys_in Tryz.keysL Fence.wide 3 trivial rfl (some m) w)
theorem O8 (m Bm:Nat)(T:Tab)(l:List (Int×Value))(w:World)(hl:dw w m l)(hperm:(l.map (·.1)).Perm (aP T))(hT:dR T)(hc:w.cell? ⟨Bm,0,none⟩=some (.map (some m))):
 Calls Tryz.prog 97 #[.func (.func 99) #[] #[.pointer (some ⟨Bm,0,none⟩)]] w fun e w'=> ∃(v:Value)(ss:List Int),e= .returned v/\ss.Perm (aP T)/\w'.ownsRow w.heap.size 2 1 v ss.length (ss.map (Value.int .i64))/\(v= .slice none 0 0↔ss=[])/\Kept none' w w':=by
 have hR: ∀p∈l,aI p.1:=fun p hp=>by
  have:p.1∈aP T:=hperm.mem_iff.1 (List.mem_map.2 ⟨p,hp,rfl⟩)
  obtain⟨q,hq,e⟩:=List.mem_map.1 this
  rw[<-e];exact hT.key q hq
 have hlen:l.length=T.length:=by
  have:=hperm.length_eq
  simpa[aP]using this
 have h320:=hT.len
 obtain⟨D,hown,hk,hsz⟩:=hl.owns hR (by unfold maxLen;omega)
 have hseq:=AnyZI.keys_gives (ρ:=Tryz.keysL_ren) {Tryz.keysL with} Fence.wide 2 trivial rfl (by omega) Bm m l.length D w (block_lt_of_cell hc) hc hown
 have afL:=AnyZI.collect_in Tryz.collectL Fence.wide 4 trivial trivial rfl (by omega) 99 #[.pointer (some ⟨Bm,0,none⟩)] trivial (enters_of Tryz.func99 (by kernel_rfl) rfl) (fun ss=>ss.Perm (intKeys D)) (Maps.size D) (by rw[hsz];unfold maxLen;omega) (by rw[hsz];omega) w hseq
 refine(callsIn_wide.1 afL).mono fun e w' ⟨v,ss,h1,h2,h3,h4,h5⟩=>⟨v,ss,h1,(h2.trans hk).trans hperm,h3,h4, .of_below h5⟩
theorem O9 (blk off size:Nat)(w:World):CmpLays1 Tryz.prog 58 #[] (Value.int .i64) xE blk off size w:=
 fun _ _ _ _ x y=>EL x y _
def EN (w:World)(l:List Int)(e:Ending)(w':World):Prop:=
 ∃v,e= .returned v/\w'.ownsRow w.heap.size 2 1 v l.length (ints l)/\(v= .slice none 0 0↔l=[])/\Kept none' w w'
theorem XJ (v:Value)(T:Tab)(hT:dR T)(ss:List Int)(base:Nat)(w:World)(hp:ss.Perm (aP T))(hown:w.ownsRow base 2 1 v ss.length (ints ss))(hne:ss≠[]):
 Calls Tryz.prog 98 #[v, .func (.func 58) #[] #[]] w fun e w'=>e= .returned (.tuple #[])/\w'.ownsRow base 2 1 v ss.length (ints (aP T))/\ ∀k,v.ownBlock=some k->Kept (one k) w w':=by
 obtain⟨hlen,h0|⟨g,cap,cur,rfl,hb,hg,hn,hc,hs,ht⟩⟩:=hown
 ·have:ss=[]:=List.eq_nil_of_length_eq_zero h0.2
  exact absurd this hne
 ·have hlt:g<w.heap.size:=(Array.getElem?_eq_some_iff.1 hg).1
  have hl320:ss.length<=320:=by rw[hp.length_eq];unfold aP;rw[List.length_map];exact hT.len
  have ht':cur.toList.take ss.length=ss.map (Value.int .i64):=by rw[Nat.mul_one]at ht;exact ht
  have hH:=holds_of_blockI hg ht'
  have hcon:=Any.slices_SortFunc_total Tryz.sortL (Value.int .i64) (fun _=>rfl) xE Pz 58 #[] g 0 cap ss.toArray w (enters_of Tryz.func58 (by kernel_rfl) rfl) (O9 g 0 _ w) hH hlt (by simp;omega)
   (fun x y h1 h2=>by
     rw[nV]at h1 h2
     by_cases h:x=y
     ·exact h
     ·rcases mY h with h'|h'
      ·rw[h']at h1;cases h1
      ·rw[h']at h2;cases h2)
  have Hw:Calls Tryz.prog 98 #[.slice (some ⟨g,0,none⟩) ss.length cap, .func (.func 58) #[] #[]] w fun e w'=>e= .returned (.tuple #[])/\ ∃n os,w'=grow (putRow (Value.int .i64) (Sort.ahead w n) g 0 (aP T).toArray) os:=by
   have h1:=hcon
   rw[List.toList_toArray,OA hT.rises hp]at h1
   exact h1
  refine Hw.mono fun e w' ⟨he,n,os,hw⟩=>⟨he,?_,?_⟩
  ·rw[hw]
   exact ownsRow_sortedI hp.length_eq.symm hb hg hn hc hs
  ·intro k hk
   simp[Value.ownBlock]at hk
   subst hk
   rw[hw]
   exact Kept.grown (grownBy_sortedI _) (fun k hk _=>by cases hk;rfl)
theorem QY (m Bm:Nat)(T:Tab)(l:List (Int×Value))(w:World)(hl:dw w m l)(hperm:(l.map (·.1)).Perm (aP T))(hT:dR T)(hc:w.cell? ⟨Bm,0,none⟩=some (.map (some m))):
 Calls Tryz.prog 61 #[.func (.func 99) #[] #[.pointer (some ⟨Bm,0,none⟩)], .func (.func 58) #[] #[]] w (EN w (aP T)):=by
 have h1:=O8 m Bm T l w hl hperm hT hc
 have H1:=Lib.hid h1
 have HT:=Lib.hid hT
 clear h1 hl hperm hT hc
 go_enter Tryz.func61,Tryz.ntmps61
 go_wp2_with fail
 refine H1.out.mono ?_
 rintro e w1 ⟨v,ss,rfl,hp,hown,hnil,hk⟩
 by_cases hne:ss=[]
 ·subst hne
  obtain rfl:v= .slice none 0 0:=hnil.2 rfl
  have hT0:aP T=[]:=List.eq_nil_of_length_eq_zero (by have:=hp.length_eq;simpa using this.symm)
  have hcon:=AnyF.slices_SortFunc_none {Tryz.sortL with} none 0 (.func (.func 58) #[] #[]) w1
  have Hw:Calls Tryz.prog 98 #[.slice none 0 0, .func (.func 58) #[] #[]] w1 fun e w'=>e= .returned (.tuple #[])/\w'=w1:=hcon
  have F:EN w (aP T) (.returned (.slice none 0 0)) w1:=⟨_,rfl,by rw[hT0];exact World.ownsRow_nil _ _ _ _,by rw[hT0];simp,hk⟩
  have F':=Lib.hid F
  have HC:=Lib.hid Hw
  clear F hcon Hw hp hown hnil hT0 hk
  go_wp2_with fail
  refine HC.out.mono ?_
  rintro e w2 ⟨rfl,rfl⟩
  go_wp2_with fail
  go_ret
  exact F'.out
 ·have hcon:=XJ v T HT.out ss w.heap.size w1 hp hown hne
  have F: ∀w2:World,w2.ownsRow w.heap.size 2 1 v ss.length (ints (aP T))->(∀k,v.ownBlock=some k->Kept (one k) w1 w2)->EN w (aP T) (.returned v) w2:=fun w2 h1 h2=>by
   have hl:ss.length=(aP T).length:=hp.length_eq
   refine⟨v,rfl,by rw[<-hl];exact h1,?_,?_⟩
   ·rw[hnil]
    constructor
    ·intro h;exact absurd h hne
    ·intro h;rw[h]at hl;exact List.eq_nil_of_length_eq_zero hl
   ·rcases hown.2 with⟨_,h0⟩|⟨g,cap,cur,rfl,hb,_⟩
    ·exact absurd (List.eq_nil_of_length_eq_zero h0) hne
    ·exact hk.new (h2 g rfl) (fun k hk e=>by unfold one at e;omega)
  have F':=Lib.hid F
  have HC:=Lib.hid hcon
  obtain⟨a,cap,rfl⟩:=ay hown
  clear F hcon hp hown hnil hk
  go_wp2_with fail
  refine HC.out.mono ?_
  rintro e w2 ⟨rfl,g1,g2⟩
  have G:=F'.out w2 g1 g2
  have G':=Lib.hid G
  clear G g1 g2
  go_wp2_with fail
  go_ret
  exact G'.out
theorem uJ (B:Nat->Prop)(b m:Nat)(T:Tab)(w:World)(h:TabAt w B b m T):Calls Tryz.prog 31 #[.pointer (some ⟨b,0,none⟩)] w (EN w (aP T)):=by
 have hcb:=h.cell
 obtain⟨l,hml,hperm,hcs⟩:=h.map
 have HT:=Lib.hid h.ok
 have HM:=Lib.hid hml
 have HP:=Lib.hid hperm
 clear h hml hperm hcs
 go_enter Tryz.func31,Tryz.ntmps31
 go_wp2_with fail
 refine(Yk m w).mono ?_
 rintro e w1 ⟨rfl,rfl⟩
 have k1:Kept none' w (w.alloc (.cells #[.map (some m)] 127)):=(Kept.refl _ _).alloc _
 go_wp2_with fail
 refine(QY m w.heap.size T l _ (HM.out.kept k1 (fun h=>h)) HP.out HT.out (by simp)).mono ?_
 rintro e w2 ⟨v,rfl,g1,g2,g3⟩
 obtain⟨a,cap,rfl⟩:=ay g1
 have F:EN w (aP T) (.returned (.slice a (aP T).length cap)) w2:=⟨_,rfl,jF g1 (by simp),g2,k1.trans g3⟩
 have F':=Lib.hid F
 clear F g1 g2 g3
 go_wp2_with fail
 go_ret
 exact F'.out
end
section
open Go Go.RowKit
theorem qY {l:List Int}{i:Nat}{x:Int}(h:l[i]?=some x):(ints l)[i]?=some (.int .i64 x):=by simp[ints,h]
theorem Reads.at {w:World}{v:Value}{l:List Int}(h:Reads w 1 v (ints l)): ∃a cap,v= .slice a l.length cap/\l.length<=cap/\cap<=maxLen/\(l=[]\/ ∃b off,a=some ⟨b,off,none⟩/\ ∀i x,l[i]?=some x->w.cell? ⟨b,off+i,none⟩=some (.int .i64 x)):=by
 obtain⟨a,n,cap,rfl,h1,h2,h3,h4⟩:=h
 have hn:n=l.length:=by simpa using h3.symm
 subst hn
 refine⟨a,cap,rfl,h1,h2,?_⟩
 rcases h4 with h4|⟨b,off,rfl,h4⟩
 ·left
  have:(ints l).length=0:=by rw[h4];rfl
  rw[OV]at this
  exact List.eq_nil_of_length_eq_zero this
 ·exact .inr ⟨b,off,rfl,fun i x hx=>h4 i _ (qY hx)⟩
theorem dZ {a b:Bool}(h:a=b):Ending.returned (.bool a)= .returned (.bool b):=by rw[h]
theorem TabAt.lt {w:World}{B:Nat->Prop}{b m:Nat}{T:Tab}(h:TabAt w B b m T):m<w.heap.size/\b<w.heap.size:=by
 obtain⟨l,hl,_⟩:=h.map
 exact⟨hl.lt,(Array.getElem?_eq_some_iff.1 h.obj).1⟩
theorem Oe.none {w0 w w':World}{B:Nat->Prop}{b m:Nat}{T:Tab}{k:Int}{c:Cell}{e:Ending}(h:Oe w B b m T k c e w')(hk:Kept none' w0 w)(hm:w0.heap.size<=m):Kept none' w0 w':=
 hk.new h.2.2 (fun i hi e=>by unfold one at e;omega)
end
section
open Go Go.RowKit Go.ChangeShapes Go.WideShapes Go.ChangeAt Go.Deep
theorem aI.vX {n:Int}(h:(Lit.int .i64 n).wf=true):aI n:=by
 have h2:IntKind.i64.min<=n/\n<=9223372036854775807:=by simpa[Lit.wf]using h
 exact⟨by have:IntKind.i64.min= -9223372036854775808:=by decide
          omega,h2.2⟩
theorem Lm {w:World}{x:Addr}{v:Value}(h:w.cell? x=some v):x=⟨x.block,x.off,none⟩:=by
 unfold World.cell? at h
 split at h
 ·by_cases hs:x.spot.isSome=true
  ·rw[if_pos hs]at h;cases h
  ·have:x.spot=none:=by simpa using hs
   cases x;simp only at this;rw[this]
 ·cases h
section
variable {H:Type} {enc:TypeId×Value->H} {P:Program} {w:World}
theorem qw {t e:TypeId}{k fuel n cap:Nat}{a:Option Addr}{x:DataW H×List MemPlace}(ht:P.underlying t=some (.slice e))(hk:P.cellsOf e=k)(hk0:0<k)
 (h:DataW.trod enc P w 0 (fun _=>true) true fuel t [.slice a n cap]=some x):
 ∃cs:List Value,cs.length=n*k/\Reads w k (.slice a n cap) cs/\ ∀i,i<n-> ∃m y,DataW.trod enc P w 0 (fun _=>true) true m e ((cs.drop (i*k)).take k)=some y:=by
 rcases open_slice ht h with⟨h0,_⟩|⟨a',len,cap',m,f,D,Pl,h0,hb,hl,hm,hmm,rfl,hx⟩
 ·injection h0 with h0 _
  injection h0 with h1 h2 h3
  subst h1 h2 h3
  exact⟨[],by simp,Reads.nil _ _,fun i hi=>by omega⟩
 ·injection h0 with h0 _
  injection h0 with h1 h2 h3
  subst h1 h2 h3
  simp only[if_true]at hmm
  subst hmm
  have each: ∀j,j<n*k-> ∃v,w.cell? (a'.add j)=some v:=by
   intro j hj
   have hi:j/k<n:=(Nat.div_lt_iff_lt_mul hk0).2 hj
   have hr:j%k<k:=Nat.mod_lt _ hk0
   obtain⟨cs',h1,_⟩:=hx (j/k) (by omega)
   rw[hk]at h1
   obtain⟨_,hlen,hcell⟩:=World.cells?_some h1
   have h2:=hcell (j%k) hr
   rw[add_add,show j/k*k+j%k=j by rw[Nat.mul_comm];exact Nat.div_add_mod j k]at h2
   rw[h2,List.getElem?_eq_getElem (by omega)]
   exact⟨_,rfl⟩
  obtain⟨V,hV⟩:=choose_lt (α:=Value) (p:=fun j v=>w.cell? (a'.add j)=some v) each
  refine⟨(List.range (n*k)).map V,by simp,⟨_,_,_,rfl,hl,hm,by simp,?_⟩,fun i hi=>?_⟩
  ·by_cases hz:n*k=0
   ·left;rw[hz];rfl
   ·right
    have e0:=Lm (hV 0 (by omega))
    rw[Addr.add_zero']at e0
    refine⟨a'.block,a'.off,by rw[<-e0],fun j x hj=>?_⟩
    rw[List.getElem?_map]at hj
    obtain⟨j',hj',rfl⟩:=Option.map_eq_some_iff.1 hj
    obtain⟨hlt,rfl⟩:=List.getElem?_eq_some_iff.1 hj'
    simp only[List.length_range]at hlt
    have:=hV j hlt
    rw[e0,Addr.add_lit]at this
    simpa using this
  ·obtain⟨cs',h1,h2⟩:=hx i (by omega)
   rw[hk]at h1
   obtain⟨_,hlen,hcell⟩:=World.cells?_some h1
   refine⟨f,(D i,Pl i),?_⟩
   ·rw[show((((List.range (n*k)).map V).drop (i*k)).take k)=cs' from ?_]
    ·exact h2
    ·apply List.ext_getElem?
     intro j
     have hin:i*k+k<=n*k:=by rw[<-Nat.succ_mul];exact Nat.mul_le_mul_right k hi
     by_cases hj:j<k
     ·rw[List.getElem?_take,if_pos hj,List.getElem?_drop,List.getElem?_map,List.getElem?_range (by omega)]
      have h3:=hcell j hj
      rw[add_add,hV (i*k+j) (by omega)]at h3
      simpa using h3
     ·rw[List.getElem?_take,if_neg hj,List.getElem?_eq_none (by omega)]
theorem U8 {t e:TypeId}{fuel n cap:Nat}{a:Option Addr}{x:DataW H×List MemPlace}(ht:P.underlying t=some (.slice e))(he:P.underlying e=some (.int .i64))(hk:P.cellsOf e=1)
 (h:DataW.trod enc P w 0 (fun _=>true) true fuel t [.slice a n cap]=some x):
 ∃l:List Int,l.length=n/\Reads w 1 (.slice a n cap) (ints l)/\ ∀y∈l,aI y:=by
 obtain⟨cs,hl,hr,hel⟩:=qw ht hk (by omega) h
 have: ∃l:List Int,cs=ints l/\ ∀y∈l,aI y:=by
  rw[Nat.mul_one]at hl
  have acC: ∀v∈cs,∃y,v= .int .i64 y/\aI y:=by
   intro v hv
   obtain⟨i,hi,rfl⟩:=List.mem_iff_getElem.1 hv
   obtain⟨m,y,hy⟩:=hel i (by omega)
   obtain⟨z,hz,_,hw⟩:=DataW.trod_int he hy
   rw[Nat.mul_one,List.drop_eq_getElem_cons hi,List.take_succ_cons,List.take_zero]at hz
   injection hz with hz _
   exact⟨z,hz, .vX hw⟩
  clear hl hr hel
  induction cs with
  |nil=>exact⟨[],rfl,by simp⟩
  |cons v cs ih=>
   obtain⟨y,rfl,hy⟩:=acC v (by simp)
   obtain⟨l,rfl,hl⟩:=ih (fun u hu=>acC u (by simp[hu]))
   exact⟨y::l,rfl,by simpa using⟨hy,hl⟩⟩
 obtain⟨l,rfl,h64⟩:=this
 exact⟨l,by simpa using hl,hr,h64⟩
end
theorem own:ownKnob Tryz.prog.godebug=none:=by kernel_rfl
theorem laidOut:laidOutB Tryz.prog=true:=by kernel_rfl
noncomputable def readB (ts:List TypeId):Bool:=ts.all fun t=>Tryz.prog.readableRec t&&decide (t<Tryz.prog.types.size)
theorem Xc {H:Type}{enc:TypeId×Value->H}{W W':World}(hb:Below W.heap.size W W')(ts:List TypeId): ∀{vs:List Value}{ds:List (DataW H)}{ps:List MemPlace},readB ts=true->
 DataW.TrodAll enc Tryz.prog W 0 (fun _=>true) true ts vs ds ps-> ∃ps',DataW.TrodAll enc Tryz.prog W' 0 (fun b=>decide (b<W.heap.size)) true ts vs ds ps':=by
 induction ts with
 |nil=>
  intro vs ds ps _ h
  obtain⟨rfl,rfl,rfl⟩:=trodAll_nil h
  exact⟨[],trodAll_mk0⟩
 |cons t ts ih=>
  intro vs ds ps hr h
  obtain⟨v,vs',d,ds',p,q,rfl,rfl,rfl,h0,h1⟩:=trodAll_cons h
  unfold readB at hr
  rw[List.all_cons,Bool.and_eq_true,Bool.and_eq_true]at hr
  obtain⟨ps',h2⟩:=ih hr.2 h1
  have hlt: ∀x∈p,x.block<W.heap.size:=by obtain⟨m,hm⟩:=h0;exact DataW.trod_lt m _ _ _ hm
  exact⟨_,trodAll_cons_mk (Below.trod laidOut hr.1.1 (of_decide_eq_true hr.1.2) h0 hb hlt) h2⟩
end
end Go.Proofs.YtopeleenlcnkkaaGreatDoor
