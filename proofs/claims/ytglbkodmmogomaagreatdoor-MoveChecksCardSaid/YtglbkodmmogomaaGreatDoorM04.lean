/- Put, Get, Drop. -/
import Derived.Test.YtglbkodmmogomaaGreatDoorM03
import Derived.Shelf.SlIterI.Nil
import Derived.Shelf.SlSortCmp.NoneTotal
set_option linter.unusedVariables false
set_option linter.unusedSimpArgs false
set_option maxHeartbeats 800000
set_option maxRecDepth 100000
namespace Go.Proofs.YtglbkodmmogomaaGreatDoor
open Go Go.RowKit
theorem Fq {l:List (Int×Value)}{key:Int}{v:Value}(h:look l key=some v):(key,v)∈l:=by
 unfold look at h
 obtain⟨p,hp,rfl⟩:=Option.map_eq_some_iff.1 h
 have h1:=List.find?_some hp
 have h2:=List.mem_of_find?_eq_some hp
 have:key=p.1:=by simpa using h1
 subst this
 exact h2
theorem MZ {l:List (Int×Value)}{key:Int}(h:look l key=none):key∉l.map (·.1):=by
 unfold look at h
 intro hm
 obtain⟨p,hp,rfl⟩:=List.mem_map.1 hm
 simp at h
 exact h _ _ hp rfl
theorem EI {w:World}{B:Nat->Prop}{T:Tab}{l:List (Int×Value)}(hT:cu T)(hperm:(l.map (·.1)).Perm (aQ T))(hc: ∀p∈l,∃c,(p.1,c)∈T/\CellIs w B p.2 c)(key:Int):
 (look l key=none/\iQ T key=none)\/ ∃v c,look l key=some v/\iQ T key=some c/\CellIs w B v c:=by
 cases hl:look l key with
 |none=>
  left
  refine⟨rfl,CJ.2 (fun hm=>MZ hl (hperm.mem_iff.2 hm))⟩
 |some v=>
  right
  obtain⟨c,h1,h2⟩:=hc _ (Fq hl)
  exact⟨v,c,rfl,(sQ hT).2 h1,h2⟩
theorem uJ {key:Int}{v:Value}: ∀{l:List (Int×Value)}{p:Int×Value},(l.map (·.1)).Nodup->(p∈upd key v l↔p=(key,v)\/(p∈l/\p.1≠key))
 |[],p,_=>by simp[upd]
 |q::r,p,h=>by
  simp only[List.map_cons,List.nodup_cons]at h
  unfold upd
  split
  ·rename_i he
   have he':key=q.1:=by simpa using he
   rw[List.mem_cons,List.mem_cons]
   constructor
   ·rintro(h'|h')
    ·exact .inl h'
    ·exact .inr ⟨.inr h',fun e=>h.1 (List.mem_map.2 ⟨p,h',by rw[e,he']⟩)⟩
   ·rintro(h'|⟨h'|h',hne⟩)
    ·exact .inl h'
    ·subst h';exact absurd he'.symm hne
    ·exact .inr h'
  ·rename_i he
   have he':q.1≠key:=fun e=>he (by simp[e])
   rw[List.mem_cons,uJ h.2,List.mem_cons]
   constructor
   ·rintro(h'|h'|h')
    ·subst h';exact .inr ⟨.inl rfl,he'⟩
    ·exact .inl h'
    ·exact .inr ⟨.inr h'.1,h'.2⟩
   ·rintro(h'|⟨h'|h',hne⟩)
    ·exact .inr (.inl h')
    ·exact .inl h'
    ·exact .inr (.inr ⟨h',hne⟩)
theorem Aa {l r:List Int}(h1:l.Nodup)(h2:r.Nodup)(h: ∀x,x∈l↔x∈r):l.Perm r:=by
 rw[List.perm_iff_count]
 intro a
 rw[h1.count,h2.count]
 simp[h a]
theorem TabAt.put {w w':World}{B:Nat->Prop}{b m:Nat}{T:Tab}(h:TabAt w B b m T){l:List (Int×Value)}(hl:dh w m l)(hperm:(l.map (·.1)).Perm (aQ T))
 (hc: ∀p∈l,∃c,(p.1,c)∈T/\CellIs w B p.2 c) {k:Int} {c:Cell} {v:Value} (hl':dh w' m (upd k v l)) (hk:Kept (one m) w w') (hv:CellIs w' B v c) (hok:iy (jE k c T)):TabAt w' B b m (jE k c T):=by
 have hnd:=hl.nodup
 refine⟨h.hb,h.hm,hk.heap h.obj (fun e=>?_),⟨_,hl',?_,fun p hp=>?_⟩,hok⟩
 ·have:=h.obj
  rw[show b=m from e]at this
  obtain⟨L,cl,hL,_⟩:=hl
  rw[hL.heap]at this;cases this
 ·refine Aa hl'.nodup h.ok.rises.jE.nodup fun x=>?_
  unfold aQ
  simp only[List.mem_map]
  constructor
  ·rintro⟨p,hp,rfl⟩
   rcases(uJ hnd).1 hp with rfl|⟨hp,hne⟩
   ·exact⟨(k,c),(jF h.ok.rises).2 (.inl rfl),rfl⟩
   ·obtain⟨c',h1,_⟩:=hc p hp
    exact⟨(p.1,c'),(jF h.ok.rises).2 (.inr ⟨h1,hne⟩),rfl⟩
  ·rintro⟨p,hp,rfl⟩
   rcases(jF h.ok.rises).1 hp with rfl|⟨hp,hne⟩
   ·exact⟨(k,v),(uJ hnd).2 (.inl rfl),rfl⟩
   ·have:p.1∈l.map (·.1):=hperm.mem_iff.2 (List.mem_map.2 ⟨p,hp,rfl⟩)
    obtain⟨q,hq,e⟩:=List.mem_map.1 this
    exact⟨q,(uJ hnd).2 (.inr ⟨hq,by rw[e];exact hne⟩),e⟩
 ·rcases(uJ hnd).1 hp with rfl|⟨hp,hne⟩
  ·exact⟨c,(jF h.ok.rises).2 (.inl rfl),hv⟩
  ·obtain⟨c',h1,h2⟩:=hc p hp
   exact⟨c',(jF h.ok.rises).2 (.inr ⟨h1,hne⟩),h2.kept hk (.map hl B)⟩
def Ho (w:World)(T:Tab)(k:Int)(e:Ending)(w':World):Prop:=
 ∃lv n',e= .returned (.tuple #[.agg #[.int .i64 ((iQ T k).getD (0,[])).1,lv], .bool (iQ T k).isSome])/\w'.ownsRow w.heap.size 2 1 lv n' (ints ((iQ T k).getD (0,[])).2)/\n'=((iQ T k).getD (0,[])).2.length/\Kept none' w w'
theorem get_any (B:Nat->Prop)(b m:Nat)(T:Tab)(k:Int)(w:World)(h:TabAt w B b m T):
 Calls Tryz.prog 60 #[.pointer (some ⟨b,0,none⟩), .int .i64 k] w (Ho w T k):=by
 have hcb:=h.cell
 have hbl:=block_lt_of_cell hcb
 simp only[]at hbl
 obtain⟨l,hml,hperm,hcs⟩:=h.map
 have hz:=Tryz.zeroValue109
 have hk1:Kept none' w (w.alloc (.cells #[.int .i64 0, .slice none 0 0] 109)):=(Kept.refl _ _).alloc _
 have hlk:=(hml.kept hk1 (fun h=>h)).lookup (P:=Tryz.prog) Tryz.underlying113 Tryz.underlying2 k (hz _)
 have hlook:=EI h.ok.rises hperm hcs k
 have HT:=Lib.hid h
 clear h hml hperm hcs
 rcases hlook with⟨h1,h2⟩|⟨v0,c0,h1,h2,lv,rfl,hlv⟩
 ·rw[h1]at hlk
  simp only[Option.getD_none,Option.isSome_none]at hlk
  have H2:=Lib.hid h2
  clear h1 h2 hz hk1
  go_enter Tryz.func60,Tryz.ntmps60
  go_wp2_with fail
  obtain⟨W0,hW0⟩: ∃W0,((w.alloc (.cells #[.int .i64 0, .slice none 0 0] 109)).alloc (.cells #[.int .i64 0, .slice none 0 0] 109))=W0:=⟨_,rfl⟩
  have hs:w.heap.size+2<=W0.heap.size:=by rw[<-hW0];simp
  have XY:w.heap.size<W0.heap.size:=by omega
  have hk0:Kept none' w W0:=by rw[<-hW0];exact((Kept.refl _ _).alloc _).alloc _
  have z0:W0.cell? ⟨w.heap.size,0,none⟩=some (.int .i64 0):=by rw[<-hW0];simp
  have z1:W0.cell? ⟨w.heap.size,1,none⟩=some (.slice none 0 0):=by rw[<-hW0];simp
  have f0:W0.frozen? ⟨w.heap.size,0,none⟩=false:=by rw[<-hW0];simp
  have f1:W0.frozen? ⟨w.heap.size,1,none⟩=false:=by rw[<-hW0];simp
  rw[hW0];clear hW0 hlk hcb
  refine(I7 _ _ (ints []) _ (Reads.nil _ _) (rU _) (by simp)).mono ?_
  rintro e w1 ⟨v',n',rfl,g1,g2,k1⟩
  obtain⟨a',cap',rfl⟩:=ay g1
  have q0:=k1.cell (p:=⟨w.heap.size,0,none⟩) (fun h=>h) z0
  have q1:=k1.cell (p:=⟨w.heap.size,1,none⟩) (fun h=>h) z1
  have hf:=k1.fq
  have F:Ho w T k (.returned (.tuple #[.agg #[.int .i64 0, .slice a' n' cap'], .bool false])) ((w1.setCell ⟨w.heap.size,0,none⟩ (.int .i64 0)).setCell ⟨w.heap.size,1,none⟩ (.slice a' n' cap')):=by
   refine⟨_,n',by rw[H2.out];rfl,?_,by rw[H2.out];simpa using g2,((hk0.trans k1).setCell (p:=⟨w.heap.size,0,none⟩) (.inr (by simp)) _).setCell (p:=⟨w.heap.size,1,none⟩) (.inr (by simp)) _⟩
   rw[H2.out]
   refine lH (base:=W0.heap.size) ?_ (by omega)
   exact(((Kept.refl (fun k=>k<W0.heap.size) w1).setCell (p:=⟨w.heap.size,0,none⟩) (.inl (by simp;omega)) _).setCell (p:=⟨w.heap.size,1,none⟩) (.inl (by simp;omega)) _).owns g1
    (fun k hk h=>by have:=(g1.lt k hk).1;omega)
  have F':=Lib.hid F
  clear F g1 g2 hk0
  go_wp2_with fail
  refine bodyPost_ret (v:= .tuple #[.agg #[.int .i64 0, .slice a' n' cap'], .bool false]) (by simp[results,Tryz.results60,go_sem,q0,q1]) rfl F'.out
 ·rw[h1]at hlk
  simp only[Option.getD_some,Option.isSome_some]at hlk
  obtain⟨a2,n2,cap2,rfl,hj⟩:=hlv.1.slice
  clear hj
  have hc2:=(HT.out.ok.cell _ ((sQ HT.out.ok.rises).1 h2)).2.2
  have HL:=Lib.hid hlv.1
  clear hlv
  have H2:=Lib.hid h2
  clear h1 h2 hz hk1
  go_enter Tryz.func60,Tryz.ntmps60
  go_wp2_with fail
  obtain⟨W0,hW0⟩: ∃W0,((w.alloc (.cells #[.int .i64 0, .slice none 0 0] 109)).alloc (.cells #[.int .i64 c0.1, .slice a2 n2 cap2] 109))=W0:=⟨_,rfl⟩
  have hs:w.heap.size+2<=W0.heap.size:=by rw[<-hW0];simp
  have XY:w.heap.size<W0.heap.size:=by omega
  have hk0:Kept none' w W0:=by rw[<-hW0];exact((Kept.refl _ _).alloc _).alloc _
  have z0:W0.cell? ⟨w.heap.size,0,none⟩=some (.int .i64 0):=by rw[<-hW0];simp
  have z1:W0.cell? ⟨w.heap.size,1,none⟩=some (.slice none 0 0):=by rw[<-hW0];simp
  have f0:W0.frozen? ⟨w.heap.size,0,none⟩=false:=by rw[<-hW0];simp
  have f1:W0.frozen? ⟨w.heap.size,1,none⟩=false:=by rw[<-hW0];simp
  rw[hW0];clear hW0 hlk hcb
  refine(I7 _ _ (ints c0.2) _ (HL.out.pure hk0) (rU _) (by simp;omega)).mono ?_
  rintro e w1 ⟨v',n',rfl,g1,g2,k1⟩
  obtain⟨a',cap',rfl⟩:=ay g1
  have q0:=k1.cell (p:=⟨w.heap.size,0,none⟩) (fun h=>h) z0
  have q1:=k1.cell (p:=⟨w.heap.size,1,none⟩) (fun h=>h) z1
  have hf:=k1.fq
  have F:Ho w T k (.returned (.tuple #[.agg #[.int .i64 c0.1, .slice a' n' cap'], .bool true])) ((w1.setCell ⟨w.heap.size,0,none⟩ (.int .i64 c0.1)).setCell ⟨w.heap.size,1,none⟩ (.slice a' n' cap')):=by
   refine⟨_,n',by rw[H2.out];rfl,?_,by rw[H2.out];simpa using g2,((hk0.trans k1).setCell (p:=⟨w.heap.size,0,none⟩) (.inr (by simp)) _).setCell (p:=⟨w.heap.size,1,none⟩) (.inr (by simp)) _⟩
   rw[H2.out]
   refine lH (base:=W0.heap.size) ?_ (by omega)
   exact(((Kept.refl (fun k=>k<W0.heap.size) w1).setCell (p:=⟨w.heap.size,0,none⟩) (.inl (by simp;omega)) _).setCell (p:=⟨w.heap.size,1,none⟩) (.inl (by simp;omega)) _).owns g1
    (fun k hk h=>by have:=(g1.lt k hk).1;omega)
  have F':=Lib.hid F
  clear F g1 g2 hk0
  go_wp2_with fail
  refine bodyPost_ret (v:= .tuple #[.agg #[.int .i64 c0.1, .slice a' n' cap'], .bool true]) (by simp[results,Tryz.results60,go_sem,q0,q1]) rfl F'.out
theorem BJ {key:Int}{l:List (Int×Value)}{p:Int×Value}:p∈del key l↔p∈l/\p.1≠key:=by
 unfold del;simp;intro _;exact⟨fun h e=>h e.symm,fun h e=>h e.symm⟩
theorem TabAt.drop {w w':World}{B:Nat->Prop}{b m:Nat}{T:Tab}(h:TabAt w B b m T){l:List (Int×Value)}(hl:dh w m l)(hperm:(l.map (·.1)).Perm (aQ T))
 (hc: ∀p∈l,∃c,(p.1,c)∈T/\CellIs w B p.2 c) {k:Int} (hl':dh w' m (del k l)) (hk:Kept (one m) w w'):TabAt w' B b m (pJ k T):=by
 refine⟨h.hb,h.hm,hk.heap h.obj (fun e=>?_),⟨_,hl',?_,fun p hp=>?_⟩,h.ok.pJ k⟩
 ·have:=h.obj
  rw[show b=m from e]at this
  obtain⟨L,cl,hL,_⟩:=hl
  rw[hL.heap]at this;cases this
 ·refine Aa hl'.nodup h.ok.rises.pJ.nodup fun x=>?_
  unfold aQ
  simp only[List.mem_map]
  constructor
  ·rintro⟨p,hp,rfl⟩
   obtain⟨hp,hne⟩:=BJ.1 hp
   obtain⟨c',h1,_⟩:=hc p hp
   exact⟨(p.1,c'),qw.2 ⟨h1,hne⟩,rfl⟩
  ·rintro⟨p,hp,rfl⟩
   obtain⟨hp,hne⟩:=qw.1 hp
   have:p.1∈l.map (·.1):=hperm.mem_iff.2 (List.mem_map.2 ⟨p,hp,rfl⟩)
   obtain⟨q,hq,e⟩:=List.mem_map.1 this
   exact⟨q,BJ.2 ⟨hq,by rw[e];exact hne⟩,e⟩
 ·obtain⟨hp,hne⟩:=BJ.1 hp
  obtain⟨c',h1,h2⟩:=hc p hp
  exact⟨c',qw.2 ⟨h1,hne⟩,h2.kept hk (.map hl B)⟩
end Go.Proofs.YtglbkodmmogomaaGreatDoor
namespace Go.Proofs
open Go.Shelf
def Tryz.keysL_ren:Go.Shelf.Ren:=⟨fun|7=>90|10=>137|n=>n,fun|23=>113|26=>2|3=>109|28=>169|0=>0|27=>168|33=>188|4=>4|n=>n,fun|n=>n⟩
theorem Tryz.keysL:Go.Proofs.SlLaysZI.n7 Tryz.prog Tryz.keysL_ren:={
 mixed:=by kernel_rfl
 f7:=⟨Tryz.f90.name,by decide,Tryz.func90.trans (congrArg some (by kernel_rfl))⟩
 f10:=⟨Tryz.f137.name,by decide,Tryz.func137.trans (congrArg some (by kernel_rfl))⟩
 t0:=Tryz.underlying0
 a0:=Tryz.isAgg0
 z0:=Tryz.sizeOf0
 v0:=Tryz.zeroValue0
 t4:=Tryz.underlying4
 a4:=Tryz.isAgg4
 z4:=Tryz.sizeOf4
 v4:=Tryz.zeroValue4
 t23:=Tryz.underlying113
 a23:=Tryz.isAgg113
 z23:=Tryz.sizeOf113
 v23:=Tryz.zeroValue113
 t26:=Tryz.underlying2
 a26:=Tryz.isAgg2
 z26:=Tryz.sizeOf2
 v26:=Tryz.zeroValue2
 t27:=Tryz.underlying168
 a27:=Tryz.isAgg168
 z27:=Tryz.sizeOf168
 v27:=Tryz.zeroValue168
 t28:=Tryz.underlying169
 a28:=Tryz.isAgg169
 z28:=Tryz.sizeOf169
 v28:=Tryz.zeroValue169
 t33:=Tryz.underlying188
 a33:=Tryz.isAgg188
 z33:=Tryz.sizeOf188
 v33:=Tryz.zeroValue188}
def Tryz.collectL_ren:Go.Shelf.Ren:=⟨fun|8=>135|11=>169|n=>n,fun|26=>2|28=>169|24=>97|0=>0|33=>188|4=>4|n=>n,fun|n=>n⟩
theorem Tryz.collectL:Go.Proofs.SlLaysZI.n8 Tryz.prog Tryz.collectL_ren:={
 mixed:=by kernel_rfl
 f8:=⟨Tryz.f135.name,by decide,Tryz.func135.trans (congrArg some (by kernel_rfl))⟩
 f11:=⟨Tryz.f169.name,by decide,Tryz.func169.trans (congrArg some (by kernel_rfl))⟩
 t0:=Tryz.underlying0
 a0:=Tryz.isAgg0
 z0:=Tryz.sizeOf0
 v0:=Tryz.zeroValue0
 t24:=Tryz.underlying97
 a24:=Tryz.isAgg97
 z24:=Tryz.sizeOf97
 v24:=Tryz.zeroValue97
 t26:=Tryz.underlying2
 a26:=Tryz.isAgg2
 z26:=Tryz.sizeOf2
 v26:=Tryz.zeroValue2
 t28:=Tryz.underlying169
 a28:=Tryz.isAgg169
 z28:=Tryz.sizeOf169
 v28:=Tryz.zeroValue169
 i26:=by kernel_rfl}
def Tryz.sortL_ren:Go.Shelf.Ren:=⟨fun|6=>136|15=>171|14=>170|28=>208|29=>209|20=>200|21=>201|22=>202|23=>203|24=>204|25=>205|26=>206|27=>207|46=>235|47=>236|48=>237|49=>238|50=>239|57=>261|n=>n,fun|22=>97|24=>2|25=>110|3=>3|39=>212|0=>0|53=>288|55=>174|4=>4|46=>282|45=>281|50=>229|5=>5|9=>9|66=>312|70=>316|76=>330|77=>331|n=>n,fun|n=>n⟩
theorem Tryz.sortL:Go.Proofs.SlLaysF.n6 Tryz.prog Tryz.sortL_ren:={
 mixed:=by kernel_rfl
 f6:=⟨Tryz.f136.name,by decide,Tryz.func136.trans (congrArg some (by kernel_rfl))⟩
 f14:=⟨Tryz.f170.name,by decide,Tryz.func170.trans (congrArg some (by kernel_rfl))⟩
 f15:=Tryz.func171.trans (congrArg some (by kernel_rfl))
 f20:=⟨Tryz.f200.name,by decide,Tryz.func200.trans (congrArg some (by kernel_rfl))⟩
 f21:=⟨Tryz.f201.name,by decide,Tryz.func201.trans (congrArg some (by kernel_rfl))⟩
 f22:=⟨Tryz.f202.name,by decide,Tryz.func202.trans (congrArg some (by kernel_rfl))⟩
 f23:=⟨Tryz.f203.name,by decide,Tryz.func203.trans (congrArg some (by kernel_rfl))⟩
 f24:=⟨Tryz.f204.name,by decide,Tryz.func204.trans (congrArg some (by kernel_rfl))⟩
 f25:=⟨Tryz.f205.name,by decide,Tryz.func205.trans (congrArg some (by kernel_rfl))⟩
 f26:=⟨Tryz.f206.name,by decide,Tryz.func206.trans (congrArg some (by kernel_rfl))⟩
 f27:=⟨Tryz.f207.name,by decide,Tryz.func207.trans (congrArg some (by kernel_rfl))⟩
 f28:=Tryz.func208.trans (congrArg some (by kernel_rfl))
 f29:=Tryz.func209.trans (congrArg some (by kernel_rfl))
 f46:=⟨Tryz.f235.name,by decide,Tryz.func235.trans (congrArg some (by kernel_rfl))⟩
 f47:=Tryz.func236.trans (congrArg some (by kernel_rfl))
 f48:=Tryz.func237.trans (congrArg some (by kernel_rfl))
 f49:=⟨Tryz.f238.name,by decide,Tryz.func238.trans (congrArg some (by kernel_rfl))⟩
 f50:=⟨Tryz.f239.name,by decide,Tryz.func239.trans (congrArg some (by kernel_rfl))⟩
 f57:=⟨Tryz.f261.name,by decide,Tryz.func261.trans (congrArg some (by kernel_rfl))⟩
 t0:=Tryz.underlying0
 a0:=Tryz.isAgg0
 z0:=Tryz.sizeOf0
 v0:=Tryz.zeroValue0
 t3:=Tryz.underlying3
 a3:=Tryz.isAgg3
 z3:=Tryz.sizeOf3
 v3:=Tryz.zeroValue3
 t4:=Tryz.underlying4
 a4:=Tryz.isAgg4
 z4:=Tryz.sizeOf4
 v4:=Tryz.zeroValue4
 t5:=Tryz.underlying5
 a5:=Tryz.isAgg5
 z5:=Tryz.sizeOf5
 v5:=Tryz.zeroValue5
 t9:=Tryz.underlying9
 a9:=Tryz.isAgg9
 z9:=Tryz.sizeOf9
 v9:=Tryz.zeroValue9
 t22:=Tryz.underlying97
 a22:=Tryz.isAgg97
 z22:=Tryz.sizeOf97
 v22:=Tryz.zeroValue97
 a24:=Tryz.isAgg2
 z24:=Tryz.sizeOf2
 t25:=Tryz.underlying110
 a25:=Tryz.isAgg110
 z25:=Tryz.sizeOf110
 v25:=Tryz.zeroValue110
 t39:=Tryz.underlying212
 a39:=Tryz.isAgg212
 z39:=Tryz.sizeOf212
 v39:=Tryz.zeroValue212
 t45:=Tryz.underlying281
 a45:=Tryz.isAgg281
 z45:=Tryz.sizeOf281
 v45:=Tryz.zeroValue281
 t46:=Tryz.underlying282
 a46:=Tryz.isAgg282
 z46:=Tryz.sizeOf282
 v46:=Tryz.zeroValue282
 t50:=Tryz.underlying229
 a50:=Tryz.isAgg229
 z50:=Tryz.sizeOf229
 v50:=Tryz.zeroValue229
 t53:=Tryz.underlying288
 a53:=Tryz.isAgg288
 z53:=Tryz.sizeOf288
 v53:=Tryz.zeroValue288
 t55:=Tryz.underlying174
 a55:=Tryz.isAgg174
 z55:=Tryz.sizeOf174
 v55:=Tryz.zeroValue174
 t66:=Tryz.underlying312
 a66:=Tryz.isAgg312
 z66:=Tryz.sizeOf312
 v66:=Tryz.zeroValue312
 t70:=Tryz.underlying316
 a70:=Tryz.isAgg316
 z70:=Tryz.sizeOf316
 v70:=Tryz.zeroValue316
 t76:=Tryz.underlying330
 a76:=Tryz.isAgg330
 z76:=Tryz.sizeOf330
 v76:=Tryz.zeroValue330
 t77:=Tryz.underlying331
 a77:=Tryz.isAgg331
 z77:=Tryz.sizeOf331
 v77:=Tryz.zeroValue331}
end Go.Proofs
namespace Go.Proofs.YtglbkodmmogomaaGreatDoor
section
open Go Go.RowKit Go.Shelf Go.Sort
def ku (a b:Int):Int:=if a<b then-1 else if b<a then 1 else 0
def I8 (a b:Int):Int:=if a=0 then b else a
def uh (a b:Int):Int:=I8 (ku (grp a) (grp b)) (ku a b)
theorem Jy (a b:Int):decide (uh a b<0)=bD a b:=by
 rw[Bool.eq_iff_iff,lJ]
 unfold uh I8 ku
 simp only[decide_eq_true_eq]
 by_cases h1:grp a<grp b
 ·simp[h1]
 ·by_cases h2:grp b<grp a
  ·simp[h1,h2];omega
  ·have:grp a=grp b:=by omega
   simp[this]
   by_cases h3:a<b
   ·simp[h3]
   ·by_cases h4:b<a<;>simp[h3,h4]
theorem VF (a b:Int)(w:World):Calls Tryz.prog 99 #[.int .i64 a, .int .i64 b] w fun e w'=>e= .returned (.int .i64 (ku a b))/\w=w':=by
 by_cases h1:a<b
 ·have e:ku a b= -1:=by simp[ku,h1]
  have E:=Lib.hid e
  clear e
  go_enter Tryz.func99,Tryz.ntmps99
  go_wp2
  go_ret
  exact⟨dY E.out.symm,rfl⟩
 ·by_cases h2:b<a
  ·have e:ku a b=1:=by simp[ku,h1,h2]
   have E:=Lib.hid e
   clear e
   go_enter Tryz.func99,Tryz.ntmps99
   go_wp2
   go_ret
   exact⟨dY E.out.symm,rfl⟩
  ·have e:ku a b=0:=by simp[ku,h1,h2]
   have E:=Lib.hid e
   clear e
   go_enter Tryz.func99,Tryz.ntmps99
   go_wp2
   go_ret
   exact⟨dY E.out.symm,rfl⟩
theorem cmpInt (a b:Int)(w:World):Calls Tryz.prog 98 #[.int .i64 a, .int .i64 b] w fun e w'=>e= .returned (.int .i64 (ku a b))/\w=w':=by
 by_cases h1:a<b
 ·have e:ku a b= -1:=by simp[ku,h1]
  have E:=Lib.hid e
  clear e
  go_enter Tryz.func98,Tryz.ntmps98
  go_wp2
  go_ret
  exact⟨dY E.out.symm,rfl⟩
 ·by_cases h2:b<a
  ·have e:ku a b=1:=by simp[ku,h1,h2]
   have E:=Lib.hid e
   clear e
   go_enter Tryz.func98,Tryz.ntmps98
   go_wp2
   go_ret
   exact⟨dY E.out.symm,rfl⟩
  ·have e:ku a b=0:=by simp[ku,h1,h2]
   have E:=Lib.hid e
   clear e
   go_enter Tryz.func98,Tryz.ntmps98
   go_wp2
   go_ret
   exact⟨dY E.out.symm,rfl⟩
theorem Tn (a b:Int)(g cap:Nat)(w:World)(h0:w.cell? ⟨g,0,none⟩=some (.int .i64 a))(h1:w.cell? ⟨g,0+1,none⟩=some (.int .i64 b)):
 Calls Tryz.prog 97 #[.slice (some ⟨g,0,none⟩) 2 cap] w fun e w'=>e= .returned (.int .i64 (I8 a b))/\w=w':=by
 go_enter Tryz.func97,Tryz.ntmps97
 go_wp2
 go_loop [8] (fun i=> ∃k:Nat,k<=2/\i= .int .i64 k/\(1<=k->a=0)/\(2<=k->b=0)) (fun i=>2-(intOf i).toNat)
 case atStart=>exact⟨0,by omega,rfl,by omega,by omega⟩
 case round=>
  obtain⟨k,hk,rfl,ha,hb⟩:=hrel
  have hk3:k=0\/k=1\/k=2:=by omega
  rcases hk3 with rfl|rfl|rfl
  ·clear ha hb
   by_cases hz:a=0
   ·subst hz
    go_wp2
    go_round
    case rel=>exact⟨1,by omega,by go_num,fun _=>(by simp),by omega⟩
    case measure=>simp[intOf]
   ·have hz1:(a !=0)=true:=by simp[hz]
    go_wp2
    go_ret
    exact⟨dY (by unfold I8;rw[if_neg hz]),rfl⟩
  ·have ha':=ha (Nat.le_refl _)
   clear ha hb
   have A:=Lib.hid ha'
   clear ha'
   by_cases hz:b=0
   ·subst hz
    go_wp2
    go_round
    case rel=>exact⟨2,by omega,by go_num,fun _=>A.out,fun _=>(by simp)⟩
    case measure=>simp[intOf]
   ·have hz1:(b !=0)=true:=by simp[hz]
    go_wp2
    go_ret
    exact⟨dY (by unfold I8;rw[if_pos A.out]),rfl⟩
  ·have A:=Lib.hid (And.intro (ha (by omega)) (hb (by omega)))
   clear ha hb
   go_wp2
   go_ret
   exact⟨dY (by unfold I8;rw[if_pos A.out.1,A.out.2]),rfl⟩
theorem Lu (w:World)(o:Obj):w.alloc o=grow (w.drewN 0) #[o]:=by
 unfold grow World.alloc
 rw[Array.push_eq_append]
 rfl
theorem AY (a b:Int)(w:World):Calls Tryz.prog 50 #[.int .i64 a, .int .i64 b] w fun e w'=>e= .returned (.int .i64 (uh a b))/\ ∃q os',w'=grow (w.drewN q) os':=by
 go_enter Tryz.func50,Tryz.ntmps50
 go_wp2_with fail
 refine(xg _ _).mono ?_;rintro e w' ⟨rfl,rfl⟩
 go_wp2_with fail
 refine(xg _ _).mono ?_;rintro e w' ⟨rfl,rfl⟩
 go_wp2_with fail
 refine(cmpInt _ _ _).mono ?_;rintro e w' ⟨rfl,rfl⟩
 go_wp2_with fail
 refine(VF _ _ _).mono ?_;rintro e w' ⟨rfl,rfl⟩
 go_wp2_with fail
 refine(Tn (ku (grp a) (grp b)) (ku a b) w.heap.size 2 _ (by simp) (by simp)).mono ?_;rintro e w' ⟨rfl,rfl⟩
 go_wp2_with fail
 go_ret
 exact⟨rfl,0,_,Lu _ _⟩
end
section
open Go Go.RowKit Go.Shelf
def sO:Value->Option (DataW Unit×List MemPlace):=fun _=>some (.lit (.bool true),[])
theorem bF.wf {n:Int}(h:bF n):(Lit.int .i64 n).wf=true:=by
 unfold bF at h
 exact WalkArith.wf_i64 h
theorem MH {t:T3}(h:bF t.1):WideElems.rd Tryz.prog 2 sO (ent t)=some (.int .i64 t.1, .lit (.bool true))/\WideElems.rg Tryz.prog 2 sO (ent t)=(.int .i64 t.1, .lit (.bool true)):=by
 have h1:WideElems.rd Tryz.prog 2 sO (ent t)=some (.int .i64 t.1, .lit (.bool true)):=by
  unfold WideElems.rd
  rw[show(ent t).key= .int .i64 t.1 from rfl,Maps.keyOf_int_mk Tryz.underlying2 h.wf]
  rfl
 exact⟨h1,by unfold WideElems.rg;rw[h1];rfl⟩
theorem dh.owns {w:World}{m:Nat}{l:List (Int×Value)}(h:dh w m l)(hk: ∀p∈l,bF p.1)(hl:l.length<=maxLen):
 ∃D:DataW Unit,w.ownsMap Tryz.prog 2 sO m l.length D/\(intKeys D).Perm (l.map (·.1))/\Maps.size D=l.length:=by
 obtain⟨L,clock,h,rfl⟩:=h
 have hk': ∀t∈L,bF t.1:=fun t ht=>hk (kv t) (List.mem_map.2 ⟨t,ht,rfl⟩)
 have hmap:(L.map ent).map (WideElems.rg Tryz.prog 2 sO)=L.map (fun t=>(Lit.int .i64 t.1,DataW.lit (.bool true))):=by
  rw[List.map_map]
  apply List.map_congr_left
  intro t ht
  have:=(MH (hk' t ht)).2
  rw[Function.comp_apply,this]
 have hsz:((L.map ent).toArray).size<=maxLen:=by rw[List.size_toArray,List.length_map];rw[List.length_map]at hl;exact hl
 have hsz2:((L.map ent).toArray).size<=(L.map kv).length:=by simp
 refine⟨.map (List.foldr DataW.insert [] (List.map (WideElems.rg Tryz.prog 2 sO) (L.map ent).toArray.toList)),⟨(L.map ent).toArray,clock,h.heap,⟨hsz,⟨?_,?_,?_⟩,?_⟩,hsz2,rfl⟩,?_,?_⟩
 ·intro x hx
  rw[List.toList_toArray]at hx
  obtain⟨t,ht,rfl⟩:=List.mem_map.1 hx
  exact h.old t ht
 ·simpa[ent,Function.comp_def]using h.born
 ·have:(L.map ent).toArray.toList.map (·.key)=(L.map (·.1)).map (Value.int .i64):=by simp[ent,Function.comp_def]
  rw[this]
  exact List.Pairwise.map _ (fun a b hab e=>hab (by simpa using e)) h.keys
 ·intro x hx
  rw[List.toList_toArray]at hx
  obtain⟨t,ht,rfl⟩:=List.mem_map.1 hx
  exact⟨_,(MH (hk' t ht)).1⟩
 ·show(List.map (fun p=>_root_.Go.intOf p.1) (List.foldr DataW.insert [] (((L.map ent).toArray.toList).map (WideElems.rg Tryz.prog 2 sO)))).Perm _
  rw[List.toList_toArray,hmap]
  refine((WideShapes.sorted_perm _).map _).trans ?_
  simp[_root_.Go.intOf,kv,Function.comp_def]
 ·show(List.foldr DataW.insert [] (((L.map ent).toArray.toList).map (WideElems.rg Tryz.prog 2 sO))).length=_
  rw[length_sorted]
  simp
end
end Go.Proofs.YtglbkodmmogomaaGreatDoor
