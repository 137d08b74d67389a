/- move.longest: the longest list of a table. -/
import Derived.Test.YtglbkodmmogomaaGreatDoorM32
set_option linter.unusedVariables false
set_option linter.unusedSimpArgs false
set_option maxHeartbeats 2000000
set_option maxRecDepth 100000
namespace Go.Proofs.YtglbkodmmogomaaGreatDoor
open Go Go.RowKit
section
variable {P:Program} {ops:Array Oper} {C:World->Prop} {Q:Act->World->Prop}
theorem JF {n i k m:Nat}{listed:Array Bool}{a:Act}{w:World}{o o' o'':Oper}(hp:zY ops listed=none)(hr:Region.ready .any ops listed=[i,k,m])(ho:ops[i]?=some o)(hw:Region.wanted o (yielded ops a.tmps)=true)
 (ho':ops[k]?=some o') (hw':Region.wanted o' (yielded ops a.tmps)=true) (XR:ops[m]?=some o'') (hw'':Region.wanted o'' (yielded ops a.tmps)=true)
 (h: ∀K:Act->World->Prop,(∀a' w',C w'->dP P ops C Q n (listed.setIfInBounds i true) a' w'->K a' w')->o.wp P a w K (gU Q))
 (h': ∀K:Act->World->Prop,(∀a' w',C w'->dP P ops C Q n (listed.setIfInBounds k true) a' w'->K a' w')->o'.wp P a w K (gU Q))
 (h'': ∀K:Act->World->Prop,(∀a' w',C w'->dP P ops C Q n (listed.setIfInBounds m true) a' w'->K a' w')->o''.wp P a w K (gU Q)):dP P ops C Q (n+1) listed a w:=by
 unfold dP
 rw[hp,hr]
 refine⟨by simp,fun j hj=>?_⟩
 have hj:j=i\/j=k\/j=m:=by simpa using hj
 rcases hj with rfl|rfl|rfl
 ·refine⟨o,ho,?_⟩
  rw[if_pos hw]
  exact h _ fun a' w' h1 h2=>⟨h1,h2⟩
 ·refine⟨o',ho',?_⟩
  rw[if_pos hw']
  exact h' _ fun a' w' h1 h2=>⟨h1,h2⟩
 ·refine⟨o'',XR,?_⟩
  rw[if_pos hw'']
  exact h'' _ fun a' w' h1 h2=>⟨h1,h2⟩
end
attribute [local irreducible] bH dP H2.bW
theorem KG {T:Tab}{k:Nat}{q:Int×Cell}(h:T[k]?=some q):jK (T.take (k+1))=max (jK (T.take k)) q.2.2.length:=by
 unfold jK
 rw[List.take_add_one,h,Option.toList_some,List.foldl_append]
 rfl
theorem Pj {T:Tab}(hT:iy T)(k:Nat):jK (T.take k)<=16:=by
 have:=Fv (T:=T.take k) (n:=17) (by omega) (fun p hp=>by have:=(hT.cell p (List.mem_of_mem_take hp)).2.2;omega)
 omega
theorem Ij (B:Nat->Prop)(b m:Nat)(T:Tab)(w:World)(hT:TabAt w B b m T):
 Calls Tryz.prog 44 #[.pointer (some ⟨b,0,none⟩)] w (Gives w (.int .i64 (jK T:Int))):=by
 have ck:=rP B b m T w hT
 have H:=Lib.hid hT
 clear hT
 go_enter Tryz.func44,Tryz.ntmps44
 go_wp2_with fail
 (with_reducible refine ck.mono ?_)
 clear ck
 rintro e W2 ⟨v,rfl,hown,-,k2⟩
 obtain⟨va,vc,rfl⟩:=ay hown
 have Uo:T.length<=9223372036854775807:=by
  obtain⟨_,_,e1,e2,e3,_⟩:=(Reads.bQ hown).at
  unfold maxLen at e3
  unfold aQ at e2
  rw[List.length_map]at e2
  omega
 have hkl:(aQ T).length=T.length:=by unfold aQ;rw[List.length_map]
 rw[hkl]at hown
 have K2:=Lib.hid (And.intro k2 (And.intro (H.out.pure k2) hown))
 rw[hkl]
 clear hown k2
 go_wp2_with fail
 go_loopg [3,11] T.length (fun g vn vi wr=> ∃k:Nat,k<=T.length/\vi= .int .i64 (k:Int)/\vn= .int .i64 ((jK (T.take k):Nat):Int)/\T.length-k<=g/\Kept none' W2 wr)
 case atStart=>exact⟨0,by omega,rfl,rfl,by omega,Kept.refl _ _⟩
 case round=>
  obtain⟨k,hk,rfl,rfl,hg,hkp⟩:=hrel
  by_cases hlt:k<T.length
  ·obtain⟨q,hq⟩: ∃q,T[k]?=some q:=⟨_,List.getElem?_eq_getElem hlt⟩
   obtain⟨pa,pc,pe,_,_,hcell⟩:=((Reads.bQ K2.out.2.2).pure hkp).at
   injection pe with pe1 yI wW
   subst pe1 wW
   clear yI
   obtain⟨bi,rJ,rfl,hcell2⟩:=hcell.resolve_left (fun h=>by rw[h]at hkl;simp at hkl;omega)
   have y0:=hcell2 k q.1 (by unfold aQ;rw[List.getElem?_map,hq];rfl)
   clear hcell hcell2
   have cg:=get_any B b m T q.1 wr (K2.out.2.1.pure hkp)
   have hget:=IU K2.out.2.1.ok.rises hq
   unfold Ho at cg
   rw[hget]at cg
   simp only[Option.getD_some,Option.isSome_some]at cg
   have hsn:=KG hq
   obtain⟨key,acc,L⟩:=q
   have Ut:L.length<=16:=(K2.out.2.1.ok.cell _ (List.mem_of_getElem? hq)).2.2
   have hn16:=Pj K2.out.2.1.ok k
   obtain⟨N,hN⟩: ∃N,jK (T.take k)=N:=⟨_,rfl⟩
   rw[hN]at hsn hn16
   simp only at cg y0 hsn
   have G:=Lib.hid (And.intro hg (And.intro hkp (And.intro hsn hN)))
   clear hq hg hkp hget hkl hsn
   rw[hN]
   clear hN
   go_wp2_with fail
   (with_reducible refine cg.mono ?_)
   clear cg
   rintro e w3 ⟨lv,n',rfl,hl1,rfl,k3⟩
   obtain⟨la,lc,rfl⟩:=ay hl1
   have hmx:max (N:Int) (L.length:Int)=((max N L.length:Nat):Int):=by omega
   have F:=Lib.hid (G.out.2.1.trans (k3.alloc (.cells #[.int .i64 acc, .slice la L.length lc] 109)))
   clear k3 hl1 y0
   go_wp2_with fail
   try rw[hmx]
   go_roundg (T.length-(k+1))
   case rel=>exact⟨k+1,by omega,by go_num,by rw[G.out.2.2.1];try rw[hmx],Nat.le_refl _,F.out⟩
   case measure=>have:=G.out.1;omega
  ·have e1:k=T.length:=by omega
   subst e1
   have F:=Lib.hid hkp
   clear hkp
   go_wp2_with fail
   go_ret
   exact⟨dY (by rw[List.take_of_length_le (Nat.le_refl _)]),K2.out.1.trans F.out⟩
end Go.Proofs.YtglbkodmmogomaaGreatDoor
