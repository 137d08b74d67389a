/- slices.Equal at states. -/
import Derived.Test.YtglbkodmmogomaaGreatDoorM31
set_option linter.unusedVariables false
set_option linter.unusedSimpArgs false
set_option maxHeartbeats 1000000
set_option maxRecDepth 100000
namespace Go.Proofs.YtglbkodmmogomaaGreatDoor
section
open Go Go.RowKit
attribute [local irreducible] bH
def GL (xs ys:List St):Bool:=decide (xs=ys)
theorem JV {xs ys:List St}{k:Nat}{x y:St}(h:xs.take k=ys.take k)(hx:xs[k]?=some x)(hy:ys[k]?=some y)(e:x=y):xs.take (k+1)=ys.take (k+1):=by
 rw[List.take_add_one,List.take_add_one,h,hx,hy,e]
theorem Qk {xs ys:List St}(h:xs.length≠ys.length):GL xs ys=false:=decide_eq_false (fun e=>h (by rw[e]))
theorem RQ {xs ys:List St}{k:Nat}{x y:St}(hx:xs[k]?=some x)(hy:ys[k]?=some y)(h:x≠y):GL xs ys=false:=
 decide_eq_false (fun e=>by rw[e,hy]at hx;cases hx;exact h rfl)
theorem Oc {xs ys:List St}{k:Nat}(h:xs.take k=ys.take k)(hk:xs.length<=k)(hl:xs.length=ys.length):GL xs ys=true:=
 decide_eq_true (by rw[List.take_of_length_le hk,List.take_of_length_le (by omega)]at h;exact h)
theorem Jt (a b:Value)(xs ys:List St)(w:World)(ha:Reads w 2 a (dK xs))(hb:Reads w 2 b (dK ys)):
 Calls Tryz.prog 14 #[a,b] w (Gives w (.bool (GL xs ys))):=by
 obtain⟨pa,ca,rfl,a1,a2,a3⟩:=ha.mV
 obtain⟨pb,cb,rfl,b1,b2,b3⟩:=hb.mV
 unfold maxLen at a2 b2
 clear ha hb
 by_cases hl:xs.length=ys.length
 ·have hne:(((xs.length:Nat):Int) !=((ys.length:Nat):Int))=false:=by rw[hl];simp
  have A3:=Lib.hid a3
  have B3:=Lib.hid b3
  have HL:=Lib.hid hl
  clear a3 b3 hl
  go_enter Tryz.func14,Tryz.ntmps14
  go_wp2
  go_loopw [13] (fun i wr=> ∃k:Nat,k<=xs.length/\i= .int .i64 k/\xs.take k=ys.take k/\Kept none' w wr) (fun i _=>xs.length-(intOf i).toNat)
  case atStart=>exact⟨0,by omega,rfl,by simp,Kept.refl _ _⟩
  case round=>
   obtain⟨k,hk,rfl,ht,hkp⟩:=hrel
   have HT:=Lib.hid ht
   clear ht
   by_cases hlt:k<xs.length
   ·obtain⟨x,hx⟩: ∃x,xs[k]?=some x:=⟨_,List.getElem?_eq_getElem hlt⟩
    obtain⟨y,hy⟩: ∃y,ys[k]?=some y:=⟨_,List.getElem?_eq_getElem (by rw[<-HL.out];exact hlt)⟩
    obtain⟨b0,off,rfl,hc⟩:=A3.out.resolve_left (fun h=>by rw[h]at hlt;simp at hlt)
    obtain⟨b1,off1,rfl,hd⟩:=B3.out.resolve_left (fun h=>by rw[h]at hy;simp at hy)
    have x0:=hkp.cell (p:=⟨b0,off+k*2,none⟩) (fun h=>h) (hc k x hx).1
    have x1:=hkp.cell (p:=⟨b0,off+k*2+1,none⟩) (fun h=>h) (hc k x hx).2
    have y0:=hkp.cell (p:=⟨b1,off1+k*2,none⟩) (fun h=>h) (hd k y hy).1
    have y1:=hkp.cell (p:=⟨b1,off1+k*2+1,none⟩) (fun h=>h) (hd k y hy).2
    have HX:=Lib.hid (And.intro hx hy)
    have hlt2:k<ys.length:=by rw[<-HL.out];exact hlt
    clear hc hd hx hy A3 B3
    go_wp2_with fail
    refine ak [0,1,2,3,4,5,6,7,8] (fun W=>Kept none' wr W) (by kernel_rfl) (by kernel_rfl) rfl (Kept.refl _ _).drew ?_
    simp only[List.map_cons,List.map_nil,List.getElem?_toArray,List.getElem?_cons_zero,List.getElem?_cons_succ,Option.getD_some]
    iterate 8 (apply aj rfl rfl;(intro W hW;have c0:=hW.cell (p:=⟨b0,off+k*2,none⟩) (fun h=>h) x0;have c1:=hW.cell (p:=⟨b0,off+k*2+1,none⟩) (fun h=>h) x1;have d0:=hW.cell (p:=⟨b1,off1+k*2,none⟩) (fun h=>h) y0;have d1:=hW.cell (p:=⟨b1,off1+k*2+1,none⟩) (fun h=>h) y1;go_simp;rfl);go_frame)
    refine aj (v:= .bool (decide (x≠y))) rfl rfl ?_ ?_
    ·intro W hW
     go_simp
     by_cases hxy:x=y
     ·subst hxy;simp
     ·have: ¬(x.1=y.1/\x.2=y.2):=fun h=>hxy (Prod.ext h.1 h.2)
      simp[hxy]
      intro h1 h2
      have g1:x.1=y.1:=by have:=str_eq x.1 y.1;rw[h1]at this;simpa using this
      have g2:x.2=y.2:=by have:=str_eq x.2 y.2;rw[h2]at this;simpa using this
      exact this ⟨g1,g2⟩
    go_frame
    refine aG (fun _=>(Kept.refl _ _).drew) ?_
    clear x0 x1 y0 y1
    by_cases hxy:x=y
    ·have hf:decide (x≠y)=false:=by simp[hxy]
     rw[hf]
     have Vj:=Lib.hid hxy
     clear hxy hf
     go_wp2_with fail
     go_roundw
     case rel=>exact⟨k+1,by omega,by go_num,JV HT.out HX.out.1 HX.out.2 Vj.out,hkp.drew⟩
     case measure=>simp[intOf];omega
    ·have hf:decide (x≠y)=true:=by simp[hxy]
     rw[hf]
     have Vj:=Lib.hid hxy
     clear hxy hf
     go_wp2_with fail
     go_ret
     exact⟨aX (RQ HX.out.1 HX.out.2 Vj.out).symm,hkp.drew⟩
   ·go_wp2_with fail
    go_ret
    exact⟨aX (Oc HT.out (by omega) HL.out).symm,hkp⟩
 ·have hne:(((xs.length:Nat):Int) !=((ys.length:Nat):Int))=true:=by simp;omega
  have HL:=Lib.hid hl
  clear a3 b3 hl
  go_enter Tryz.func14,Tryz.ntmps14
  go_wp2
  go_ret
  exact⟨aX (Qk HL.out).symm,Kept.refl _ _⟩
end
section
open Go Go.RowKit
def sN {α:Type}(x:Rd α):Prop:= ∀f,x= .err f->f≠0
theorem sN.bind {α β:Type}{x:Rd α}{g:α->List UInt8->Rd β}(h:sN x)(k: ∀a r,sN (g a r)):sN (x.bind g):=by
 intro f e
 cases x with
 |err d=>exact h f (by simp only[Rd.bind]at e;injection e with e;rw[e])
 |ok a r=>exact k a r f e
theorem sN.ok {α:Type}(a:α)(r:List UInt8):sN (Rd.ok a r):=fun _ e=>by cases e
theorem xq (lo hi:Int)(l:List UInt8):sN (num lo hi l):=fun _ e=>Jc e
theorem Ja: ∀(k:Nat)(l:List UInt8),sN (nums k l)
 |0,_=> .ok _ _
 |k+1,l=>(xq _ _ l).bind fun _ r=>(Ja k r).bind fun _ _=> .ok _ _
theorem S9 (l:List UInt8):sN (row l):=(xq _ _ l).bind fun _ r=>(xq _ _ r).bind fun _ r=>(xq _ _ r).bind fun _ r=>(Ja _ r).bind fun _ _=> .ok _ _
theorem ET: ∀(k:Nat)(T:Tab)(l:List UInt8),sN (bZ k T l)
 |0,_,_=> .ok _ _
 |k+1,_,l=>(S9 l).bind fun p r=>by
  split
  ·exact ET k _ r
  ·intro f e;injection e with e;omega
theorem OJ (l:List UInt8):sN (gK l):=(xq _ _ l).bind fun _ r=>(ET _ _ r).bind fun _ _=>by
 split
 ·exact .ok _ _
 ·intro f e;injection e with e;omega
theorem Dq {nodes:List JN}{f:Int}: ∀{l:List St}{Ts:Tabs},bT nodes l Ts= .error f->f≠0
 |[],Ts,h=>by cases h
 |s::l,Ts,h=>by
  unfold bT at h
  split at h
  ·injection h with h;omega
  ·split at h
   ·rename_i g hg
    injection h with h
    subst h
    exact OJ _ _ hg
   ·split at h
    ·exact Dq h
    ·injection h with h;omega
theorem FC {j:Jb}{l:List St}{e:Int}(h:dH j l= .error e):e≠0:=by
 unfold dH at h
 split at h
 ·cases e':bT j.nodes l (bf j.nodes)with
  |ok Ts=>rw[e']at h;cases h
  |error f=>rw[e']at h;injection h with h;subst h;exact Dq e'
 ·injection h with h;omega
theorem cO.jL {S:Nat->Prop}{w w':World}{m:Nat}{Ts:Tabs}{pm:Nat->Nat×Nat}(h:cO w m Ts pm)(hk:Kept S w w')(hS: ∀k,S k-> ∀c E f,w.heap[k]?≠some (.cells c E f))(hm: ¬S m)
 (hd: ∀(i:Nat)(T:Tab),Ts[i]?=some (some T)-> ¬S (pm i).2):cO w' m Ts pm:=by
 obtain⟨⟨l,h1,h2,h3⟩,h4,h5⟩:=h
 exact⟨⟨l,h1.kept hk hm,h2,h3⟩,fun i T hT=>⟨(h4 i T hT).1.kept hk (fun q hq _ _=>hS q hq) (hd i T hT),(h4 i T hT).2⟩,h5⟩
theorem tC.jL {S:Nat->Prop}{w w':World}{b m:Nat}{j:Jb}{Ts:Tabs}{pm:Nat->Nat×Nat}(h:tC w b m j Ts pm)(hk:Kept S w w')(hS: ∀k,S k-> ∀c E f,w.heap[k]?≠some (.cells c E f))(hm: ¬S m)
 (hd: ∀(i:Nat)(T:Tab),Ts[i]?=some (some T)-> ¬S (pm i).2):tC w' b m j Ts pm:=by
 obtain⟨⟨v,h1,h2⟩,h3,h4⟩:=h
 exact⟨⟨v,hk.heap h1 (fun hs=>hS b hs _ _ _ h1),h2.kept hk hS⟩,h3,h4.jL hk hS hm hd⟩
theorem Iw {j:Jb}(h:fU j=true):2<=j.nodes.length/\j.nodes.length<=12:=by
 have:=(Dy h).1
 unfold eP at this
 simp only[Bool.or_eq_false_iff,decide_eq_false_iff_not]at this
 omega
end
section
open Go Go.RowKit
attribute [local irreducible] bH dP H2.bW
end
section
open Go Go.RowKit
def bY (s:ByteArray):Tab:=match gK s.data.toList with| .ok T _=>T| .err _=>[]
def jK (T:Tab):Nat:=T.foldl (fun n p=>max n p.2.2.length) 0
def emptyS:ByteArray:=⟨#[]⟩
def jJ (a b:List JN)(s:St):Bool:=decide ((nodeAt a (aA a s.1)).kind≠(nodeAt b (aA b s.1)).kind)||(decide ((nodeAt b (aA b s.1)).kind=7)&&decide ((nodeAt b (aA b s.1)).n<=(jK (bY s.2):Int)))
def eY (a b:List JN):List St->ByteArray×Int
 |[]=>(emptyS,0)
 |s::l=>if bY s.2=[]then eY a b l else if aA b s.1<0 then(s.1,240)else if jJ a b s=true then(s.1,241)else eY a b l
def aN (a b:Jb)(l:List St):ByteArray×Int:=match dH a l with| .error e=>(emptyS,e)| .ok _=>if fU b=true then eY a.nodes b.nodes l else(emptyS,2)
def fQ (l:List St):List St:=l.filter fun s=>decide (bY s.2≠[])
def iW (a b:Jb)(l:List St):Except Int (List St):=
 if(aN a b l).2≠0 then .error (aN a b l).2 else match dH b (fQ l)with| .ok Ts=> .ok (kT b.nodes Ts)| .error e=> .error e
theorem Fv {T:Tab}{n:Nat}(h0:0<n)(h: ∀p∈T,p.2.2.length<n):jK T<n:=by
 unfold jK
 have: ∀(T:Tab)(a:Nat),a<n->(∀p∈T,p.2.2.length<n)->T.foldl (fun n p=>max n p.2.2.length) a<n:=by
  intro T
  induction T with
  |nil=>exact fun a ha _=>ha
  |cons p T ih=>exact fun a ha hT=>ih _ (Nat.max_lt.2 ⟨ha,hT p (by simp)⟩) (fun q hq=>hT q (by simp[hq]))
 exact this T 0 h0 h
theorem Ph {T:Tab}{p:Int×Cell}(h:p∈T):p.2.2.length<=jK T:=by
 unfold jK
 have mono: ∀(T:Tab)(a:Nat),a<=T.foldl (fun n p=>max n p.2.2.length) a:=by
  intro T
  induction T with
  |nil=>exact fun a=>Nat.le_refl _
  |cons p T ih=>exact fun a=>Nat.le_trans (Nat.le_max_left _ _) (ih _)
 have: ∀(T:Tab)(a:Nat),p∈T->p.2.2.length<=T.foldl (fun n p=>max n p.2.2.length) a:=by
  intro T
  induction T with
  |nil=>exact fun a h=>by cases h
  |cons q T ih=>
   intro a hp
   rcases List.mem_cons.1 hp with rfl|hp
   ·exact Nat.le_trans (Nat.le_max_right _ _) (mono T _)
   ·exact ih _ hp
 exact this T 0 h
theorem qW {a b:List JN}: ∀{l:List St},(eY a b l).2=0->eY a b l=(emptyS,0)/\ ∀s∈l,bY s.2≠[]->0<=aA b s.1/\jJ a b s=false
 |[],_=>⟨rfl,by simp⟩
 |s::l,h=>by
  unfold eY at h⊢
  by_cases hT:bY s.2=[]
  ·rw[if_pos hT]at h⊢
   obtain⟨h1,h2⟩:=qW h
   refine⟨h1,fun t ht hne=>?_⟩
   rcases List.mem_cons.1 ht with rfl|ht
   ·exact absurd hT hne
   ·exact h2 t ht hne
  ·rw[if_neg hT]at h⊢
   by_cases hf:aA b s.1<0
   ·rw[if_pos hf]at h;simp at h
   ·rw[if_neg hf]at h⊢
    by_cases hb:jJ a b s=true
    ·rw[if_pos hb]at h;simp at h
    ·rw[if_neg hb]at h⊢
     obtain⟨h1,h2⟩:=qW h
     refine⟨h1,fun t ht hne=>?_⟩
     rcases List.mem_cons.1 ht with rfl|ht
     ·exact⟨by omega,by simpa using hb⟩
     ·exact h2 t ht hne
end
section
open Go Go.RowKit
attribute [local irreducible] bH dP H2.bW
theorem fA.nodes {w:World}{par:Int}{v:Value}{j:Jb}(h:fA w #[.int .i64 par,v] j):fG w v j.nodes:=by
 obtain⟨v',e,hn,_⟩:=h
 injection e with e
 injection e with _ e
 injection e with e
 subst e
 exact hn
end
section
open Go Go.RowKit Go.ChangeShapes Go.WideShapes Go.ChangeAt Go.Deep
section
variable {H:Type} {enc:TypeId×Value->H} {w:World}
theorem O5 {fuel n cap:Nat}{a:Option Addr}{x:DataW H×List MemPlace}(h:DataW.trod enc Tryz.prog w 0 (fun _=>true) true fuel 25 [.slice a n cap]=some x):
 ∃L:List St,L.length=n/\Reads w 2 (.slice a n cap) (dK L)/\ ∀s∈L,s.1.size<=maxLen/\s.2.size<=maxLen:=by
 obtain⟨cs,hl,hr,hel⟩:=qP (k:=2) Tryz.underlying25 (by kernel_rfl) (by omega) h
 have each: ∀i,i<n-> ∃s:St,(s.1.size<=maxLen/\s.2.size<=maxLen)/\(cs.drop (i*2)).take 2=[.string s.1, .string s.2]:=by
  intro i hi
  obtain⟨m,y,hy⟩:=hel i hi
  obtain⟨v0,v1,hd⟩: ∃v0 v1,(cs.drop (i*2)).take 2=[v0,v1]:=by
   have hlen:((cs.drop (i*2)).take 2).length=2:=by rw[List.length_take,List.length_drop];omega
   match(cs.drop (i*2)).take 2,hlen with
   |[v0,v1],_=>exact⟨v0,v1,rfl⟩
  rw[hd]at hy⊢
  obtain⟨xs,f1,_,_,_,hxl,hf⟩:=DataW.trod_struct Tryz.underlying35 hy
  have g0:DataW.trod enc Tryz.prog w 0 (fun _=>true) true f1 9 ([v0,v1].drop 0|>.take (Tryz.prog.cellsOf 9))=xs[0]?:=hf 0 _ rfl
  have g1:DataW.trod enc Tryz.prog w 0 (fun _=>true) true f1 9 ([v0,v1].drop 1|>.take (Tryz.prog.cellsOf 9))=xs[1]?:=hf 1 _ rfl
  rw[show Tryz.prog.cellsOf 9=1 by kernel_rfl]at g0 g1
  simp only[List.drop_succ_cons,List.drop_zero,List.take_succ_cons,List.take_zero]at g0 g1
  match xs,hxl with
  |[x0,x1],_=>
   obtain⟨s0,hs0,_,hz0⟩:=DataW.trod_string Tryz.underlying9 g0
   obtain⟨s1,hs1,_,hz1⟩:=DataW.trod_string Tryz.underlying9 g1
   injection hs0 with hs0 _
   injection hs1 with hs1 _
   subst hs0 hs1
   exact⟨(s0,s1),⟨hz0,hz1⟩,rfl⟩
 obtain⟨O,hO⟩:=choose_lt each
 refine⟨(List.range n).map O,by simp,?_,fun r hr=>?_⟩
 ·have:cs=dK ((List.range n).map O):=by
   apply List.ext_getElem?
   intro j
   by_cases hj:j<n*2
   ·have hi:j/2<n:=by omega
    have h1:=(hO (j/2) hi).2
    have h2:cs[j]?=((cs.drop (j/2*2)).take 2)[j%2]?:=by
     rw[List.getElem?_take,if_pos (Nat.mod_lt _ (by omega)),List.getElem?_drop]
     congr 1;omega
    rw[h2,h1]
    have h3:((List.range n).map O)[j/2]?=some (O (j/2)):=by rw[List.getElem?_map,List.getElem?_range hi];rfl
    obtain⟨e0,e1⟩:=y9 h3
    have hm:j%2=0\/j%2=1:=by omega
    rcases hm with hm|hm
    ·rw[hm,show j=j/2*2 by omega,show j/2*2/2=j/2 by omega,e0];rfl
    ·rw[hm,show j=j/2*2+1 by omega,show(j/2*2+1)/2=j/2 by omega,e1];rfl
   ·rw[List.getElem?_eq_none (by rw[hl];omega),List.getElem?_eq_none (by rw[pK];simp;omega)]
  rw[<-this];exact hr
 ·obtain⟨i,hi,rfl⟩:=List.mem_map.1 hr
  exact(hO i (List.mem_range.1 hi)).1
end
end
end Go.Proofs.YtglbkodmmogomaaGreatDoor
