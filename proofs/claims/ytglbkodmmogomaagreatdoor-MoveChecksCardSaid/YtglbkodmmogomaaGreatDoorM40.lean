/- The document's ideals in memory: tables by pointers in a row. -/
import Derived.Test.YtglbkodmmogomaaGreatDoorM39
set_option linter.unusedVariables false
set_option linter.unusedSimpArgs false
namespace Go.Proofs.YtglbkodmmogomaaGreatDoor
open Go Go.RowKit
def rp (pm:Nat->Nat)(Ts:Tabs):List Value:=(List.range Ts.length).map fun i=> .pointer ((Ts.getD i none).map fun _=>⟨pm i,0,none⟩)
theorem sS (pm:Nat->Nat)(Ts:Tabs):(rp pm Ts).length=Ts.length:=by unfold rp;simp
theorem wS {pm:Nat->Nat}{Ts:Tabs}{i:Nat}{t:Option Tab}(h:Ts[i]?=some t):(rp pm Ts)[i]?=some (.pointer (t.map fun _=>⟨pm i,0,none⟩)):=by
 have hi:=(List.getElem?_eq_some_iff.1 h).1
 unfold rp
 rw[List.getElem?_map,List.getElem?_range hi]
 simp[List.getD_eq_getElem?_getD,h]
theorem Ru (pm:Nat->Nat)(n:Nat):rp pm (List.replicate n none)=List.replicate n (.pointer none):=by
 apply List.ext_getElem?
 intro i
 by_cases hi:i<n
 ·rw[wS (t:=none) (by rw[List.getElem?_replicate,if_pos hi]),List.getElem?_replicate,if_pos hi];rfl
 ·rw[List.getElem?_eq_none (by rw[sS,List.length_replicate];omega),List.getElem?_eq_none (by rw[List.length_replicate];omega)]
theorem ER (pm:Nat->Nat)(Ts:Tabs)(i b:Nat)(T:Tab):rp (fun k=>if k=i then b else pm k) (Ts.set i (some T))=(rp pm Ts).set i (.pointer (some ⟨b,0,none⟩)):=by
 apply List.ext_getElem?
 intro k
 rw[List.getElem?_set,sS]
 by_cases hk:k<Ts.length
 ·by_cases e:i=k
  ·subst e
   rw[if_pos rfl,if_pos hk,wS (t:=some T) (by rw[List.getElem?_set,if_pos rfl,if_pos hk])]
   simp
  ·obtain⟨t,ht⟩: ∃t,Ts[k]?=some t:=⟨_,List.getElem?_eq_getElem hk⟩
   rw[if_neg e,wS ht,wS (t:=t) (by rw[List.getElem?_set,if_neg e];exact ht)]
   rw[if_neg (fun h=>e h.symm)]
 ·rw[List.getElem?_eq_none (by rw[sS,List.length_set];omega)]
  by_cases e:i=k
  ·rw[if_pos e,if_neg (by omega)]
  ·rw[if_neg e,List.getElem?_eq_none (by rw[sS];omega)]
structure fD (w:World)(M:Nat->Prop)(Ts:Tabs)(pm:Nat->Nat):Prop where
 tab: ∀(i:Nat)(T:Tab),Ts[i]?=some (some T)->iq w M (pm i) T
 inj: ∀(i k:Nat)(T U:Tab),Ts[i]?=some (some T)->Ts[k]?=some (some U)->i≠k->pm i≠pm k
theorem fD.none (w:World)(M:Nat->Prop)(m:Nat)(pm:Nat->Nat):fD w M (List.replicate m none) pm:=
 ⟨fun i T h=>by rw[List.getElem?_replicate]at h;split at h<;>simp at h,fun i k T U h=>by rw[List.getElem?_replicate]at h;split at h<;>simp at h⟩
theorem fD.kept {w w':World}{M S:Nat->Prop}{Ts:Tabs}{pm:Nat->Nat}(h:fD w M Ts pm)(hk:Kept S w w')(hS: ∀q,S q-> ¬M q):fD w' M Ts pm:=
 ⟨fun i T hT=>(h.tab i T hT).kept hk hS,h.inj⟩
theorem fD.pure {w w':World}{M:Nat->Prop}{Ts:Tabs}{pm:Nat->Nat}(h:fD w M Ts pm)(hk:Kept none' w w'):fD w' M Ts pm:=h.kept hk (fun _ h=>h.elim)
theorem fD.mono {w:World}{M M':Nat->Prop}{Ts:Tabs}{pm:Nat->Nat}(h:fD w M Ts pm)(hM: ∀q,M q->M' q):fD w M' Ts pm:=⟨fun i T hT=>(h.tab i T hT).mono hM,h.inj⟩
theorem iq.lt {w:World}{M:Nat->Prop}{b:Nat}{T:Tab}(h:iq w M b T):b<w.heap.size:=by
 obtain⟨v,cs,h1,_⟩:=h.out
 exact(Array.getElem?_eq_some_iff.1 h1).1
theorem fD.lt {w:World}{M:Nat->Prop}{Ts:Tabs}{pm:Nat->Nat}(h:fD w M Ts pm)(k:Nat)(U:Tab)(hU:Ts[k]?=some (some U)):pm k<w.heap.size:=(h.tab k U hU).lt
theorem fD.set {w:World}{M:Nat->Prop}{Ts:Tabs}{pm:Nat->Nat}(h:fD w M Ts pm){i b:Nat}{T:Tab}(hT:iq w M b T)(hb: ∀(k:Nat)(U:Tab),Ts[k]?=some (some U)->pm k≠b):
 fD w M (Ts.set i (some T)) (fun k=>if k=i then b else pm k):=by
 refine⟨fun k U hU=>?_,fun k m U V hU hV hne=>?_⟩
 ·rw[List.getElem?_set]at hU
  by_cases e:i=k
  ·subst e
   rw[if_pos rfl]at hU
   split at hU
   ·injection hU with hU;injection hU with hU;subst hU
    simp only[if_true];exact hT
   ·cases hU
  ·rw[if_neg e]at hU
   simp only[if_neg (fun h:k=i=>e h.symm)]
   exact h.tab k U hU
 ·rw[List.getElem?_set]at hU hV
  show(if k=i then b else pm k)≠(if m=i then b else pm m)
  by_cases e:i=k
  ·subst e
   have e2: ¬m=i:=fun h=>hne h.symm
   rw[if_neg (fun h=>hne h)]at hV
   rw[if_pos rfl,if_neg e2]
   exact fun h=>hb m V hV h.symm
  ·rw[if_neg e]at hU
   rw[if_neg (fun h=>e h.symm)]
   by_cases e2:i=m
   ·subst e2
    rw[if_pos rfl]
    exact hb k U hU
   ·rw[if_neg e2]at hV
    rw[if_neg (fun h=>e2 h.symm)]
    exact h.inj k m U V hU hV hne
theorem iq.new (w:World){M:Nat->Prop}(hM:M w.heap.size):iq (w.alloc (.cells #[.slice none 0 0] 103)) M w.heap.size []:=
 ⟨iy.nil,hM, .slice none 0 0,[],heap_alloc_new _ _,Reads.nil _ _,eH.nil _,(fun b (hb:(none:Option Nat)=some b)=>nomatch hb),fun i lv (hl:(none:Option Value)=some lv)=>nomatch hl⟩
def Ba (w:World)(b:Nat)(j:Jb)(Ts:Tabs)(tv:Value)(pm:Nat->Nat):Prop:=
 ∃nv n,w.heap[b]?=some (.cells #[.int .i64 j.par,nv,tv] 90 (0,0))/\fG w nv j.nodes/\w.ownsRow n 46 1 tv Ts.length (rp pm Ts)/\fD w xU Ts pm
theorem Ba.pure {w w':World}{b:Nat}{j:Jb}{Ts:Tabs}{tv:Value}{pm:Nat->Nat}(h:Ba w b j Ts tv pm)(hk:Kept none' w w'):Ba w' b j Ts tv pm:=by
 obtain⟨nv,n,h1,h2,h4,h5⟩:=h
 exact⟨nv,n,hk.heap h1 (fun h=>h),h2.pure hk,hk.owns h4 (fun _ _ h=>h),h5.pure hk⟩
theorem yg {w:World}{n k c:Nat}{a:Option Addr}{Ts:Tabs}{pm:Nat->Nat}(h:w.ownsRow n 46 1 (.slice a k c) Ts.length (rp pm Ts)){i:Nat}{t:Option Tab}(ht:Ts[i]?=some t):
 ∃g,a=some ⟨g,0,none⟩/\k=Ts.length/\k<=c/\c<=maxLen/\n<=g/\w.cell? ⟨g,i,none⟩=some (.pointer (t.map fun _=>⟨pm i,0,none⟩))/\w.frozen? ⟨g,i,none⟩=false:=by
 have hi:=(List.getElem?_eq_some_iff.1 ht).1
 rcases h.2 with⟨_,e⟩|⟨g,cap,cur,e,hb,hg,hc1,hc2,hcs,htk⟩
 ·omega
 ·injection e with e1 e2 e3
  subst e1 e2 e3
  refine⟨g,rfl,rfl,hc1,hc2,hb,?_,h.frozenAt i⟩
  rw[h.cellAt i (by omega),wS ht]
theorem Tryz.info46: ∃i z,Tryz.prog.info? 46=some i/\i.zero=some z/\i.size=1/\i.bytes=8/\z.cells.size=1:=by
 have h:(Tryz.prog.info? 46).map (fun i=>(i.zero,i.size,i.bytes))=some (some (.pointer none),1,8):=by kernel_rfl
 obtain⟨i,hi,h⟩:=Option.map_eq_some_iff.1 h
 simp only[Prod.mk.injEq]at h
 exact⟨i,_,hi,h.1,h.2.1,h.2.2,by rfl⟩
theorem OV {w:World}{base n:Nat}{va:Value}{l:List Value}(h:w.ownsRow base 46 1 va n l)(hb:base<=w.heap.size)(hn:n<=100000):
 ∃g cap w',(Builtin.append_ #[88,88] 88 #[va, .slice (some ⟨w.heap.size,0,none⟩) 1 1]).run Tryz.prog (w.alloc (.cells #[.pointer none] 46))= .ok (.slice (some ⟨g,0,none⟩) (n+1) cap) w'/\
  w'.ownsRow base 46 1 (.slice (some ⟨g,0,none⟩) (n+1) cap) (n+1) (l++[.pointer none])/\Kept (fun k=>va.ownBlock=some k) w w':=by
 obtain⟨i,z,hi,hz,hs,hby,hzs⟩:=Tryz.info46
 exact jZ Tryz.underlying88 hi hz hs hby hzs rfl h hn (by omega) hb 88
end Go.Proofs.YtglbkodmmogomaaGreatDoor
