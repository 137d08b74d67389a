/- Symbolic runs: maps that turn, and iterators, tell the truth. -/
import Derived.Test.YtakhobfamnjnoaaGreatDoorC09
set_option linter.unusedVariables false
set_option linter.unusedSimpArgs false
set_option maxHeartbeats 1000000
namespace Go.Proofs.YtakhobfamnjnoaaGreatDoor
section
namespace Sx
open Go Go.RowKit
def dO (w:World)(b:Nat)(x:Obj):World:={w with heap:=w.heap.setIfInBounds b x}
section
variable {P:Program} {T:jE} [lN P T] {ρ:Ren} {h:Hp} {O:Own} {w:World} {N:Nat} {e:bK} {a:Act}
theorem fH {b:Nat}{o x:Obj}(hh:w.heap[b]?=some o)(hc: ∀c e f,o≠ .cells c e f):(setObj b x).run P w= .ok () (dO w b x):=by
 cases o<;>simp[setObj,Sem.run,hh,dO]
 exact absurd rfl (hc _ _ _)
theorem xq {b:Nat}{o:Obj}(hh:w.heap[b]?=some o)(x:Obj):(dO w b x).heap[b]?=some x:=by
 have:=(Array.getElem?_eq_some_iff.1 hh).1
 simp[dO,this]
theorem HR.dO (H:HR P ρ h O w){i j b:Nat}{o o':AO}(ho:bI h i j=some o)(hO:O i j b)(yB: ∀q,O i j q->q=b){x:Obj}(hx:Ob P ρ i j o' (O i j) (dO w b x)):
 Fm ρ.fz O w ρ.fz O (Sx.dO w b x)/\HR P ρ (nR h i j o') O (Sx.dO w b x)/\Un [i] O w O (Sx.dO w b x):=by
 have hk: ∀q,q≠b->(Sx.dO w b x).heap[q]?=w.heap[q]?:=fun q hq=>by
  simp only[Sx.dO]
  rw[Array.getElem?_setIfInBounds_ne (Ne.symm hq)]
 obtain⟨h1,h2⟩:=H.turn ho (w':=Sx.dO w b x) (by simp[Sx.dO]) rfl rfl rfl (fun q hq=>hk q fun e=>hq (e▸hO)) hx
 refine⟨h1,h2,fun u v q hn hq=>⟨hq,hk q fun e=>?_⟩⟩
 subst e
 have:=(H.dj u v i j q hq hO).1
 subst this
 simp at hn
theorem abf (H:HR P ρ h O w){i j b:Nat}{o:AO}(ho:bI h i j=some o){base cap:Nat}(hr:ρ.nm i j=some (.blk b base cap)):O i j b/\ ∀q,O i j q->q=b:=by
 obtain⟨x,h1,h2⟩:=(H.ob i j o ho).bl
 rw[hr]at h1;cases h1
 exact⟨(h2 b).2 rfl,fun q hq=>(h2 q).1 hq⟩
theorem WX {xs:List MapEntry}{i:Nat}{y:MapEntry}(hy:xs[i]?=some y)(f:MapEntry->MapEntry):xs.modify i f=xs.set i (f y):=by
 apply List.ext_getElem?
 intro j
 rw[List.getElem?_modify,List.getElem?_set]
 by_cases hij:i=j
 ·subst hij
  obtain⟨h1,h2⟩:=List.getElem?_eq_some_iff.1 hy
  simp[h1,h2]
 ·simp[hij]
theorem ab1 {α β:Type}{R:α->β->Prop}{l:List α}{m:List β}(h:F2 R l m): ∀n,F2 R (l.eraseIdx n) (m.eraseIdx n):=by
 induction h with
 |nil=>intro n;exact .nil
 |cons x t ih=>intro n;cases n with
  |zero=>exact t
  |succ n=>exact .cons x (ih n)
theorem ahk (H:HR P ρ h O w){t kt et:TypeId}{d:TypeDesc}{kd:KD}(ht:P.underlying t=some (.map kt et))(hd:P.underlying kt=some d)(hkd:Eb d=some kd){mo yo vo:Operand}{X Y V:Value}(hx:GR ρ (ev e mo) X)(hy:GR ρ (ev e yo) Y)(hv:GR ρ (ev e vo) V){k:KL}(hk:qc I0 P (.mu kd mo yo vo) e h k):
 Gx P ρ h O w k (Instr.mapUpdate t X Y V):=by
 simp only[qc]at hk
 obtain⟨key,hkey,hk⟩:=ah hk
 obtain⟨hki,hkx⟩:=Hw hkey hy
 have lI:=Sm (P:=P) hd hkd
 split at hk
 ·rename_i i j v h1 h2
  rw[h1]at hx
  rw[h2]at hv
  obtain⟨o,ho,hk⟩:=jQ hk
  split at hk
  ·rename_i l c
   have h0:vN kd l.li=true:=hk.h.1
   have hk:k [i] .undef (nR h i j (.map (.l (DZ key v c l.li)) (LH key c l.li))):=hk.h.2
   cases hx with|a hx=>cases hx with|c hx=>cases hx with
    | @mp _ _ b base cap hr=>
      cases hv with|a hv=>
       obtain⟨xs,hh,hO,hxs,rfl,rfl⟩:=lD H ho hr
       have yB:=(abf H ho hr).2
       obtain⟨r',h3,h4⟩:=find_ok hkd hki hkx hxs h0 0
       rcases h4 with⟨h4,rfl,h5,_⟩|⟨q,m,y,h4,rfl,h6,h7,h8,h9,_,h11⟩
       ·have hc:LH key c l.li=c+1:=by simp[LH,h4]
        rw[h5,hc]at hk
        obtain⟨q1,q2,q3⟩:=H.dO ho hO yB (o':= .map (.l (l.li++[⟨key,v,c⟩])) (c+1)) (x:=Obj.map (xs++[({key:=Y,val:=V,born:=c}:MapEntry)]).toArray (c+1)) (.map hr (fun q=>⟨yB q,fun e=>e▸hO⟩) (xq hh _) (dR hxs (.cons ⟨hkx,hv,rfl⟩ .nil)))
        refine⟨_,_,_,hk,q1,q2,by rw[iJ (cZ ho)];exact Nat.le_refl _,q3,?_⟩
        simp[Instr.mapUpdate,run_underlying ht,aY hh (fun _ _ _=>by simp),lI,rP (P:=P) hd h3]
        exact fH hh (fun _ _ _=>by simp)
       ·have hc:LH key c l.li=c:=by simp[LH,h4]
        rw[h9,hc]at hk
        have hborn:y.born=m.born:=h8.2.2
        obtain⟨q1,q2,q3⟩:=H.dO ho hO yB (o':= .map (.l (l.li.set q ⟨key,v,m.born⟩)) c) (x:=Obj.map (xs.set q ({key:=Y,val:=V,born:=y.born}:MapEntry)).toArray c) (.map hr (fun q=>⟨yB q,fun e=>e▸hO⟩) (xq hh _) (Aq hxs (show GE ρ ⟨key,v,m.born⟩ ⟨Y,V,y.born⟩from⟨hkx,hv,hborn⟩) q))
        refine⟨_,_,_,hk,q1,q2,by rw[iJ (cZ ho)];exact Nat.le_refl _,q3,?_⟩
        have hset:=fH (P:=P) (x:=Obj.map (xs.set q ({key:=Y,val:=V,born:=y.born}:MapEntry)).toArray c) hh (fun _ _ _=>by simp)
        simp[Instr.mapUpdate,run_underlying ht,aY hh (fun _ _ _=>by simp),lI,rP (P:=P) hd h3,Instr.keyThatStays,h7,h11,WX h7,hset]
  ·exact hk.elim
 ·exact hk.elim
theorem agu (H:HR P ρ h O w){t t2 ty kt et:TypeId}{d:TypeDesc}{kd:KD}(ht:P.underlying t=some (.map kt et))(hd:P.underlying kt=some d)(hkd:Eb d=some kd){mo yo:Operand}{X Y:Value}(hx:GR ρ (ev e mo) X)(hy:GR ρ (ev e yo) Y){k:KL}(hk:qc I0 P (.del kd mo yo) e h k):
 yR P ρ h O w k (Builtin.delete_ #[t,t2] ty #[X,Y]):=by
 simp only[qc]at hk
 obtain⟨key,hkey,hk⟩:=ah hk
 obtain⟨hki,hkx⟩:=Hw hkey hy
 have lI:=Sm (P:=P) hd hkd
 split at hk
 ·rename_i i j h1
  rw[h1]at hx
  obtain⟨o,ho,hk⟩:=jQ hk
  split at hk
  ·rename_i l c
   have h0:vN kd l.li=true:=hk.h.1
   have hk:k [i] .undef (nR h i j (.map (.l (BM key l.li)) c)):=hk.h.2
   cases hx with|a hx=>cases hx with|c hx=>cases hx with
    | @mp _ _ b base cap hr=>
      obtain⟨xs,hh,hO,hxs,rfl,rfl⟩:=lD H ho hr
      have yB:=(abf H ho hr).2
      obtain⟨r',h3,h4⟩:=find_ok hkd hki hkx hxs h0 0
      have hlen:=iJ (o:= .map (.l (BM key l.li)) c) (cZ ho) (k:=j)
      rcases h4 with⟨h4,rfl,_,h5⟩|⟨q,m,y,h4,rfl,h6,h7,h8,_,h10,_⟩
      ·rw[h5]at hk
       obtain⟨q1,q2,q3⟩:=H.dO ho hO yB (o':= .map (.l l.li) c) (x:=Obj.map xs.toArray c) (.map hr (fun q=>⟨yB q,fun e=>e▸hO⟩) (xq hh _) hxs)
       refine⟨_,_,_,ρ,_,O,_,hk,ρ.le_refl,q1,q2,by rw[iJ (cZ ho)];exact Nat.le_refl _,q3,GR.undef,?_⟩
       have hset:=fH (P:=P) (x:=Obj.map xs.toArray c) hh (fun _ _ _=>by simp)
       simp[Builtin.delete_,run_underlying ht,aY hh (fun _ _ _=>by simp),lI,rP (P:=P) hd h3,hset,Go.undef]
      ·rw[h10]at hk
       have hlt:q<xs.length:=(List.getElem?_eq_some_iff.1 h7).1
       obtain⟨q1,q2,q3⟩:=H.dO ho hO yB (o':= .map (.l (l.li.eraseIdx q)) c) (x:=Obj.map (xs.eraseIdx q).toArray c) (.map hr (fun q=>⟨yB q,fun e=>e▸hO⟩) (xq hh _) (ab1 hxs q))
       refine⟨_,_,_,ρ,_,O,_,hk,ρ.le_refl,q1,q2,by rw[iJ (cZ ho)];exact Nat.le_refl _,q3,GR.undef,?_⟩
       have hset:=fH (P:=P) (x:=Obj.map (xs.eraseIdx q).toArray c) hh (fun _ _ _=>by simp)
       simp[Builtin.delete_,run_underlying ht,aY hh (fun _ _ _=>by simp),lI,rP (P:=P) hd h3,hset,Go.undef,Array.eraseIdxIfInBounds,hlt]
  ·exact hk.elim
 ·exact hk.elim
theorem afn (H:HR P ρ h O w){t:TypeId}{k:KL}(hk:qc I0 P .mkm e h k):yR P ρ h O w k (Instr.makeMap t none):=by
 simp only[qc]at hk
 obtain⟨ρ',O',hle,hr,hF,H',hU⟩:=H.new' (.map #[] 0) 0 0 (.map (.l []) 0) fun ρ' B hle hr hB=> .map (xs:=[]) hr hB (heap_alloc_new _ _) .nil
 exact⟨[],_,_,ρ',_,O',_,uM hk,hle,hF,H',by simp,hU, .a (.c (.mp hr)),by simp[Instr.makeMap]⟩
theorem acF (H:HR P ρ h O w){t:TypeId}{isS:Bool}(hd:match isS with|true=>P.underlying t=some .string|false=> ∃a b,P.underlying t=some (.map a b)){xo:Operand}{X:Value}(hx:GR ρ (ev e xo) X){k:KL}(hk:qc I0 P (.rg isS xo) e h k):yR P ρ h O w k (Instr.range t X):=by
 simp only[qc]at hk
 split at hk
 ·rename_i s h1
  rw[h1]at hx
  cases hx with|a hx=>cases hx with|c hx=>cases hx with|p hx=>
   cases hx
   have hd:P.underlying t=some .string:=hd
   obtain⟨ρ',O',hle,hr,hF,H',hU⟩:=H.new' (.stringIter s 0) 0 0 (.sit s 0) fun ρ' B hle hr hB=> .sit hr hB (heap_alloc_new _ _)
   exact⟨[],_,_,ρ',_,O',_,uM hk,hle,hF,H',by simp,hU, .a (.c (.ptr 0 hr)),by simp[Instr.range,run_underlying hd]⟩
 ·rename_i i j h1
  rw[h1]at hx
  obtain⟨o,ho,hk⟩:=jQ hk
  split at hk
  ·rename_i l c
   cases hx with|a hx=>cases hx with|c hx=>cases hx with
    | @mp _ _ b base cap hr0=>
      obtain⟨x,y,hd⟩:=(hd: ∃a b,P.underlying t=some (.map a b))
      obtain⟨xs,hh,hO,hxs,rfl,rfl⟩:=lD H ho hr0
      obtain⟨ρ',O',hle,hr,hF,H',hU⟩:=H.new' (.mapIter (some b) c #[] c) 0 0 (.fJ i j c [] c) fun ρ' B hle hr hB=> .fJ (seen:=[]) hr (hle.nm _ _ _ hr0) hB (heap_alloc_new _ _)
      exact⟨[],_,_,ρ',_,O',_,uM hk,hle,hF,H',by simp,hU, .a (.c (.ptr 0 hr)),by simp[Instr.range,run_underlying hd,aY hh (fun _ _ _=>by simp)]⟩
  ·exact hk.elim
 ·exact hk.elim
theorem afh (H:HR P ρ h O w){xo:Operand}{X:Value}{ty:TypeId}{isS:Bool}(hx:GR ρ (ev e xo) X){k:KL}(hk:qc I0 P (.nxt isS xo) e h k):yR P ρ h O w k (Instr.next X isS ty):=by
 simp only[qc]at hk
 split at hk
 ·rename_i i j h1
  rw[h1]at hx
  obtain⟨o,ho,hk⟩:=jQ hk
  cases hx with|a hx=>cases hx with|c hx=>cases hx with
   | @ptr _ _ b base cap _ hr=>
     obtain⟨hO,yB⟩:=abf H ho hr
     cases o with
     |sit t p=>
      cases isS with
      |false=>exact hk.elim
      |true=>
      have ob:=H.ob i j _ ho
      cases ob with
      |row ho'=>rcases ho' with h1|⟨l,h1,_⟩<;>cases h1
      |eG ho'=>rcases ho' with h1|h1<;>cases h1
      |sit hr' hB hh=>
       rw[hr]at hr';cases hr'
       by_cases hp:p<t.size
       ·have hk:=hk.s (Utf8.decode t p) (by simp[I0,aaW,hp])
        obtain⟨q1,q2,q3⟩:=H.dO ho hO yB (o':= .sit t (p+(Utf8.decode t p).2)) (x:= .stringIter t (p+(Utf8.decode t p).2)) (.sit hr (fun q=>⟨yB q,fun e=>e▸hO⟩) (xq hh _))
        have hset:=fH (P:=P) (x:= .stringIter t (p+(Utf8.decode t p).2)) hh (fun _ _ _=>by simp)
        refine⟨_,_,_,ρ,_,O,_,hk,ρ.le_refl,q1,q2,by rw[iJ (cZ ho)];exact Nat.le_refl _,q3, .aK (xs:=[.bool true, .int .i64 p, .int .i32 ((Utf8.decode t p).1:Int)]) (.cons (.c (.p rfl)) (.cons (.c (.p rfl)) (.cons (.c (.p rfl)) .nil))),?_⟩
        simp[Instr.next,aY hh (fun _ _ _=>by simp),hp,hset,goInt]
       ·have hk:=hk.n (by simp[I0,aaW,hp])
        exact⟨_,_,_,ρ,_,O,_,hk,ρ.le_refl,Fm.refl _ _ _,H,Nat.le_refl _,fun _ _ _ _ h=>⟨h,rfl⟩, .aK (xs:=[.bool false]) (.cons (.c (.p rfl)) .nil),by simp[Instr.next,aY hh (fun _ _ _=>by simp),hp]⟩
     |fJ m n since seen c=>
      cases isS with
      |true=>exact hk.elim
      |false=>
      obtain⟨o2,ho2,hk⟩:=jQ hk
      split at hk
      ·rename_i l d
       have hit:abJ l.li since c=true:=hk.h.1
       have hk:=hk.h.2
       obtain⟨bm,bs,cp,hm,hh,_,rfl,rfl⟩:=acR H ho hr
       obtain⟨xs,hhm,hOm,hxs,_,_⟩:=lD H ho2 hm
       simp only[abJ,Bool.and_eq_true,List.all_eq_true,decide_eq_true_eq]at hit
       have hold: ∀x∈xs.toArray.toList,x.born<since:=fun x hx=>by
        obtain⟨a,ha,hg⟩:=J4 hxs x (by simpa using hx)
        rw[hg.2.2];exact hit.1 a ha
       rcases run_next_at (P:=P) w ty b bm since c seen.reverse.toArray xs.toArray d hh hhm hold hit.2 with⟨h3,h4⟩|⟨x,h3,w1,hw1,h4⟩
       ·have hk:=hk.n fun e he=>by
         obtain⟨i0,hi0⟩:=List.mem_iff_getElem?.1 he
         obtain⟨y,hy,hg⟩:=fO hxs hi0
         have hmem:=List.mem_of_getElem? hy
         apply Classical.byContradiction
         intro hn
         have:y∈leftOf xs.toArray seen.reverse.toArray:=by
          unfold leftOf
          simp[Array.mem_filter,hmem,hg.2.2,hn]
         have h0:leftOf xs.toArray seen.reverse.toArray= #[]:=Array.eq_empty_of_size_eq_zero h3
         rw[h0]at this
         simp at this
        exact⟨_,_,_,ρ,_,O,_,hk,ρ.le_refl,Fm.refl _ _ _,H,Nat.le_refl _,fun _ _ _ _ h=>⟨h,rfl⟩, .aK (xs:=[.bool false]) (.cons (.c (.p rfl)) .nil),h4⟩
       ·unfold leftOf at h3
        have h3:x∈xs/\x.born∉seen:=by simpa[Array.mem_filter]using h3
        obtain⟨i0,hi0⟩:=List.mem_iff_getElem?.1 h3.1
        have hlt:i0<l.li.length:=by rw[dw hxs];exact(List.getElem?_eq_some_iff.1 hi0).1
        obtain⟨y,hy,hg⟩:=fO hxs (List.getElem?_eq_getElem hlt)
        rw[hi0]at hy;cases hy
        have hk:=hk.s l.li[i0] (List.getElem_mem hlt) (by rw[<-hg.2.2];exact h3.2)
        have H1:HR P ρ h O w1:=by rcases hw1 with rfl|rfl;exact H;exact H.drew
        have hh1:w1.heap[b]?=some (.mapIter (some bm) since seen.reverse.toArray c):=by rcases hw1 with rfl|rfl<;>exact hh
        obtain⟨q1,q2,q3⟩:=H1.dO ho hO yB (o':= .fJ m n since (l.li[i0].born::seen) d) (x:= .mapIter (some bm) since (seen.reverse.toArray.push x.born) d) (.fJ hr hm (fun q=>⟨yB q,fun e=>e▸hO⟩) (by rw[xq hh1];simp[hg.2.2]))
        refine⟨_,_,_,ρ,_,O,_,hk,ρ.le_refl,?_,q2,by rw[iJ (cZ ho)];exact Nat.le_refl _,?_, .aK (xs:=[.bool true,x.key,x.val]) (.cons (.c (.p rfl)) (.cons (aaA hg.1) (.cons hg.2.1 .nil))),h4⟩
        ·rcases hw1 with rfl|rfl
         ·exact q1
         ·exact q1.Kt
        ·rcases hw1 with rfl|rfl
         ·exact q3
         ·exact q3.Kt
      ·exact hk.elim
     |_=>cases isS<;>exact hk.elim
 ·exact hk.elim
end
end Sx
end
section
namespace Sx
open Go Go.RowKit
section
variable {P:Program} {T:jE} [lN P T] {ρ:Ren} {h:Hp} {O:Own} {w:World} {N:Nat} {e:bK} {a:Act}
theorem ag7 {ρ':Ren}{o:AO}{O':Own}{w':World}(H:HR P ρ h O w)(hle:ρ.le ρ')(H':HR P ρ' (h++[.one o]) O' w')(hs: ∀q,q<w.heap.size->w'.heap[q]?=w.heap[q]?):Un [] O w O' w':=fun j l q _ hq=>⟨by
 obtain⟨p,hp⟩:=H.live j l q hq
 exact(H.ob j l p hp).same (H'.ob j l p (by rw[pY (cZ hp)];exact hp)) hle hq,hs q (H.lt j l q hq)⟩
theorem afq (H:HR P ρ h O w){f:FuncId}{x y:List AV}{xs ys:List Value}(hx:F2 (GA ρ) x xs)(hy:F2 (GA ρ) y ys){k:KL}(hk:newC h (.clo f x y) fun i h=>k [] (.a (.c (.clo i 0))) h):yR P ρ h O w k (Instr.makeFunc (.func f) xs.toArray ys.toArray):=by
 obtain⟨ρ',O',hle,hr,hF,H'⟩:=H.name (.fnv f xs.toArray ys.toArray) (.clo f x y) fun ρ' B hle hr hB=> .clo hr hB (yQ.mono hle hx) (yQ.mono hle hy)
 exact⟨[],_,_,ρ',_,O',_,uM hk,hle,hF,H',by simp,ag7 H hle H' (fun _ _=>rfl), .a (.c (.clo hr)),by simp[Instr.makeFunc]⟩
theorem ahb (H:HR P ρ h O w){t:TypeId}{n:Nat}(hn:zV T t=some n){x:RV}{xv v:Value}(hx:GR ρ x xv){c:List SV}{xs:List Value}(hcl:c.length=n)(h1:v.cells=xs.toArray)(hxs:F2 (G ρ) c xs){k:KL}
 (hk:stS I0 h x c k):Gx P ρ h O w k (Instr.storeAt t xv v):=by
 have hs:v.cells.size=n:=by rw[h1];simp[<-dw hxs,hcl]
 have fin: ∀{i j off b base cap:Nat}{o o':AO}{cells:List SV}{ty:TypeId},ρ.nm i j=some (.blk b base cap)->bI h i j=some o->(o= .row cells ty\/ ∃l,o= .bH l ty/\cells=l.map .p)->off+c.length<=cells.length->(o'= .row (gB c cells off) ty\/ ∃l',o'= .bH l' ty/\gB c cells off=l'.map .p)->
  xv= .pointer (some ⟨b,base+off,none⟩)->k [i] .undef (nR h i j o')->Gx P ρ h O w k (Instr.storeAt t xv v):=fun{i j off b base cap o o' cells ty} hr ho hro hoff BR hxv hk=>by
  subst hxv
  obtain⟨w',h2,h3,h4,h5⟩:=UJ H ho hro hr hxs hoff BR
  refine⟨_,_,w',hk,h3,h4,by rw[iJ (cZ ho)];exact Nat.le_refl _,h5,?_⟩
  simp[Instr.storeAt,Instr.sureAddr,storeVar,rU (P:=P) hn,hs]
  rw[h1];exact h2
 have bH: ∀{i j off b base cap:Nat}{l:List PV}{ty:TypeId},ρ.nm i j=some (.blk b base cap)->bI h i j=some (.bH l ty)->xv= .pointer (some ⟨b,base+off,none⟩)->stP I0 h i j off l ty c k->Gx P ρ h O w k (Instr.storeAt t xv v):=fun{i j off b base cap l ty} hr ho hxv hk0=>by
  obtain⟨p,hp,⟨h0,hk1⟩⟩:=ah hk0
  have e:=AU hp
  have h0:off+p.length<=l.length:=of_decide_eq_true h0
  exact fin hr ho (.inr ⟨l,rfl,rfl⟩) (by rw[e];simpa using h0) (.inr ⟨_,rfl,by rw[e];exact QD _ _ _ _⟩) hxv hk1
 unfold stS at hk
 split at hk
 ·cases hx with|a hx=>cases hx with|c hx=>cases hx with
   |ptr _ hr=>
    obtain⟨o,ho,hk⟩:=jQ hk
    split at hk
    ·split at hk
     ·rename_i hl
      have hl:=aT hl
      rw[aI,aI]at hl
      exact fin hr ho (.inl rfl) hl (.inl rfl) rfl hk
     ·exact hk.elim
    ·exact bH hr ho rfl hk
    ·exact hk.elim
 ·cases hx with|a hx=>cases hx with|c hx=>cases hx with
   |pts _ hr=>
    obtain⟨o,ho,hk⟩:=jQ hk
    split at hk
    ·exact bH hr ho rfl hk
    ·exact hk.elim
 ·exact hk.elim
theorem J6 (l:Array Operand):(List.map a.eval l.toList).toArray=l.map a.eval:=by apply Array.ext';simp
def flB:Ox->Bool
 | .st .. =>false
 | .al .. =>false
 | .box .. =>false
 | .bsl .. =>false
 | .mks .. =>false
 | .apd .. =>false
 | .mkf .. =>false
 | .call .. =>false
 | .XR .. =>false
 | .mu .. =>false
 | .del .. =>false
 | .mkm=>false
 | .rg .. =>false
 | .nxt .. =>false
 |_=>true
theorem agh {bx:{α:Type}->α->α}{r:Ox}{h':Hp}(h:flB r=true){k:KL}:qc bx P r e h' k=jl bx P r e h' fun r _=>k [] r h':=by
 cases r<;>first|rfl|cases h
theorem aag (H:HR P ρ h O w)(hF:Fr ρ N e a){o:Oper}{r:Ox}(hr:rop T o.op=some r){k:KL}(hk:qc I0 P r e h k){K:Act->World->Prop}{Q:Exit->Act->World->Prop}
 (hK: ∀T r x ρ' h' O' w',k T r h'->ρ.le ρ'->Fm ρ.fz O w ρ'.fz O' w'->HR P ρ' h' O' w'->h.length<=h'.length->Un T O w O' w'->GR ρ' r x->K (a.put o.dst x) w'):o.wp P a w K Q:=by
 have ev1: ∀x,GR ρ (ev e x) (a.eval x):=Fv hF
 have float:(jl I0 P r e h fun r _=>k [] r h)->o.wp P a w K Q:=fun hk=>by
  obtain⟨r',x,ids,h1,h2,h3⟩:=aae H hF hr hk
  have h4:=h3 w (fun _ _ _ _=>rfl) (fun b cs hb=>(H.fz b cs hb).1)
  unfold Oper.wp
  rw[h4,Oper.upon_value]
  exact hK [] r' x ρ h O w h1 ρ.le_refl (Fm.refl _ _ _) H (Nat.le_refl _) (fun _ _ _ _ h=>⟨h,rfl⟩) h2
 obtain⟨dst,op,type,pos,after,guard⟩:=o
 have val: ∀{s:Sem Value}{s':Sem Next},yR P ρ h O w k s->(s'=do pure (.value (<-s)))->execOp a.eval {dst,op,type,pos,after,guard}=s'->Oper.wp P {dst,op,type,pos,after,guard} a w K Q:=fun{s s'} hd e1 e2=>by
  obtain⟨T,r,x,ρ',h',O',w',h1,h2,h3,h4,h5,h6,h7,h8⟩:=hd
  unfold Oper.wp
  rw[e2,e1]
  simp only[Sem.run_bind,h8,Result.andThen_ok,Sem.run_pure,Oper.upon_value]
  exact hK T r x ρ' h' O' w' h1 h2 h3 h4 h5 h6 h7
 have Pq: ∀{s:Sem Unit}{s':Sem Next},Gx P ρ h O w k s->(s'=do s;pure .skip)->execOp a.eval {dst,op,type,pos,after,guard}=s'->Oper.wp P {dst,op,type,pos,after,guard} a w K Q:=fun{s s'} hd e1 e2=>by
  obtain⟨T,h',w',h1,h2,h3,h4,h5,h6⟩:=hd
  unfold Oper.wp
  rw[e2,e1]
  simp only[Sem.run_bind,h6,Result.andThen_ok,Sem.run_pure,Oper.upon_skip]
  exact hK T _ _ ρ h' O w' h1 ρ.le_refl h2 h3 h4 h5 .undef
 cases op
 case alloc t=>
  simp only[rop]at hr
  obtain⟨z,hz,hr⟩:=aA hr;cases hr
  exact val (ahD H hz hk) rfl rfl
 case box t v=>
  cases hr
  simp only[qc]at hk
  obtain⟨c,hc,hk⟩:=ah hk
  exact val (agE H hc (ev1 v) hk) rfl rfl
 case store t x v=>
  simp only[rop]at hr
  obtain⟨n,hn,hr⟩:=aA hr;cases hr
  simp only[qc]at hk
  obtain⟨c,hc,hk⟩:=ah hk
  split at hk
  ·exact hk.elim
  ·rename_i hl
   have hl:c.length=n:=by rw[<-aI];exact aQ hl
   obtain⟨xs,h1,hxs⟩:=PI hc (ev1 v)
   exact Pq (ahb H hn (ev1 x) hl h1 hxs hk) rfl rfl
 case buildSlice t len ps=>
  simp only[rop]at hr
  obtain⟨d,hd,hr1⟩:=aA hr
  split at hr1
  ·obtain⟨n,hn,hr2⟩:=aA hr1
   obtain⟨z,hz,hr3⟩:=aA hr2
   clear hr hr1 hr2
   split at hr3
   ·cases hr3
   ·rename_i hn0 h1 h2
    cases hr3
    simp only[qc]at hk
    obtain⟨l,hl,hk⟩:=ah hk
    exact val (agB H hF (eX (P:=P) hd) hn hz (fun e=>hn0 e) (aT h1) (by rw[<-aI];exact aQ h2) hl hk) rfl rfl
   ·cases hr3
  ·cases hr1
 case makeSlice t l c=>
  simp only[rop]at hr
  obtain⟨d,hd,hr1⟩:=aA hr
  clear hr
  split at hr1
  ·rename_i el i j
   split at hr1
   ·rename_i hij
    have hij:=aQ hij
    subst hij
    obtain⟨n,hn,hr2⟩:=aA hr1
    obtain⟨z,hz,hr3⟩:=aA hr2
    clear hr1 hr2
    split at hr3
    ·rename_i h1 h2
     cases hr3
     simp only[qc]at hk
     have hx:=ev1 (.tmp i)
     split at hk
     ·rename_i q m hm
      rw[hm]at hx
      obtain⟨zp,hzp,⟨h0,hk⟩⟩:=ah hk
      simp only[Bool.and_eq_true,decide_eq_true_eq]at h0
      cases hx with|a hx=>cases hx with|c hx=>cases hx with|p hx=>
       obtain⟨m,rfl⟩:=Int.eq_ofNat_of_zero_le h0.1
       have hk:newC h (.bH (rep m zp) el) fun i h=>k [] (.a (.c (.sl i 0 0 m))) h:=hk
       refine val (s:=Instr.makeSlice t (.int q (m:Int)) (.int q (m:Int))) (afl H (eX (P:=P) hd) hn hz (by rw[<-aI];exact aQ h1) (aT h2) hzp (by omega) hk) rfl ?_
       simp only[execOp,show a.eval (.tmp i)= .int q (m:Int)from hx]
     ·exact hk.elim
    ·cases hr3
   ·cases hr1
  ·cases hr1
 case mapUpdate t m key v=>
  simp only[rop]at hr
  obtain⟨d,hd,hr1⟩:=aA hr
  clear hr
  split at hr1
  ·obtain⟨dk,hdk,hr2⟩:=aA hr1
   obtain⟨kd,hkd,hr3⟩:=aA hr2
   clear hr1 hr2
   cases hr3
   exact Pq (ahk H (eX (P:=P) hd) (eX (P:=P) hdk) hkd (ev1 m) (ev1 key) (ev1 v) hk) rfl rfl
  ·cases hr1
 case makeMap t r=>
  cases r<;>cases hr
  exact val (afn H hk) rfl rfl
 case range t x=>
  simp only[rop]at hr
  obtain⟨d,hd,hr1⟩:=aA hr
  clear hr
  split at hr1
  ·cases hr1;exact val (acF H (isS:=false) ⟨_,_,eX (P:=P) hd⟩ (ev1 x) hk) rfl rfl
  ·cases hr1;exact val (acF H (isS:=true) (eX (P:=P) hd) (ev1 x) hk) rfl rfl
  ·cases hr1
 case next x s=>
  cases hr
  exact val (afh H (ev1 x) hk) rfl rfl
 case makeFunc fn f c=>
  cases fn<;>cases hr
  simp only[qc]at hk
  split at hk
  ·rename_i x y h1 h2
   refine val (afq H (Az hF h1) (Az hF h2) hk) rfl ?_
   simp only[execOp,J6]
  ·exact hk.elim
 case call c=>
  obtain⟨callee,args,argTypes⟩:=c
  have enter: ∀{i:FuncId}{l:List AV}{xs:List Value},F2 (GA ρ) l xs->iM P i l h k->((execOp a.eval {dst,op:= .call {callee,args,argTypes},type,pos,after,guard}).run P w=(callFunc i xs.toArray).run P w)->Oper.wp P {dst,op:= .call {callee,args,argTypes},type,pos,after,guard} a w K Q:=fun{i l xs} hx hc he=>by
   unfold Oper.wp
   rw[he,hc.enter,Oper.upon_enter]
   refine Calls.mono (hc.run ρ O w xs H hx) fun e w' hq=>?_
   obtain⟨T,r,x,ρ',h',O',rfl,h1,h2,h3,h4,h5,h6,h7⟩:=hq
   exact hK T r x ρ' h' O' w' h1 h2 h3 h4 h5 h6 h7
  simp only[rop]at hr
  split at hr
  ·rename_i m key t t2 e1 e2
   obtain⟨d,hd,hr1⟩:=aA hr
   clear hr
   have e1:args= #[m,key]:=by apply Array.ext';simpa using e1
   have e2:argTypes= #[t,t2]:=by apply Array.ext';simpa using e2
   subst e1 e2
   split at hr1
   ·obtain⟨dk,hdk,hr2⟩:=aA hr1
    obtain⟨kd,hkd,hr3⟩:=aA hr2
    clear hr1 hr2
    cases hr3
    exact val (agu (t2:=t2) (ty:=type) H (eX (P:=P) hd) (eX (P:=P) hdk) hkd (ev1 m) (ev1 key) hk) rfl (by simp[execOp,resolve,invoke,builtin])
   ·cases hr1
  ·cases hr;exact float hk
  ·cases hr;exact float hk
  ·obtain⟨d,hd,hr'⟩:=aA hr
   split at hr'<;>cases hr'<;>exact float hk
  ·rename_i s x t t2 e1 e2
   obtain⟨d,hd,hr1⟩:=aA hr
   obtain⟨d2,hd2,hr2⟩:=aA hr1
   clear hr hr1
   have e1:args= #[s,x]:=by apply Array.ext';simpa using e1
   have e2:argTypes= #[t,t2]:=by apply Array.ext';simpa using e2
   subst e1 e2
   split at hr2
   ·obtain⟨i,hi,hr3⟩:=aA hr2
    clear hr2
    split at hr3
    ·rename_i z hz
     split at hr3
     ·rename_i h1 h2
      cases hr3
      exact val (agV (ty:=type) H (eX (P:=P) hd) (eX (P:=P) hd2) hi hz (by rw[<-aI];exact aQ h1) (aT h2) (ev1 s) (ev1 x) hk) rfl (by simp[execOp,resolve,invoke,builtin])
     ·cases hr3
    ·cases hr3
   ·cases hr2
  ·cases hr
   simp only[qc]at hk
   split at hk
   ·rename_i l hl
    refine enter (Az hF hl) hk ?_
    rw[J6]
    simp[execOp,resolve,invoke,Deferred.ofValue,Act.eval]
   ·exact hk.elim
  ·cases hr
   simp only[qc]at hk
   have hf:=ev1 ‹Operand›
   split at hk
   ·rename_i i l h1 h2
    rw[h1]at hf
    generalize hX:a.eval _=X at hf
    cases hf with|a hf=>cases hf with|c hf=>cases hf with|p hf=>
     cases hf
     refine enter (Az hF h2) hk ?_
     rw[J6]
     simp[execOp,resolve,invoke,Deferred.ofValue,hX]
   ·rename_i i j l h1 h2
    rw[h1]at hf
    obtain⟨ob,hob,hk⟩:=jQ hk
    split at hk
    ·rename_i g x y
     cases hf with|a hf=>cases hf with|c hf=>
      generalize hX:a.eval _=X at hf
      cases hf with
      |clo hr=>
       cases H.ob i j _ hob with
       |row ho=>rcases ho with h|⟨_,h,_⟩<;>cases h
       |eG ho=>rcases ho with h|h<;>cases h
       |clo hr' hB hx hy=>
        rename_i fx cx
        rw[hr]at hr';cases hr'
        rw[jP,jP]at hk
        refine enter (dR hx (dR (Az hF h2) hy)) hk ?_
        have e2:(fx++(List.map a.eval args.toList++cx)).toArray=fx.toArray++args.map a.eval++cx.toArray:=by rw[<-J6];simp
        rw[e2];simp[execOp,resolve,hX,Deferred.ofValue,invoke]
    ·exact hk.elim
   ·exact hk.elim
  ·cases hr
 all_goals first
  |(cases hr;exact float hk)
  |(simp only[rop]at hr;cases hr;done)
  |skip
 case unOp op t x=>
  cases op<;>simp only[rop]at hr<;>first|(cases hr;done)|(cases hr;exact float hk)
 case slice t x lo hi mx=>
  cases mx with
  |some=>cases hr
  |none=>
   simp only[rop]at hr
   obtain⟨d,hd,hr1⟩:=aA hr
   split at hr1
   ·obtain⟨n,hn,hr2⟩:=aA hr1
    cases hr2
    exact float hk
   ·cases hr1
    exact float hk
   ·cases hr1
 all_goals
  have hf:flB r=true:=by
   simp only[rop]at hr
   repeat' first
    |(replace hr:=aA hr;obtain⟨_,_,hr⟩:=hr)
    |split at hr
   all_goals first
    |(cases hr;done)
    |(cases hr;rfl)
  rw[agh hf]at hk
  exact float hk
end
end Sx
end
end Go.Proofs.YtakhobfamnjnoaaGreatDoor
