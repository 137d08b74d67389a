/- Symbolic runs: what floats tells the truth. -/
import Derived.Test.YtakhobfamnjnoaaGreatDoorC06
set_option linter.unusedVariables false
set_option linter.unusedSimpArgs false
namespace Go.Proofs.YtakhobfamnjnoaaGreatDoor
section
namespace Sx
open Go Go.RowKit
def X4 (ids:Ids)(O:Own)(w w':World):Prop:= ∀id∈ids,∀q,O id.1 id.2 q->w'.heap[q]?=w.heap[q]?
def CZ (F:Fz)(w':World):Prop:= ∀b cs,F b=some cs-> ∃e fr,w'.heap[b]?=some (.cells cs e fr)
def FlS (P:Program)(ρ:Ren)(O:Own)(w:World)(k:RV->Ids->Prop)(s:Sem Next):Prop:=
 ∃r x ids,k r ids/\GR ρ r x/\ ∀w',X4 ids O w w'->CZ ρ.fz w'->s.run P w'= .ok (.value x) w'
def kF (P:Program)(ρ:Ren)(O:Own)(w:World)(k:RV->Ids->Prop)(s:Sem Value):Prop:=
 ∃r x ids,k r ids/\GR ρ r x/\ ∀w',X4 ids O w w'->CZ ρ.fz w'->s.run P w'= .ok x w'
section
variable {P:Program} {T:jE} [lN P T] {ρ:Ren} {h:Hp} {O:Own} {w:World}
theorem kF.n {k:RV->Ids->Prop}{s:Sem Value}{s':Sem Next}(hf:kF P ρ O w k s)(hs:s'=do pure (.value (<-s))):FlS P ρ O w k s':=by
 obtain⟨r,x,ids,h1,h2,h3⟩:=hf
 exact⟨r,x,ids,h1,h2,fun w' a b=>by subst hs;simp[h3 w' a b]⟩
theorem Pu.fl {k:RV->Ids->Prop}{s:Sem Value}(hf:Pu P ρ (fun r=>k r []) s):kF P ρ O w k s:=by
 obtain⟨r,x,h1,h2,h3⟩:=hf
 exact⟨r,x,[],h1,h2,fun w' _ _=>h3 w'⟩
def MF:NK->Bool->Value->Prop
 | .ptr,true,x=>x= .pointer none
 | .ptr,false,x=> ∃p,x= .pointer (some p)
 | .slice,true,x=> ∃n c,x= .slice none n c
 | .slice,false,x=> ∃p n c,x= .slice (some p) n c
 | .map,true,x=>x= .map none
 | .map,false,x=> ∃p,x= .map (some p)
 | .func,true,x=>x= .nilFunc
 | .func,false,x=> ∃f a b,x= .func (.func f) a b
theorem yu {kd:NK}{a:SV}{r:Bool}{x:Value}(h:isNil kd a=some r)(hx:G ρ a x):MF kd r x:=by
 unfold isNil at h
 split at h<;>cases h<;>cases hx
 all_goals first
  |exact⟨_,rfl⟩
  |exact⟨_,_,rfl⟩
  |exact⟨_,_,_,rfl⟩
  |(rename_i hx;cases hx;first|rfl|exact⟨_,_,rfl⟩|exact⟨_,_,_,rfl⟩)
def acu (kd:NK)(d:TypeDesc):Prop:=match kd with
 | .ptr=> ∃e,d= .pointer e
 | .slice=> ∃e,d= .slice e
 | .map=> ∃a b,d= .map a b
 | .func=> ∃a b c,d= .func a b c
theorem Fb {t:TypeId}{d:TypeDesc}(hd:P.underlying t=some d){kd:NK}(hk:acu kd d){r s:Bool}{x y:Value}(hx:MF kd r x)(hy:MF kd s y)(hrs:r=true\/s=true)(n:Nat)(w:World):
 (Op.equalIn (n+1) t x y).run P w= .ok (r&&s) w:=by
 cases kd with
 |ptr=>
  obtain⟨e,rfl⟩:=hk
  cases r<;>cases s<;>simp at hrs
  ·obtain⟨p,rfl⟩:=hx;cases hy;simp[Op.equalIn,run_underlying hd]
  ·obtain⟨p,rfl⟩:=hy;cases hx;simp[Op.equalIn,run_underlying hd]
  ·cases hx;cases hy;simp[Op.equalIn,run_underlying hd]
 |slice=>
  obtain⟨e,rfl⟩:=hk
  cases r<;>cases s<;>simp at hrs
  ·obtain⟨p,n,c,rfl⟩:=hx;obtain⟨n',c',rfl⟩:=hy;simp[Op.equalIn,run_underlying hd]
  ·obtain⟨p,n,c,rfl⟩:=hy;obtain⟨n',c',rfl⟩:=hx;simp[Op.equalIn,run_underlying hd]
  ·obtain⟨n,c,rfl⟩:=hx;obtain⟨n',c',rfl⟩:=hy;simp[Op.equalIn,run_underlying hd]
 |map=>
  obtain⟨e,e',rfl⟩:=hk
  cases r<;>cases s<;>simp at hrs
  ·obtain⟨p,rfl⟩:=hx;cases hy;simp[Op.equalIn,run_underlying hd]
  ·obtain⟨p,rfl⟩:=hy;cases hx;simp[Op.equalIn,run_underlying hd]
  ·cases hx;cases hy;simp[Op.equalIn,run_underlying hd]
 |func=>
  obtain⟨e,e',e'',rfl⟩:=hk
  cases r<;>cases s<;>simp at hrs
  ·obtain⟨f,p,q,rfl⟩:=hx;cases hy;simp[Op.equalIn,run_underlying hd]
  ·obtain⟨f,p,q,rfl⟩:=hy;cases hx;simp[Op.equalIn,run_underlying hd]
  ·cases hx;cases hy;simp[Op.equalIn,run_underlying hd]
theorem adT {t:TypeId}{d:TypeDesc}(hd:P.underlying t=some d){kd:NK}(hk:acu kd d){a b:SV}{r:Bool}{x y:Value}(h:abn kd a b=some r)(hx:G ρ a x)(hy:G ρ b y):
 (∀n w,(Op.equalIn (n+1) t x y).run P w= .ok r w)/\ ∃s,MF kd s x:=by
 unfold abn at h
 split at h
 ·rename_i h1
  have h1:=yu h1 hx
  have h2:=yu h hy
  exact⟨fun n w=>by simpa using Fb hd hk h1 h2 (.inl rfl) n w,_,h1⟩
 ·rename_i h2 _
  have h1:=yu h hx
  have h2:=yu h2 hy
  exact⟨fun n w=>by simpa using Fb hd hk h1 h2 (.inr rfl) n w,_,h1⟩
 ·cases h
theorem adS {t:TypeId}{d:TypeDesc}(hd:P.underlying t=some d){kd:NK}(hk:acu kd d){a b:SV}{k:Bool->Prop}{x y:Value}(h:Hl kd a b k)(hx:G ρ a x)(hy:G ρ b y):
 ∃r,k r/\(∀n w,(Op.equalIn (n+1) t x y).run P w= .ok r w)/\ ∃s,MF kd s x:=by
 unfold Hl at h
 split at h
 ·rename_i r hr
  exact⟨r,h,adT hd hk hr hx hy⟩
 ·split at h
  ·have h2:isNil .slice b=some true:=by assumption
   obtain⟨m,h1⟩: ∃m,slq a=some m:=⟨_,by assumption⟩
   have hy:=yu h2 hy
   have key:(∃n c,x= .slice none n c/\m=0)\/ ∃p n c,x= .slice (some p) n c:=by
    unfold slq at h1
    split at h1<;>cases h1
    ·cases hx with|p hx=>
      obtain⟨ad,cap,rfl,_,_,h4⟩:=hx
      rcases h4 with⟨rfl,_⟩|⟨_,_,_,rfl,_⟩
      ·cases ad with
       |none=>exact .inl ⟨_,_,rfl,rfl⟩
       |some p=>exact .inr ⟨_,_,_,rfl⟩
      ·exact .inr ⟨_,_,_,rfl⟩
    ·cases hx with
     |sl=>exact .inr ⟨_,_,_,rfl⟩
     |eG _ h0=>exact .inl ⟨_,_,rfl,h0⟩
   rcases key with⟨n,c,rfl,h0⟩|⟨p,n,c,rfl⟩
   ·exact⟨true,h.t (by simp_all),fun n' w=>by simpa using Fb (r:=true) (s:=true) hd hk ⟨n,c,rfl⟩ hy (.inl rfl) n' w,true,_,_,rfl⟩
   ·exact⟨false,h.f,fun n' w=>by simpa using Fb (r:=false) (s:=true) hd hk ⟨p,n,c,rfl⟩ hy (.inr rfl) n' w,false,_,_,_,rfl⟩
  ·exact h.elim
theorem ac8 {op:BinOp}{t:TypeId}{xo yo:Operand}{x y:Value}{k:RV->Ids->Prop}{r n:Bool}(hn:isNeg op=some n)(h1:x≠ .nilIface)(h2: ∀c,x≠ .agg c)(hb: ∀w,(binOp .eql t x y).run P w= .ok (.bool r) w)(hb2: ∀w,(binOp .neq t x y).run P w= .ok (.bool !r) w)
 (hk:kb (fun r=>k r []) (oq n r)):kF P ρ O w k (do eqGuard op t xo yo x y;binOp op t x y):=by
 refine Pu.fl (guarded h1 h2 ?_)
 cases op<;>cases hn
 ·exact yY hk fun w=>by simpa[oq]using hb w
 ·exact yY hk fun w=>by simpa[oq]using hb2 w
theorem agj {op:BinOp}{t:TypeId}{xo yo:Operand}{x y:Value}{k:RV->Ids->Prop}{r n:Bool}(hn:isNeg op=some n)(h1:x≠ .nilIface)(h2: ∀c,x≠ .agg c)(hb: ∀w,(binOp .eql t x y).run P w= .ok (.bool r) w)(hb2: ∀w,(binOp .neq t x y).run P w= .ok (.bool !r) w)
 (hk:k (.a (.c (.p (.bool (oq n r))))) []):kF P ρ O w k (do eqGuard op t xo yo x y;binOp op t x y):=by
 refine Pu.fl (guarded h1 h2 ?_)
 cases op<;>cases hn
 ·exact dF (k:=fun r=>k r []) hk fun w=>by simpa[oq]using hb w
 ·exact dF (k:=fun r=>k r []) hk fun w=>by simpa[oq]using hb2 w
theorem adR {t:TypeId}{kd:NK}{s r:Bool}{x y:Value}(hx:MF kd s x)(he: ∀n w,(Op.equalIn (n+1) t x y).run P w= .ok r w)(w:World):x≠ .nilIface/\(∀c,x≠ .agg c)/\(binOp .eql t x y).run P w= .ok (.bool r) w/\(binOp .neq t x y).run P w= .ok (.bool !r) w:=by
 have e: ∀w,(Op.equal t x y).run P w= .ok r w:=fun w=>he 9999 w
 cases kd<;>cases s<;>first|exact False.elim hx|(obtain⟨f,p,q,rfl⟩:=hx;exact⟨by simp,by simp,by cases y<;>simp[binOp,e],by cases y<;>simp[binOp,e]⟩)|(obtain⟨p,q,rfl⟩:=hx;exact⟨by simp,by simp,by cases y<;>simp[binOp,e],by cases y<;>simp[binOp,e]⟩)|(obtain⟨p,rfl⟩:=hx;exact⟨by simp,by simp,by cases y<;>simp[binOp,e],by cases y<;>simp[binOp,e]⟩)|(cases hx;exact⟨by simp,by simp,by cases y<;>simp[binOp,e],by cases y<;>simp[binOp,e]⟩)
theorem Vt {a:PV}{q:IntKind}{n:Int}{z:Value}(h:Xu a=some (q,n))(hz:GP ρ.fz a z):z= .int q n:=by
 unfold Xu at h
 split at h<;>cases h<;>exact hz
def acv (t:FK)(d:TypeDesc):Prop:=match t with
 | .int=> ∃q,d= .int q
 | .str=>d= .string
 | .bool=>d= .bool
theorem agq {t:FK}{d:TypeDesc}{ty:TypeId}(hd:P.underlying ty=some d)(hf:acv t d){a b:PV}{r:Bool}{x y:Value}(h:eq1 I0 t a b=some r)(hx:GP ρ.fz a x)(hy:GP ρ.fz b y)(n:Nat)(w:World):(Op.equalIn (n+1) ty x y).run P w= .ok r w:=by
 unfold eq1 at h
 split at h
 ·obtain⟨q,rfl⟩:=hf
  split at h
  ·rename_i e1 e2
   split at h
   ·rename_i hq
    have hq:=same_eq hq
    cases h
    subst hq
    rw[Vt e1 hx,Vt e2 hy]
    simp[Op.equalIn,run_underlying hd]
    rfl
   ·cases h
  ·cases h
 ·cases hf
  split at h
  ·cases h
   cases hx;cases hy
   simp[Op.equalIn,run_underlying hd]
   exact beq_toListBytes _ _
  ·cases h
 ·cases h
theorem ZX {f:Field}{fs:List Field}{os:List (Nat×FK)}(h:Hz T (f::fs)=some os): ∃t d r,f.name≠ "_"/\P.underlying f.type=some d/\acv t d/\Hz T fs=some r/\os=(f.offset,t)::r:=by
 unfold Hz at h
 split at h
 ·rename_i q r hn hu hr
  cases h
  exact⟨.int,_,r,by simpa using hn,eX (P:=P) hu,⟨_,rfl⟩,hr,rfl⟩
 ·rename_i r hn hu hr
  cases h
  exact⟨.str,_,r,by simpa using hn,eX (P:=P) hu,rfl,hr,rfl⟩
 ·rename_i r hn hu hr
  cases h
  exact⟨.bool,_,r,by simpa using hn,eX (P:=P) hu,rfl,hr,rfl⟩
 ·cases h
theorem Z4 {t:FK}{d:TypeDesc}{ty:TypeId}(hd:P.underlying ty=some d)(hf:acv t d)(w:World):(isAgg ty).run P w= .ok false w:=by
 cases t with
 |int=>obtain⟨q,rfl⟩:=hf;simp[isAgg,run_underlying hd]
 |str=>cases hf;simp[isAgg,run_underlying hd]
 |bool=>cases hf;simp[isAgg,run_underlying hd]
theorem aaj {l m:List SV}{xs ys:List Value}(hx:F2 (G ρ) l xs)(hy:F2 (G ρ) m ys)(n:Nat)(w:World): ∀{fs:List Field}{os:List (Nat×FK)}{r:List Bool},Hz T fs=some os->eqF I0 l m os=some r->(Op.eqFields (n+2) xs.toArray ys.toArray fs).run P w= .ok (allB r) w
 |[],os,r,h0,h=>by cases h0;cases h;simp[Op.eqFields,allB]
 |f::fs,os,r,h0,h=>by
  obtain⟨t,d,r0,hn,hd,hf,hr0,rfl⟩:=ZX (P:=P) h0
  unfold eqF at h
  split at h
  ·rename_i a b r' e1 e2 e3
   split at h
   ·rename_i e he
    cases h
    rw[aJ]at e1 e2
    obtain⟨z,h1,h2⟩:=fO hx e1
    obtain⟨z',h1',h2'⟩:=fO hy e2
    cases h2 with|p h2=>cases h2' with|p h2'=>
     have p1:(part f.type xs.toArray f.offset).run P w= .ok z w:=by simp[part,Z4 hd hf w,h1]
     have p2:(part f.type ys.toArray f.offset).run P w= .ok z' w:=by simp[part,Z4 hd hf w,h1']
     have ih:=aaj hx hy n w hr0 e3
     unfold Op.eqFields
     rw[if_pos hn]
     simp only[Sem.run_bind,p1,Result.andThen_ok,p2,agq hd hf he h2 h2' (n+1) w,allB]
     cases e<;>simp[ih]
   ·cases h
  ·cases h
theorem ahB {op:BinOp}{t:TypeId}{fs:Array Field}{os:List (Nat×FK)}{xo yo:Operand}{l m:List SV}{xs ys:List Value}{n:Bool}{k:RV->Ids->Prop}{bs:List Bool}(hd:P.underlying t=some (.struct fs))(hf:Hz T fs.toList=some os)
 (h12:(P.stoodInHeld t||P.eqGuardType P.depth t)=false) (hn:isNeg op=some n) (hx:F2 (G ρ) l xs) (hy:F2 (G ρ) m ys) (hb:eqF I0 l m os=some bs) (hk:k (.a (.c (.p (.bool (oq n (allB bs)))))) []):
 kF P ρ O w k (do eqGuard op t xo yo (.agg xs.toArray) (.agg ys.toArray);binOp op t (.agg xs.toArray) (.agg ys.toArray)):=by
 simp only[Bool.or_eq_false_iff]at h12
 obtain⟨h1,h2⟩:=h12
 have hf':P.fieldsOf t=fs:=by simp[Program.fieldsOf,hd]
 have he: ∀w,(Op.equalIn 10000 t (.agg xs.toArray) (.agg ys.toArray)).run P w= .ok (allB bs) w:=fun w=>by
  rw[run_equalIn_struct w 9999 t _ _ (by rw[hf'];exact hd) h1,hf']
  exact aaj hx hy 9997 w hf hb
 have hg: ∀w,(eqGuard op t xo yo (.agg xs.toArray) (.agg ys.toArray)).run P w= .ok () w:=fun w=>run_eqGuard_agg w op t xo yo _ _ h2
 refine Pu.fl ?_
 cases op<;>cases hn
 ·exact dF hk fun w=>by simp only[Sem.run_bind,hg,Result.andThen_ok,run_eql_struct,he];rfl
 ·exact dF hk fun w=>by simp only[Sem.run_bind,hg,Result.andThen_ok,run_neq_struct,he];rfl
theorem Y8 {t:TypeId}{n:Option Nat}(ha:agg T t=some n){l:List SV}{xs:List Value}(hx:F2 (G ρ) l xs){off:Nat}{k:RV->Prop}(hk:y5 n l off k):Pu P ρ k (part t xs.toArray off):=by
 unfold y5 at hk
 split at hk
 ·obtain⟨c,hc,hk⟩:=ah hk
  rw[aJ]at hc
  obtain⟨x,h1,h2⟩:=fO hx hc
  exact⟨_,_,hk, .a (.c h2),fun w=>by simp[part,(KH (P:=P) ha w).1,h1]⟩
 ·rename_i m
  split at hk
  ·refine⟨_,_,hk, .a (.agg (by rw[V9,Kr];exact xB (xC hx off) m)),fun w=>?_⟩
   have:xs.toArray.extract off (off+m)=((xs.drop off).take m).toArray:=by
    simp[List.extract_toArray,List.extract_eq_take_drop]
   simp[part,(KH (P:=P) ha w).1,(KH (P:=P) ha w).2 m rfl,this]
  ·exact hk.elim
theorem BH {t:TypeId}{n:Option Nat}(ha:agg T t=some n){b base:Nat}{cells:List SV}{off:Nat}{cs:Array Value}{e:TypeId}{fr:Nat×Nat}(hh:w.heap[b]?=some (.cells cs e fr))(hcs: ∀j v,cells[j]?=some v-> ∃x,G ρ v x/\cs[base+j]?=some x)
 {k:RV->Prop} (hk:y5 n cells off k): ∃r x,k r/\GR ρ r x/\ ∀w',(∃e fr,w'.heap[b]?=some (.cells cs e fr))->(loadVar t ⟨b,base+off,none⟩).run P w'= .ok x w':=by
 unfold y5 at hk
 split at hk
 ·obtain⟨c,hc,hk⟩:=ah hk
  rw[aJ]at hc
  have hlt:=(List.getElem?_eq_some_iff.1 hc).1
  obtain⟨xs,h1,h2⟩:=Bz (P:=P) ha (cells:=cells) (c:=[c]) (off:=off) (by
   show List.take 1 (cells.drop off)=[c]
   rw[List.drop_eq_getElem_cons hlt]
   simp[(List.getElem?_eq_some_iff.1 hc).2]) (by simp[one1];omega) hh hcs
  cases h1 with
  |cons h1 t1=>cases t1;exact⟨_,_,hk, .a (.c h1),h2⟩
 ·rename_i m
  split at hk
  ·rename_i hl
   have hl:=aT hl
   rw[aI]at hl
   obtain⟨xs,h1,h2⟩:=Bz (P:=P) ha (cells:=cells) (c:=tk m (drp off cells)) (off:=off) (by rw[V9,Kr];rfl) hl hh hcs
   exact⟨_,_,hk, .a (.agg h1),h2⟩
  ·exact hk.elim
theorem BI {t:TypeId}{n:Option Nat}(ha:agg T t=some n){b base:Nat}{cells:List PV}{off:Nat}{cs:Array Value}{e:TypeId}{fr:Nat×Nat}(hh:w.heap[b]?=some (.cells cs e fr))(hcs: ∀j v,(cells.map SV.p)[j]?=some v-> ∃x,G ρ v x/\cs[base+j]?=some x)
 {k:RV->Prop} (hk:OL I0 n cells off k): ∃r x,k r/\GR ρ r x/\ ∀w',(∃e fr,w'.heap[b]?=some (.cells cs e fr))->(loadVar t ⟨b,base+off,none⟩).run P w'= .ok x w':=by
 obtain⟨⟨c,hc,hk⟩⟩:=hk
 obtain⟨hl,rfl⟩:=FD hc
 obtain⟨xs,h1,h2⟩:=Bz (P:=P) ha (cells:=cells.map SV.p) (c:=(((cells.drop off).take (one1 n))).map SV.p) (off:=off) (by rw[<-List.map_drop,<-List.map_take]) (by simpa using hl) hh hcs
 split at hk
 ·split at hk
  ·rename_i a ha
   rw[ha]at h1
   cases h1 with
   |cons h1 t1=>cases t1;exact⟨_,_,hk, .a (.c h1),h2⟩
  ·exact hk.elim
 ·exact⟨_,_,hk, .a (.agg (by rw[Qd];exact h1)),h2⟩
theorem U7 {r:RV}{n:Nat}{x:Value}(h:WU r=some n)(hx:GR ρ r x): ∃q,x= .int q (n:Int):=by
 unfold WU at h
 split at h
 ·split at h
  ·cases h
   cases hx with|a hx=>cases hx with|c hx=>cases hx with|p hx=>cases hx;exact⟨_,rfl⟩
  ·cases h
 ·cases h
theorem xG {t:TypeId}{cs:List SV}(h:rC T t=some cs): ∃i z,P.info? t=some i/\i.zero=some z/\F2 (G ρ) cs z.cells.toList:=by
 unfold rC at h
 split at h
 ·rename_i i hi
  split at h
  ·rename_i z hz
   exact⟨i,z,qY (P:=P) hi,hz,LC h⟩
  ·cases h
 ·cases h
theorem qW {α:Type}: ∀(xs l:List α)(n:Nat),(gB xs l n).length=l.length
 |[],_,_=>rfl
 |x::xs,l,n=>by rw[gB,qW];simp
theorem En (xs:List Value): ∀(cells:Array Value)(off k:Nat),((xs.zipIdx k).foldl (fun cs (c,j)=>cs.setIfInBounds (off+j) c) cells).toList=gB xs cells.toList (off+k):=by
 induction xs with
 |nil=>intro cells off k;rfl
 |cons x xs ih=>
  intro cells off k
  simp only[List.zipIdx_cons,List.foldl_cons,gB]
  rw[ih]
  simp[Nat.add_assoc]
theorem LX {α β:Type}{R:α->β->Prop}{l:List α}{xs:List β}(hx:F2 R l xs): ∀{cs:List α}{ys:List β}(_:F2 R cs ys)(n:Nat),F2 R (gB l cs n) (gB xs ys n):=by
 induction hx with
 |nil=>intro cs ys hy n;exact hy
 |cons a _ ih=>intro cs ys hy n;exact ih (Aq hy a n) _
def Plc (place:Nat->Option (Nat×Nat))(p:Nat×Nat×Operand)(q:Nat×Operand):Prop:=place q.1=some (p.1,p.2.1)/\p.2.2=q.2
theorem H6 {N:Nat}{e:bK}{a:Act}(hF:Fr ρ N e a){place:Nat->Option (Nat×Nat)}: ∀{ps:List (Nat×Nat×Operand)}{qs:List (Nat×Operand)}(_:F2 (Plc place) ps qs){z l:List SV}{zs:List Value},fills e ps z=some l->F2 (G ρ) z zs->
 ∃ls:List Value,F2 (G ρ) l ls/\Instr.fill place zs.toArray (qs.map fun p=>(p.1,a.eval p.2))=some ls.toArray/\ls.length=zs.length
 |_,_, .nil,_,_,zs,h,hz=>by cases h;exact⟨zs,hz,rfl,rfl⟩
 |_,_, .cons (a:=p) (b:=q) hp t,z,l,zs,h,hz=>by
  obtain⟨o,n,x⟩:=p
  obtain⟨i,y⟩:=q
  obtain⟨hpl,hxy⟩:=hp
  dsimp only at hpl hxy
  subst hxy
  unfold fills at h
  split at h
  ·rename_i c hc
   split at h
   ·rename_i h1 h2
    have h1:c.length=n:=by rw[<-aI];exact aQ h1
    have h2:o+n<=z.length:=by rw[<-aI];exact aT h2
    obtain⟨xs,h3,h4⟩:=PI hc (Fv hF x)
    obtain⟨ls,h5,h6,h7⟩:=H6 hF t h (LX h4 hz o)
    refine⟨ls,h5,?_,by rw[h7,qW]⟩
    have hxl:=dw h4
    have hyl:=dw hz
    have e1: ¬((a.eval x).cells.size≠n\/o+(a.eval x).cells.size>zs.toArray.size):=by
     rw[h3]
     simp only[List.size_toArray]
     rintro(e|e)
     ·exact e (by omega)
     ·omega
    have e2:((a.eval x).cells.zipIdx.foldl (fun cs (c,j)=>cs.setIfInBounds (o+j) c) zs.toArray)=(gB xs zs o).toArray:=by
     apply Array.ext'
     rw[h3]
     have:=En xs zs.toArray o 0
     simpa using this
    show Instr.fill place zs.toArray ((i,a.eval x)::_)=_
    simp only[Instr.fill,hpl]
    rw[if_neg (by simpa using e1),e2]
    exact h6
   ·cases h
  ·cases h
theorem U0 {pl:List (Nat×Nat)}: ∀{qs:List (Nat×Operand)}{ps:List (Nat×Nat×Operand)},Qu pl qs=some ps->F2 (Plc (aF pl)) ps qs
 |[],_,h=>by cases h;exact .nil
 |(f,x)::qs,ps,h=>by
  unfold Qu at h
  split at h
  ·rename_i o n r h1 h2
   cases h
   exact .cons ⟨h1,rfl⟩ (U0 h2)
  ·cases h
theorem U8 (n:Nat): ∀(qs:List (Nat×Operand)),F2 (Plc fun i=>some (i*n,n)) (WW n qs) qs
 |[]=> .nil
 |(_,_)::qs=> .cons ⟨rfl,rfl⟩ (U8 n qs)
theorem Y4: ∀{fs:List Field}{pl:List (Nat×Nat)},Y5 T fs=some pl->fs.mapM (fun f=>(P.info? f.type).map fun i=>(f.offset,i.size))=some pl
 |[],_,h=>by cases h;rfl
 |f::fs,pl,h=>by
  unfold Y5 at h
  split at h
  ·rename_i i r h1 h2
   cases h
   simp[qY (P:=P) h1,Y4 h2]
  ·cases h
theorem agG {N:Nat}{e:bK}{a:Act}(hF:Fr ρ N e a){t:TypeId}{fs:Array Field}(hd:P.underlying t=some (.struct fs)){pl:List (Nat×Nat)}(hpl:Y5 T fs.toList=some pl){qs:Array (Nat×Operand)}{ps:List (Nat×Nat×Operand)}(hps:Qu pl qs.toList=some ps){z l:List SV}(hz:rC T t=some z)(hl:fills e ps z=some l)
 {k:RV->Prop} (hk:k (.a (.agg l))):Pu P ρ k (Instr.build t (qs.map fun p=>(p.1,a.eval p.2))):=by
 obtain⟨i,zv,hi,hzv,hx⟩:=xG (P:=P) (ρ:=ρ) hz
 obtain⟨ls,h1,h2,_⟩:=H6 hF (U0 hps) hl hx
 refine⟨_,_,hk, .a (.agg h1),fun w=>run_build w t _ _ ?_⟩
 have:aF pl=fun i=>pl.toArray[i]?:=by funext i;rw[aJ];simp
 rw[this]at h2
 simp only[Program.built,hi,hd,hzv,Y4 hpl]
 simpa using h2
end
end Sx
end
section
namespace Sx
open Go Go.RowKit
section
variable {P:Program} {T:jE} [lN P T] {ρ:Ren} {h:Hp} {O:Own} {w:World} {N:Nat} {e:bK} {a:Act}
theorem aY {b:Nat}{o:Obj}(hh:w.heap[b]?=some o)(hc: ∀c e f,o≠ .cells c e f):(getObj b).run P w= .ok o w:=by
 cases o<;>simp[getObj,Sem.run,hh]
 exact absurd rfl (hc _ _ _)
theorem um (s t:ByteArray):(s==t)=decide (s=t):=by
 obtain⟨a⟩:=s
 obtain⟨b⟩:=t
 show(a==b)=_
 rw[Bool.eq_iff_iff]
 simp
theorem lD (H:HR P ρ h O w){i j:Nat}{es:Ms}{c:Nat}(ho:bI h i j=some (.map es c)){b base cap:Nat}(hr:ρ.nm i j=some (.blk b base cap)):
 ∃xs:List MapEntry,w.heap[b]?=some (.map xs.toArray c)/\O i j b/\F2 (GE ρ) es.li xs/\base=0/\cap=0:=by
 have ob:=H.ob i j _ ho
 cases ob with
 |row ho'=>rcases ho' with h1|⟨l,h1,_⟩<;>cases h1
 |eG ho'=>rcases ho' with h1|h1<;>cases h1
 |map hr' hB hh hx=>rw[hr]at hr';cases hr';exact⟨_,hh,(hB _).2 rfl,hx,rfl,rfl⟩
theorem acR (H:HR P ρ h O w){i j m n since c:Nat}{seen:List Nat}(ho:bI h i j=some (.fJ m n since seen c)){b base cap:Nat}(hr:ρ.nm i j=some (.blk b base cap)):
 ∃bm bs cp,ρ.nm m n=some (.blk bm bs cp)/\w.heap[b]?=some (.mapIter (some bm) since seen.reverse.toArray c)/\O i j b/\base=0/\cap=0:=by
 have ob:=H.ob i j _ ho
 cases ob with
 |row ho'=>rcases ho' with h1|⟨l,h1,_⟩<;>cases h1
 |eG ho'=>rcases ho' with h1|h1<;>cases h1
 |fJ hr' hm hB hh=>rw[hr]at hr';cases hr';exact⟨_,_,_,hm,hh,(hB _).2 rfl,rfl,rfl⟩
theorem Hw {kd:KD}{r:RV}{x:Value}{key:KV}(hk:keyOf kd r=some key)(hx:GR ρ r x):Vr kd key=true/\GK ρ.fz key x:=by
 unfold keyOf at hk
 split at hk
 ·split at hk
  ·rename_i hq
   cases hk
   cases hx with|a hx=>cases hx with|c hx=>cases hx with|p hx=>exact⟨hq,hx⟩
  ·cases hk
 ·split at hk
  ·rename_i hq
   cases hk
   cases hx with|a hx=>cases hx with|c hx=>cases hx with|p hx=>exact⟨hq,hx⟩
  ·cases hk
 ·cases hk
  cases hx with|a hx=>cases hx with|c hx=>cases hx with|p hx=>exact⟨rfl,hx⟩
 ·cases hk
theorem adz {F:Fz}{kd:KD}{d:TypeDesc}(hd:Eb d=some kd){a b:KV}(ha:Vr kd a=true)(hb:Vr kd b=true){x y:Value}(hx:GK F a x)(hy:GK F b y):Instr.sameNow d x y=some (NS a b)/\(NS a b=true->Instr.sameBits 10000 y x=true):=by
 unfold Eb at hd
 split at hd<;>cases hd
 ·cases a with
  |agg=>cases ha
  |one p=>
   cases p<;>try(cases ha;done)
   cases b with
   |agg=>cases hb
   |one q=>
    cases q<;>try(cases hb;done)
    simp only[Vr,decide_eq_true_eq]at ha hb
    subst ha hb
    cases hx;cases hy
    simp only[Instr.sameNow,if_true,NS,Instr.sameBits]
    refine⟨by congr 1,fun h=>by simpa using(of_decide_eq_true h).symm⟩
 ·cases a with
  |agg=>cases ha
  |one p=>
   cases p<;>try(cases ha;done)
   cases b with
   |agg=>cases hb
   |one q=>
    cases q<;>try(cases hb;done)
    cases hx;cases hy
    simp only[Instr.sameNow,NS,Instr.sameBits,um]
    exact⟨trivial,fun h=>by have:=of_decide_eq_true h;subst this;exact decide_eq_true rfl⟩
theorem find_ok {kd:KD}{d:TypeDesc}(hd:Eb d=some kd){key:KV}(hkey:Vr kd key=true){kx:Value}(hkx:GK ρ.fz key kx){es:List ME}{xs:List MapEntry}(hx:F2 (GE ρ) es xs):vN kd es=true-> ∀i,∃r',Instr.findNow d kx xs i=some r'/\
 ((Ho key es=none/\r'=none/\(∀v c,DZ key v c es=es++[⟨key,v,c⟩])/\BM key es=es)\/
   ∃j m y,Ho key es=some m/\r'=some (i+j,y.val)/\es[j]?=some m/\xs[j]?=some y/\GE ρ m y/\(∀v c,DZ key v c es=es.set j ⟨key,v,m.born⟩)/\BM key es=es.eraseIdx j/\Instr.sameBits 10000 y.key kx=true):=by
 induction hx with
 |nil=>intro _ i;exact⟨none,rfl, .inl ⟨rfl,rfl,fun _ _=>rfl,rfl⟩⟩
 | @cons m y es xs he _ ih=>
   intro hks i
   unfold vN at hks
   rw[List.all_cons,Bool.and_eq_true]at hks
   obtain⟨h1,h2⟩:=adz hd hkey hks.1 hkx he.1
   cases hb:NS key m.key with
   |true=>
    refine⟨some (i,y.val),by simp only[Instr.findNow,h1,hb], .inr ⟨0,m,y,by simp[Ho,hb],rfl,rfl,rfl,he,fun v c=>by simp[DZ,hb],by simp[BM,hb],h2 hb⟩⟩
   |false=>
    obtain⟨r',h3,h4⟩:=ih hks.2 (i+1)
    refine⟨r',by simp only[Instr.findNow,h1,hb,h3],?_⟩
    rcases h4 with⟨h4,h5,h6,h7⟩|⟨j,m',y',h4,h5,h6,h7,h8,h9,h10,h11⟩
    ·exact .inl ⟨by simpa[Ho,hb]using h4,h5,fun v c=>by simp[DZ,hb,h6],by simp[BM,hb,h7]⟩
    ·refine .inr ⟨j+1,m',y',by simpa[Ho,hb]using h4,by rw[h5];congr 2;omega,by simpa using h6,by simpa using h7,h8,fun v c=>by simp[DZ,hb,h9],by simp[BM,hb,h10],h11⟩
theorem Sm {kt:TypeId}{d:TypeDesc}(hd:P.underlying kt=some d){kd:KD}(hk:Eb d=some kd)(b:Bool)(x:Value)(w:World):(Instr.checkKey b 10000 kt x).run P w= .ok () w:=by
 unfold Eb at hk
 show(Instr.checkKey b (9999+1) kt x).run P w=_
 split at hk<;>cases hk<;>(unfold Instr.checkKey;simp[run_underlying hd])
theorem rP {kt:TypeId}{d:TypeDesc}(hd:P.underlying kt=some d){x:Value}{xs:List MapEntry}{r:Option (Nat×Value)}(h:Instr.findNow d x xs 0=some r)(w:World):(Instr.findKey kt x xs).run P w= .ok r w:=by
 simp[Instr.findKey,run_underlying hd,h]
theorem X9 {t:TypeId}{z:AV}(hz:Um T t=some z): ∃x,GA ρ z x/\ ∀w,(zeroValue t).run P w= .ok x w:=by
 unfold Um at hz
 split at hz
 ·rename_i i hi
  split at hz
  ·rename_i x hx
   split at hz
   ·rename_i v hv
    cases hz
    have:=Zg (ρ:=ρ) x
    rw[hv]at this
    cases this with|a this=>exact⟨x,this,fun w=>by simp[zeroValue,typeInfo,qY (P:=P) hi,hx]⟩
   ·cases hz
  ·cases hz
 ·cases hz
theorem Ah {ok:Bool}{v:AV}{x:Value}(hx:GA ρ v x)(is:Bool):GR ρ (QS ok v (match is with|true=> .tt|false=> .ff)) (if ok then .tuple #[x, .bool is]else x):=by
 cases ok with
 |true=>cases is<;>exact .aK (xs:=[_,_]) (.cons hx (.cons (.c (.p rfl)) .nil))
 |false=>exact .a hx
theorem afw (H:HR P ρ h O w){t kt et:TypeId}{d:TypeDesc}{kd:KD}{z:AV}(ht:P.underlying t=some (.map kt et))(hd:P.underlying kt=some d)(hkd:Eb d=some kd)(hz:Um T et=some z){xo yo:Operand}{X Y:Value}(hx:GR ρ (ev e xo) X)(hy:GR ρ (ev e yo) Y){ok:Bool}{k:RV->Ids->Prop}(hk:jl I0 P (.lkp kd z ok xo yo) e h k):
 kF P ρ O w k (Instr.lookup t X Y ok):=by
 simp only[jl]at hk
 obtain⟨key,hkey,hk⟩:=ah hk
 obtain⟨hki,hkx⟩:=Hw hkey hy
 obtain⟨zx,hzx,JH⟩:=X9 (P:=P) (ρ:=ρ) hz
 have lI:=Sm (P:=P) hd hkd
 split at hk
 ·rename_i h1
  rw[h1]at hx
  cases hx with|a hx=>cases hx with|c hx=>cases hx with|p hx=>
   cases hx
   exact⟨_,_,[],hk,Ah hzx false,fun w' _ _=>by simp[Instr.lookup,run_underlying ht,lI,rP (P:=P) hd (x:=Y) (xs:=[]) (r:=none) rfl,JH]⟩
 ·rename_i i j h1
  rw[h1]at hx
  obtain⟨o,ho,hk⟩:=jQ hk
  split at hk
  ·rename_i l c
   have h0:vN kd l.li=true:=hk.h.1
   have hk:=hk.h.2
   cases hx with|a hx=>cases hx with|c hx=>cases hx with
    | @mp _ _ b base cap hr=>
      obtain⟨xs,hh,hO,hxs,_,_⟩:=lD H ho hr
      obtain⟨r',h3,h4⟩:=find_ok hkd hki hkx hxs h0 0
      rcases h4 with⟨h4,rfl,_⟩|⟨q,m,y,h4,rfl,_,_,h8,_⟩
      ·exact⟨_,_,_,hk.n h4,Ah hzx false,fun w' hs _=>by
        have hh':w'.heap[b]?=some (.map xs.toArray c):=by rw[hs _ (List.mem_singleton.2 rfl) _ hO];exact hh
        simp[Instr.lookup,run_underlying ht,aY hh' (fun _ _ _=>by simp),lI,rP (P:=P) hd h3,JH]⟩
      ·exact⟨_,_,_,hk.s m h4,Ah h8.2.1 true,fun w' hs _=>by
        have hh':w'.heap[b]?=some (.map xs.toArray c):=by rw[hs _ (List.mem_singleton.2 rfl) _ hO];exact hh
        simp[Instr.lookup,run_underlying ht,aY hh' (fun _ _ _=>by simp),lI,rP (P:=P) hd h3]⟩
  ·exact hk.elim
 ·exact hk.elim
theorem adY (H:HR P ρ h O w){t ty kt et:TypeId}(ht:P.underlying t=some (.map kt et)){xo:Operand}{X:Value}(hx:GR ρ (ev e xo) X){k:RV->Ids->Prop}(hk:jl I0 P (.abu xo) e h k):kF P ρ O w k (Builtin.len_ #[t] ty #[X]):=by
 simp only[jl]at hk
 split at hk
 ·rename_i h1
  rw[h1]at hx
  cases hx with|a hx=>cases hx with|c hx=>cases hx with|p hx=>
   cases hx
   exact⟨_,_,[],hk, .a (.c (.p rfl)),fun w' _ _=>by simp[Builtin.len_,run_underlying ht,goInt]⟩
 ·rename_i i j h1
  rw[h1]at hx
  obtain⟨o,ho,hk⟩:=jQ hk
  split at hk
  ·cases hx with|a hx=>cases hx with|c hx=>cases hx with
    | @mp _ _ b base cap hr=>
      obtain⟨xs,hh,hO,hxs,_,_⟩:=lD H ho hr
      exact⟨_,_,_,hk, .a (.c (.p rfl)),fun w' hs _=>by
       have hh':=by rw[<-hs _ (List.mem_singleton.2 rfl) _ hO]at hh;exact hh
       simp[Builtin.len_,run_underlying ht,goInt,aY hh' (fun _ _ _=>by simp),I0,dw hxs]⟩
  ·exact hk.elim
 ·exact hk.elim
theorem aaA {k:KV}{x:Value}(h:GK ρ.fz k x):GA ρ (avK k) x:=by
 cases k with
 |one p=>exact .c (.p h)
 |agg l=>
  obtain⟨xs,rfl,h⟩:=h
  refine .agg ?_
  induction h with
  |nil=>exact .nil
  |cons h _ ih=>exact .cons (.p h) ih
theorem find_born {s:Nat}{es:List ME}{xs:List MapEntry}(hx:F2 (GE ρ) es xs): ∀{m:ME},(es.find? fun e=>e.born==s)=some m-> ∃y,(xs.find? fun x=>x.born==s)=some y/\GE ρ m y:=by
 induction hx with
 |nil=>intro m h;cases h
 | @cons a b _ _ hab _ ih=>
   intro m h
   rw[List.find?_cons]at h⊢
   rw[hab.2.2]
   split at h
   ·cases h;exact⟨b,rfl,hab⟩
   ·exact ih h
theorem agt (H:HR P ρ h O w){xo:Operand}{X:Value}(hx:GR ρ (ev e xo) X){k:RV->Ids->Prop}(hk:jl I0 P (.ent xo) e h k):kF P ρ O w k (Instr.entry X):=by
 simp only[jl]at hk
 split at hk
 ·rename_i i j h1
  rw[h1]at hx
  obtain⟨o,ho,hk⟩:=jQ hk
  split at hk
  ·rename_i m n since s seen c
   obtain⟨o2,ho2,hk⟩:=jQ hk
   split at hk
   ·rename_i l d
    have hdc:d=c:=by simpa[I0]using hk.h.1
    subst hdc
    obtain⟨me,hme,hk⟩:=hk.h.2.h
    cases hx with|a hx=>cases hx with|c hx=>cases hx with
     | @ptr _ _ b base cap _ hr=>
       obtain⟨bm,bs,cp,hm,hh,hO,rfl,rfl⟩:=acR H ho hr
       obtain⟨xs,hhm,hOm,hxs,_,_⟩:=lD H ho2 hm
       obtain⟨y,h3,h4⟩:=find_born hxs hme
       exact⟨_,_,_,hk, .aK (xs:=[_,_]) (.cons (aaA h4.1) (.cons h4.2.1 .nil)),fun w' hs _=>by
        have e1:w'.heap[b]?=some (.mapIter (some bm) since (s::seen).reverse.toArray d):=by rw[hs _ (.head _) _ hO];exact hh
        have e2:w'.heap[bm]?=some (.map xs.toArray d):=by rw[hs _ (.tail _ (.head _)) _ hOm];exact hhm
        simp[Instr.entry,aY e1 (fun _ _ _=>by simp),aY e2 (fun _ _ _=>by simp),h3]⟩
   ·exact hk.elim
  ·exact hk.elim
 ·exact hk.elim
theorem afo {t:TypeId}{d:TypeDesc}(hd:P.underlying t=some d)(hn: ∀i,d≠ .interface i){xo:Operand}{X:Value}(hx:GR ρ (ev e xo) X){k:RV->Ids->Prop}(hk:jl I0 P (.mki t xo) e h k):kF P ρ O w k (Instr.makeInterface t X):=by
 simp only[jl]at hk
 split at hk
 ·rename_i p h1
  rw[h1]at hx
  cases hx with|a hx=>cases hx with|c hx=>cases hx with|p hx=>
   refine⟨_,_,[],hk, .a (.c (.p ⟨X,rfl,hx⟩)),fun w' _ _=>?_⟩
   cases d<;>first|exact absurd rfl (hn _)|simp[Instr.makeInterface,run_underlying hd]
 ·exact hk.elim
theorem aha {s t:TypeId}{d:TypeDesc}(hd:P.underlying t=some d)(hn: ∀i,d≠ .interface i){z:AV}(hz:Um T t=some z){xo:Operand}{X:Value}(hx:GR ρ (ev e xo) X){ok:Bool}{k:RV->Ids->Prop}(hk:jl I0 P (.ta z t ok xo) e h k):kF P ρ O w k (Instr.typeAssert X s t ok):=by
 simp only[jl]at hk
 obtain⟨zx,hzx,JH⟩:=X9 (P:=P) (ρ:=ρ) hz
 split at hk
 ·rename_i u p h1
  rw[h1]at hx
  cases hx with|a hx=>cases hx with|c hx=>cases hx with|p hx=>
   obtain⟨y,rfl,hy⟩:=hx
   split at hk
   ·rename_i hb
    have:=aQ hb
    subst this
    refine⟨_,_,[],hk,Ah (.c (.p hy)) true,fun w' _ _=>?_⟩
    cases d<;>first|exact absurd rfl (hn _)|simp[Instr.typeAssert,run_underlying hd]
   ·rename_i hb
    have: ¬u=t:=fun e=>by subst e;simp at hb
    refine⟨_,_,[],hk,Ah hzx false,fun w' _ _=>?_⟩
    cases d<;>first|exact absurd rfl (hn _)|simp[Instr.typeAssert,run_underlying hd,this,JH]
   ·exact hk.elim
 ·rename_i h1
  rw[h1]at hx
  cases hx with|a hx=>cases hx with|c hx=>cases hx with|p hx=>
   cases hx
   split at hk
   ·refine⟨_,_,[],hk,Ah hzx false,fun w' _ _=>?_⟩
    cases d<;>first|exact absurd rfl (hn _)|simp[Instr.typeAssert,run_underlying hd,JH]
   ·exact hk.elim
 ·exact hk.elim
theorem Vs {r:RV}{q:IntKind}{n:Int}{x:Value}(h:Xr r=some (q,n))(hx:GR ρ r x):x= .int q n:=by
 unfold Xr at h
 split at h<;>cases h
 ·cases hx with|a hx=>cases hx with|c hx=>cases hx with|p hx=>exact hx
 ·cases hx with|a hx=>cases hx with|c hx=>cases hx with|p hx=>exact hx
theorem Zr {xo yo:Operand}{X Y:Value}(hx:GR ρ (ev e xo) X)(hy:GR ρ (ev e yo) Y){mn:Bool}{k:RV->Ids->Prop}(hk:jl I0 P (.mmx mn xo yo) e h k)(ts:Array TypeId)(ty:TypeId):
 kF P ρ O w k (match mn with|true=>Builtin.min_ ts ty #[X,Y]|false=>Builtin.max_ ts ty #[X,Y]):=by
 simp only[jl]at hk
 split at hk
 ·rename_i q a q' b h1 h2
  rw[Vs h1 hx,Vs h2 hy]
  refine⟨_,_,[],hk, .a (.c (.p rfl)),fun w' _ _=>?_⟩
  cases mn<;>simp[Builtin.min_,Builtin.max_,Builtin.min2,Builtin.max2,Jt,I0]
 ·exact hk.elim
end
end Sx
end
end Go.Proofs.YtakhobfamnjnoaaGreatDoor
