/- Symbolic runs: whatever floats tells the truth. -/
import Derived.Test.YtakhobfamnjnoaaGreatDoorC07
set_option linter.unusedVariables false
set_option linter.unusedSimpArgs false
set_option maxHeartbeats 1000000
namespace Go.Proofs.YtakhobfamnjnoaaGreatDoor
namespace Sx
open Go Go.RowKit
section
variable {P:Program} {T:jE} [lN P T] {ρ:Ren} {h:Hp} {O:Own} {w:World} {N:Nat} {e:bK} {a:Act}
theorem rowAt (H:HR P ρ h O w){i j:Nat}{o:AO}(ho:bI h i j=some o){cells:List SV}{ty:TypeId}(hro:o= .row cells ty\/ ∃l,o= .bH l ty/\cells=l.map .p){b base cap:Nat}(hr:ρ.nm i j=some (.blk b base cap)):
 ∃cs e,w.heap[b]?=some (.cells cs e (0,0))/\O i j b/\ ∀j v,cells[j]?=some v-> ∃x,G ρ v x/\cs[base+j]?=some x:=by
 have ob:=H.ob i j o ho
 cases ob with
 |row ho' hr' hB hh hc hsz=>
  rw[hr]at hr';cases hr'
  refine⟨_,_,hh,(hB _).2 rfl,?_⟩
  rcases hro with rfl|⟨l,rfl,rfl⟩
  ·rcases ho' with h1|⟨l,h1,_⟩
   ·cases h1;exact hc
   ·cases h1
  ·rcases ho' with h1|⟨l',h1,rfl⟩
   ·cases h1
   ·cases h1;exact hc
 |eG ho' hr' hB=>rw[hr]at hr';cases hr'
 |map hr' hB hh hx=>rcases hro with h1|⟨l,h1,_⟩<;>cases h1
 |chan hr' hB hh hx=>rcases hro with h1|⟨l,h1,_⟩<;>cases h1
 |clo hr' hB hx hy=>rcases hro with h1|⟨l,h1,_⟩<;>cases h1
 |fJ hr'=>rcases hro with h1|⟨l,h1,_⟩<;>cases h1
 |sit hr'=>rcases hro with h1|⟨l,h1,_⟩<;>cases h1
theorem afk {m n:Nat}(h:Nat.ble (Nat.succ m) n=true):m<n:=aT h
theorem lW {isS:Bool}{len cap l h m:Nat}{low high max:Option Value}{w:World}(hl:(low=none/\l=0)\/ ∃q,low=some (.int q (l:Int)))(hh:(high=none/\h=len/\max=none)\/ ∃q,high=some (.int q (h:Int)))
 (hm:(max=none/\m=cap)\/ ∃q,max=some (.int q (m:Int))) (h1:l<=h) (h2:h<=m) (h3:m<=cap):(Instr.sliceBounds isS len cap low high max).run P w= .ok (l,h,m) w:=by
 rcases hl with⟨rfl,rfl⟩|⟨q1,rfl⟩<;>rcases hm with⟨rfl,rfl⟩|⟨q2,rfl⟩<;>rcases hh with⟨rfl,rfl,hx⟩|⟨q3,rfl⟩<;>
  first
  |(cases hx;done)
  |simp[Instr.sliceBounds,Instr.sliceBound,asIntOf,h1,h2,h3]
theorem KC (hF:Fr ρ N e a){d:Nat}{o:Option Operand}{n:Int}(h:bnd d (evo e o)=some n):(o.map a.eval=none/\n=(d:Int))\/ ∃q,o.map a.eval=some (.int q n):=by
 cases o with
 |none=>cases h;exact .inl ⟨rfl,rfl⟩
 |some x=>
  right
  have hx:=Fv hF x
  simp only[evo]at h
  generalize ev e x=r at h hx
  unfold bnd at h
  split at h
  ·rename_i h0;cases h0
  ·rename_i h0
   cases h;cases h0
   cases hx with|a hx=>cases hx with|c hx=>cases hx with|p hx=>exact⟨_,congrArg some hx⟩
  ·rename_i h0
   cases h;cases h0
   cases hx with|a hx=>cases hx with|c hx=>cases hx with|p hx=>exact⟨_,congrArg some hx⟩
  ·cases h
theorem aae (H:HR P ρ h O w)(hF:Fr ρ N e a){o:Oper}{r:Ox}(hr:rop T o.op=some r){k:RV->Ids->Prop}(hk:jl I0 P r e h k):FlS P ρ O w k (execOp a.eval o):=by
 obtain⟨dst,op,type,pos,after,guard⟩:=o
 have nS: ∀{r:RV}{x:Value}{s:Sem Next},k r []->GR ρ r x->(∀w,s.run P w= .ok (.value x) w)->FlS P ρ O w k s:=fun hk hr hs=>⟨_,_,[],hk,hr,fun w' _ _=>hs w'⟩
 have ev1: ∀x,GR ρ (ev e x) (a.eval x):=Fv hF
 cases op<;>simp only[rop]at hr<;>(try(cases hr;done))
 case move x=>cases hr;exact nS hk (ev1 x) fun w=>by simp[execOp]
 case assign x=>cases hr;exact nS hk (ev1 x) fun w=>by simp[execOp]
 case pick c x y=>
  cases hr
  simp only[jl]at hk
  have hc:=ev1 c
  split at hk
  ·rename_i h0
   rw[h0]at hc
   have hb:a.eval c= .bool true:=by cases hc with|a hc=>cases hc with|c hc=>cases hc with|p hc=>exact hc
   exact nS hk (ev1 x) fun w=>by simp[execOp,hb,asBool]
  ·rename_i h0
   rw[h0]at hc
   have hb:a.eval c= .bool false:=by cases hc with|a hc=>cases hc with|c hc=>cases hc with|p hc=>exact hc
   exact nS hk (ev1 y) fun w=>by simp[execOp,hb,asBool]
  ·rename_i q h0
   rw[h0]at hc
   have hb:a.eval c= .bool q:=by cases hc with|a hc=>cases hc with|c hc=>cases hc with|p hc=>exact hc
   cases q with
   |true=>exact nS (hk.t rfl) (ev1 x) fun w=>by simp[execOp,hb,asBool]
   |false=>exact nS (hk.f rfl) (ev1 y) fun w=>by simp[execOp,hb,asBool]
  ·exact hk.elim
 case nilCheck x=>
  cases hr
  simp only[jl]at hk
  have hx:=ev1 x
  have key: ∀{v:SV},ev e x= .a (.c v)->k (.a (.c v)) []->(∀X,G ρ v X->X≠ .pointer none/\X≠ .nilIface/\X≠ .nilFunc/\ ∀n f c,X≠ .func (.method n) f c)->FlS P ρ O w k (execOp a.eval ⟨dst, .nilCheck x,type,pos,after,guard⟩):=fun{v} h0 hk hn=>by
   rw[h0]at hx
   refine nS hk hx fun w=>?_
   cases hx with|a hx=>cases hx with|c hx=>
    obtain⟨h1,h2,h3,h4⟩:=hn _ hx
    generalize hX:a.eval x=X at h1 h2 h3 h4
    simp only[execOp,hX]
    rfl
  split at hk
  ·rename_i h0;exact key h0 hk fun X hX=>by cases hX;simp
  ·rename_i h0;exact key h0 hk fun X hX=>by cases hX;simp
  ·rename_i h0;exact key h0 hk fun X hX=>by cases hX;simp
  ·rename_i h0;exact key h0 hk fun X hX=>by cases hX with|p hX=>cases hX;simp
  ·rename_i h0;exact key h0 hk fun X hX=>by cases hX;simp
  ·exact hk.elim
 case fieldAddr t x f=>
  obtain⟨d,hd,hr⟩:=aA hr
  have hd:=eX (P:=P) hd
  cases d<;>try(cases hr;done)
  rename_i fs _
  obtain⟨fd,hf,hr⟩:=aA hr
  obtain⟨n,hn,hr⟩:=aA hr
  have h0:n≠0:=fun e=>by subst e;cases hr
  split at hr
  ·cases hr
  cases hr
  rw[aJ]at hf
  have hf':fs[f]?=some fd:=by simpa using hf
  simp only[jl]at hk
  have hx:=ev1 x
  have hn':=fun w=>rU (P:=P) hn w
  refine kF.n (s:=Instr.fieldAt t (a.eval x) f) ?_ rfl
  generalize a.eval x=X at hx
  split at hk
  ·rename_i i j o h1
   rw[h1]at hx
   cases hx with|a hx=>cases hx with|c hx=>cases hx with
    |ptr _ hr=>exact Pu.fl ⟨_,_,hk, .a (.c (.ptr _ hr)),fun w=>by simp[Instr.fieldAt,run_underlying hd,hf',Instr.sureAddr,fieldPlace,hn',h0,Addr.add_lit,Nat.add_assoc]⟩
  ·rename_i i j o h1
   rw[h1]at hx
   cases hx with|a hx=>cases hx with|c hx=>cases hx with
    |pts _ hr=>exact Pu.fl ⟨_,_,hk, .a (.c (.pts _ hr)),fun w=>by simp[Instr.fieldAt,run_underlying hd,hf',Instr.sureAddr,fieldPlace,hn',h0,Addr.add_lit,Nat.add_assoc]⟩
  ·rename_i l h1
   rw[h1]at hx
   cases hx with|a hx=>cases hx with|c hx=>cases hx with
    |fp hb hl=>exact Pu.fl ⟨_,_,hk, .a (.c (.fp hb (nO.mk fun j p hj=>by
      rw[Kr,List.getElem?_drop]at hj
      obtain⟨y,h1,h2⟩:=hl.get hj
      exact⟨y,by rw[Nat.add_assoc];exact h1,h2⟩))),fun w=>by simp[Instr.fieldAt,run_underlying hd,hf',Instr.sureAddr,fieldPlace,hn',h0,Addr.add_lit,Nat.add_assoc]⟩
  ·exact hk.elim
 case field t x f=>
  obtain⟨d,hd,hr⟩:=aA hr
  have hd:=eX (P:=P) hd
  cases d<;>try(cases hr;done)
  rename_i fs _
  obtain⟨fd,hf,hr⟩:=aA hr
  obtain⟨n,hn,hr⟩:=aA hr
  cases hr
  rw[aJ]at hf
  have hf':fs[f]?=some fd:=by simpa using hf
  simp only[jl]at hk
  have hx:=ev1 x
  refine kF.n (s:=Instr.field t (a.eval x) f) ?_ rfl
  split at hk
  ·rename_i l h1
   rw[h1]at hx
   cases hx with|a hx=>
    generalize a.eval x=X at hx
    cases hx with
    |agg hx=>
     obtain⟨r,y,h2,h3,h4⟩:=Y8 (P:=P) hn hx hk
     exact Pu.fl ⟨r,y,h2,h3,fun w=>by simp[Instr.field,run_underlying hd,hf',asAgg,h4]⟩
  ·exact hk.elim
 case load t x=>
  obtain⟨n,hn,hr⟩:=aA hr
  cases hr
  simp only[jl]at hk
  have hx:=ev1 x
  refine kF.n (s:=Instr.loadAt t (a.eval x)) ?_ rfl
  generalize a.eval x=X at hx
  split at hk
  ·rename_i i j o h1
   rw[h1]at hx
   cases hx with|a hx=>cases hx with|c hx=>cases hx with
    |ptr _ hr=>
     obtain⟨ob,hob,hk⟩:=jQ hk
     split at hk
     ·obtain⟨cs,ty,hh,hO,hc⟩:=rowAt H hob (.inl rfl) hr
      obtain⟨r,y,h2,h3,h4⟩:=BH (P:=P) hn hh hc hk
      exact⟨r,y,_,h2,h3,fun w' hs _=>by simp[Instr.loadAt,Instr.sureAddr,h4 w' ⟨_,_,by rw[hs _ (List.mem_singleton.2 rfl) _ hO];exact hh⟩]⟩
     ·obtain⟨cs,ty,hh,hO,hc⟩:=rowAt H hob (.inr ⟨_,rfl,rfl⟩) hr
      obtain⟨r,y,h2,h3,h4⟩:=BI (P:=P) hn hh hc hk
      exact⟨r,y,_,h2,h3,fun w' hs _=>by simp[Instr.loadAt,Instr.sureAddr,h4 w' ⟨_,_,by rw[hs _ (List.mem_singleton.2 rfl) _ hO];exact hh⟩]⟩
     ·exact hk.elim
  ·rename_i i j o h1
   rw[h1]at hx
   cases hx with|a hx=>cases hx with|c hx=>cases hx with
    |pts _ hr=>
     obtain⟨ob,hob,hk⟩:=jQ hk
     split at hk
     ·obtain⟨cs,ty,hh,hO,hc⟩:=rowAt H hob (.inr ⟨_,rfl,rfl⟩) hr
      obtain⟨r,y,h2,h3,h4⟩:=BI (P:=P) hn hh hc hk
      exact⟨r,y,_,h2,h3,fun w' hs _=>by simp[Instr.loadAt,Instr.sureAddr,h4 w' ⟨_,_,by rw[hs _ (List.mem_singleton.2 rfl) _ hO];exact hh⟩]⟩
     ·exact hk.elim
  ·rename_i l h1
   rw[h1]at hx
   cases hx with|a hx=>cases hx with|c hx=>cases hx with
    |fp hb hl=>
     obtain⟨⟨ty,fr,hh⟩,_⟩:=H.fz _ _ hb
     obtain⟨r,y,h2,h3,h4⟩:=BH (P:=P) (w:=w) (base:=_) hn hh (cells:=YX l) (fun j v hv=>by
      rw[Qd,List.getElem?_map]at hv
      cases hp:l[j]? with
      |none=>rw[hp]at hv;cases hv
      |some p=>
       rw[hp]at hv;cases hv
       obtain⟨y,h1,h2⟩:=hl.get hp
       exact⟨y, .p h2,h1⟩) hk
     exact⟨r,y,[],h2,h3,fun w' _ hf=>by
      have:=h4 w' (hf _ _ hb)
      rw[Nat.add_zero]at this
      simp[Instr.loadAt,Instr.sureAddr,this]⟩
  ·exact hk.elim
 case binOp op t x y yt=>
  have hx:=ev1 x
  have hy:=ev1 y
  obtain⟨d,hd,hr⟩:=aA hr
  have hd:=eX (P:=P) hd
  refine kF.n (s:=do eqGuard op t x y (a.eval x) (a.eval y);binOp op t (a.eval x) (a.eval y)) ?_ (by simp[execOp])
  split at hr
  ·cases hr
   exact Pu.fl (ahA hx hy hk)
  ·cases hr
   simp only[jl]at hk
   split at hk
   ·rename_i h1 h2
    rw[h1]at hx
    rw[h2]at hy
    cases hx with|a hx=>cases hx with|c hx=>cases hx with|p hx=>cases hy with|a hy=>cases hy with|c hy=>cases hy with|p hy=>
     rw[show a.eval x=_ from hx,show a.eval y=_ from hy]
     exact Pu.fl (adw hk)
   ·exact hk.elim
  ·obtain⟨b,hb,hr⟩:=aA hr
   cases hr
   simp only[jl]at hk
   split at hk
   ·rename_i p q h1 h2
    rw[h1]at hx
    rw[h2]at hy
    cases hx with|a hx=>cases hx with|c hx=>cases hx with|p hx=>cases hy with|a hy=>cases hy with|c hy=>cases hy with|p hy=>
     split at hk
     ·rename_i u v e1 e2
      have b1: ∀{p:PV}{u:Bool}{X:Value},Kz p=some u->GP ρ.fz p X->X= .bool u:=fun h hX=>by unfold Kz at h;split at h<;>cases h<;>exact hX
      rw[b1 e1 hx,b1 e2 hy]
      have he: ∀w,(Op.equal t (.bool u) (.bool v)).run P w= .ok (u==v) w:=fun w=>by
       have: ∀n,(Op.equalIn (n+1) t (.bool u) (.bool v)).run P w= .ok (u==v) w:=fun n=>by simp[Op.equalIn,run_underlying hd]
       exact this 9999
      exact ac8 hb (by simp) (by simp) (fun w=>by simp[binOp,he]) (fun w=>by simp[binOp,he]) hk
     ·split at hk
      ·rename_i u v e1 e2
       have b1: ∀{p:PV}{u:Bool}{X:Value},O5 p=some u->GP ρ.fz p X->X= .bool u:=fun h hX=>by unfold O5 at h;split at h<;>cases h<;>exact hX
       rw[b1 e1 hx,b1 e2 hy]
       have he: ∀w,(Op.equal t (.bool u) (.bool v)).run P w= .ok (u==v) w:=fun w=>by
        have: ∀n,(Op.equalIn (n+1) t (.bool u) (.bool v)).run P w= .ok (u==v) w:=fun n=>by simp[Op.equalIn,run_underlying hd]
        exact this 9999
       exact agj hb (by simp) (by simp) (fun w=>by simp[binOp,he]) (fun w=>by simp[binOp,he]) hk
      ·exact hk.elim
   ·exact hk.elim
  all_goals first
   |(obtain⟨b,hb,hr⟩:=aA hr
     cases hr
     simp only[jl]at hk
     split at hk
     ·rename_i p q h1 h2
      rw[h1]at hx
      rw[h2]at hy
      cases hx with|a hx=>cases hx with|c hx=>cases hy with|a hy=>cases hy with|c hy=>
       obtain⟨r,hk,he,s,hs⟩:=adS hd (by first|exact⟨_,rfl⟩|exact⟨_,_,rfl⟩|exact⟨_,_,_,rfl⟩) hk hx hy
       have hb1:=fun w=>adR hs he w
       exact ac8 hb (hb1 w).1 (hb1 w).2.1 (fun w=>(hb1 w).2.2.1) (fun w=>(hb1 w).2.2.2) hk
     ·exact hk.elim
     done)
   |skip
  ·obtain⟨b,hb,hr⟩:=aA hr
   obtain⟨l,hl,hr⟩:=aA hr
   cases hr
   simp only[jl]at hk
   split at hk
   ·rename_i p q h1 h2
    rw[h1]at hx
    rw[h2]at hy
    have h12:(P.stoodInHeld t||P.eqGuardType P.depth t)=false:=by simpa[I0]using hk.h.1
    obtain⟨bs,hbs,hk⟩:=ah hk.h.2
    cases hx with|a hx=>cases hy with|a hy=>
     generalize a.eval x=X at hx
     generalize a.eval y=Y at hy
     cases hx with|agg hx=>cases hy with|agg hy=>
      exact ahB hd hl h12 hb hx hy hbs hk
   ·exact hk.elim
  ·cases hr
 case unOp op t x=>
  have hx:=ev1 x
  cases op<;>simp only at hr<;>(try(cases hr;done))
  ·cases hr
   simp only[jl]at hk
   refine kF.n (s:=Op.unary .neg (a.eval x)) ?_ rfl
   split at hk
   ·rename_i h1
    rw[h1]at hx
    cases hx with|a hx=>cases hx with|c hx=>cases hx with|p hx=>
     rw[show a.eval x=_ from hx]
     exact Pu.fl (eH hk fun w=>by simp only[Op.unary,Op.intArith,sJ,Sem.run_pure,Int.zero_sub];try rfl)
   ·rename_i h1
    rw[h1]at hx
    cases hx with|a hx=>cases hx with|c hx=>cases hx with|p hx=>
     rw[show a.eval x=_ from hx]
     exact Pu.fl (yg hk fun w=>by simp only[Op.unary,Op.intArith,Sem.run_pure,Int.zero_sub];try rfl)
   ·exact hk.elim
  ·cases hr
   simp only[jl]at hk
   refine kF.n (s:=Op.unary .not (a.eval x)) ?_ rfl
   split at hk
   ·rename_i h1
    rw[h1]at hx
    cases hx with|a hx=>cases hx with|c hx=>cases hx with|p hx=>
     rw[show a.eval x=_ from hx]
     exact⟨_,_,[],hk, .a (.c (.p rfl)),fun w _ _=>by simp[Op.unary]⟩
   ·rename_i h1
    rw[h1]at hx
    cases hx with|a hx=>cases hx with|c hx=>cases hx with|p hx=>
     rw[show a.eval x=_ from hx]
     exact⟨_,_,[],hk, .a (.c (.p rfl)),fun w _ _=>by simp[Op.unary]⟩
   ·rename_i h1
    rw[h1]at hx
    cases hx with|a hx=>cases hx with|c hx=>cases hx with|p hx=>
     rw[show a.eval x=_ from hx]
     exact⟨_,_,[],hk, .a (.c (.p rfl)),fun w _ _=>by simp[Op.unary]⟩
   ·exact hk.elim
 case convert s d x=>
  obtain⟨ds,hds,hr⟩:=aA hr
  obtain⟨dd,hdd,hr⟩:=aA hr
  have hds:=eX (P:=P) hds
  have hdd:=eX (P:=P) hdd
  have hx:=ev1 x
  refine kF.n (s:=convert s d (a.eval x)) ?_ rfl
  generalize a.eval x=X at hx
  split at hr
  ·cases hr
   simp only[jl]at hk
   split at hk
   ·rename_i h1
    rw[h1]at hx
    cases hx with|a hx=>cases hx with|c hx=>cases hx with|p hx=>
     cases hx
     exact Pu.fl (eH hk fun w=>by simp[convert,run_underlying hds,run_underlying hdd,Conv.intToInt,sJ])
   ·rename_i h1
    rw[h1]at hx
    cases hx with|a hx=>cases hx with|c hx=>cases hx with|p hx=>
     cases hx
     exact Pu.fl (yg hk fun w=>by simp[convert,run_underlying hds,run_underlying hdd,Conv.intToInt])
   ·exact hk.elim
  ·cases hr
   simp only[jl]at hk
   split at hk
   ·rename_i h1
    rw[h1]at hx
    cases hx with|a hx=>cases hx with|c hx=>cases hx with|p hx=>
     cases hx
     exact⟨_,_,[],hk, .a (.c (.p rfl)),fun w _ _=>by simp[convert,run_underlying hds,run_underlying hdd]⟩
   ·exact hk.elim
  ·cases hr
 case extract x i=>
  cases hr
  simp only[jl]at hk
  have hx:=ev1 x
  split at hk
  ·rename_i l h1
   rw[h1]at hx
   obtain⟨v,hv,hk⟩:=ah hk
   rw[aJ]at hv
   generalize hX:a.eval x=X at hx
   cases hx with
   |aK hx=>
    obtain⟨y,h1,h2⟩:=fO hx hv
    exact nS hk (.a h2) fun w=>by simp[execOp,hX,Instr.extract,h1]
  ·exact hk.elim
 case indexAddr t x i=>
  obtain⟨d,hd,hr⟩:=aA hr
  have hd:=eX (P:=P) hd
  have hx:=ev1 x
  have hi:=ev1 i
  refine kF.n (s:=Instr.indexAt t (a.eval x) (a.eval i)) ?_ rfl
  generalize a.eval x=X at hx
  generalize a.eval i=I at hi
  have fz1: ∀{el:TypeId}{sz n:Nat}{l c:List PV}{q:IntKind}{m:Int}{k':Unit->Prop},P.underlying t=some (.slice el)->zV T el=some sz->X.cells=X.cells->GP ρ.fz (.fz n l) X->I= .int q m->(if 0<=m then zK l (m.toNat*sz) sz else none)=some c->(decide (0<sz)&&decide (m.toNat<n))=true->
   (k' ()->k (.a (.c (.fp c))) [])->k' ()->kF P ρ O w k (Instr.indexAt t X I):=fun{el sz n l c q m k'} hd hn _ hX hI hc h0 hkk hk'=>by
   subst hI
   simp only[Bool.and_eq_true,decide_eq_true_eq]at h0
   split at hc
   ·rename_i hm
    obtain⟨hl,rfl⟩:=FD hc
    obtain⟨m,rfl⟩:=Int.eq_ofNat_of_zero_le hm
    simp only[Int.toNat_natCast]at hl h0⊢
    obtain⟨ad,cap,rfl,h1,h2,h3⟩:=hX
    rcases h3 with⟨_,rfl⟩|⟨b,o,cs,rfl,hb,hg⟩
    ·simp at hl;omega
    ·refine⟨_,_,[],hkk hk', .a (.c (.fp (o:=o+m*sz) hb (nO.mk fun j p hj=>?_))),fun w _ _=>?_⟩
     ·rw[List.getElem?_take]at hj
      split at hj
      ·rw[List.getElem?_drop]at hj
       obtain⟨y,h1,h2⟩:=hg.get hj
       exact⟨y,by rw[Nat.add_assoc];exact h1,h2⟩
      ·cases hj
     ·simp[Instr.indexAt,asIntOf,run_underlying hd,rU (P:=P) hn,h0.2,Addr.add_lit]
   ·cases hc
  split at hr
  ·obtain⟨n,hn,hr⟩:=aA hr
   cases hr
   simp only[jl]at hk
   split at hk
   ·rename_i h1 h2
    rw[h1]at hx;rw[h2]at hi
    cases hx with|a hx=>cases hx with|c hx=>cases hx with|p hx=>cases hi with|a hi=>cases hi with|c hi=>cases hi with|p hi=>
     obtain⟨⟨c,hc,⟨h0,hk⟩⟩⟩:=hk
     exact fz1 (k':=fun _=>k (.a (.c (.fp c))) []) hd hn rfl hx hi hc h0 id hk
   ·rename_i h1 h2
    rw[h1]at hx;rw[h2]at hi
    cases hx with|a hx=>cases hx with|c hx=>cases hx with|p hx=>cases hi with|a hi=>cases hi with|c hi=>cases hi with|p hi=>
     obtain⟨⟨c,hc,⟨h0,hk⟩⟩⟩:=hk
     exact fz1 (k':=fun _=>k (.a (.c (.fp c))) []) hd hn rfl hx hi hc h0 id hk
   ·rename_i m h1 h2
    rw[h1]at hx;rw[h2]at hi
    obtain⟨h0,hk⟩:=hk
    simp only[Bool.and_eq_true,decide_eq_true_eq]at h0
    cases hx with|a hx=>cases hx with|c hx=>cases hi with|a hi=>cases hi with|c hi=>cases hi with|p hi=>
     cases hi
     obtain⟨m,rfl⟩:=Int.eq_ofNat_of_zero_le h0.1
     have hlt:=Int.ofNat_lt.1 h0.2
     cases hx with
     |sl _ _ _ hr h1 h2 h3=>exact Pu.fl ⟨_,_,hk, .a (.c (.pts _ hr)),fun w=>by simp[Instr.indexAt,asIntOf,run_underlying hd,rU (P:=P) hn,hlt,Addr.add_lit,Nat.add_assoc]⟩
     |eG _ h0=>exact absurd hlt (by omega)
   ·rename_i q m h1 h2
    rw[h1]at hx;rw[h2]at hi
    obtain⟨m',hm,⟨h0,hk⟩⟩:=ah hk
    have hlt:m'<_:=of_decide_eq_true h0
    obtain⟨q',rfl⟩:=U7 hm hi
    cases hx with|a hx=>cases hx with|c hx=>
     cases hx with
     |sl _ _ _ hr h1 h2 h3=>exact Pu.fl ⟨_,_,hk, .a (.c (.ptr _ hr)),fun w=>by simp[Instr.indexAt,asIntOf,run_underlying hd,rU (P:=P) hn,hlt,Addr.add_lit,Nat.add_assoc]⟩
     |eG _ h0=>exact absurd hlt (by omega)
   ·exact hk.elim
  ·obtain⟨n,hn,hr⟩:=aA hr
   cases hr
   simp only[jl]at hk
   split at hk
   ·rename_i h1
    rw[h1]at hx
    obtain⟨m,hm,hk⟩:=ah hk
    obtain⟨q',rfl⟩:=U7 hm hi
    split at hk
    ·rename_i hl
     have hl:=afk hl
     cases hx with|a hx=>cases hx with|c hx=>cases hx with
      |ptr _ hr=>exact Pu.fl ⟨_,_,hk, .a (.c (.ptr _ hr)),fun w=>by simp[Instr.indexAt,asIntOf,run_underlying hd,rU (P:=P) hn,hl,Instr.sureAddr,Addr.add_lit,Nat.add_assoc]⟩
    ·exact hk.elim
   ·exact hk.elim
  ·cases hr
 case index t x i=>
  obtain⟨d,hd,hr⟩:=aA hr
  have hd:=eX (P:=P) hd
  have hx:=ev1 x
  have hi:=ev1 i
  refine kF.n (s:=Instr.index t (a.eval x) (a.eval i)) ?_ rfl
  generalize a.eval x=X at hx
  generalize a.eval i=I at hi
  split at hr
  ·cases hr
   simp only[jl]at hk
   have core: ∀{s:ByteArray}{q:IntKind}{m:Int}{c:UInt8},(if 0<=m then s[m.toNat]? else none)=some c->k (.a (.c (.p (.int .u8 (c.toNat:Int))))) []->kF P ρ O w k (Instr.index t (.string s) (.int q m)):=fun{s q m c} hc hk=>by
    split at hc
    ·rename_i hm
     obtain⟨m,rfl⟩:=Int.eq_ofNat_of_zero_le hm
     rw[Int.toNat_natCast]at hc
     refine⟨_,_,[],hk, .a (.c (.p rfl)),fun w _ _=>?_⟩
     simp only[Instr.index,asIntOf,run_underlying hd,Sem.run_bind,Sem.run_pure,Result.andThen_ok]
     simp[hc]
    ·cases hc
   split at hk
   ·rename_i h1 h2
    rw[h1]at hx;rw[h2]at hi
    cases hx with|a hx=>cases hx with|c hx=>cases hx with|p hx=>cases hi with|a hi=>cases hi with|c hi=>cases hi with|p hi=>
     cases hx;cases hi
     obtain⟨⟨c,hc,hk⟩⟩:=hk
     exact core hc hk
   ·rename_i h1 h2
    rw[h1]at hx;rw[h2]at hi
    cases hx with|a hx=>cases hx with|c hx=>cases hx with|p hx=>cases hi with|a hi=>cases hi with|c hi=>cases hi with|p hi=>
     cases hx;cases hi
     obtain⟨⟨c,hc,hk⟩⟩:=hk
     exact core hc hk
   ·exact hk.elim
  ·cases hr
 case build t ps=>
  obtain⟨d,hd,hr⟩:=aA hr
  have hd:=eX (P:=P) hd
  split at hr
  ·obtain⟨pl,hpl,hr⟩:=aA hr
   obtain⟨l,hl,hr⟩:=aA hr
   obtain⟨z,hz,hr⟩:=aA hr
   cases hr
   simp only[jl]at hk
   obtain⟨c,hc,hk⟩:=ah hk
   exact(Pu.fl (agG (k:=fun r=>k r []) hF hd hpl hl hz hc hk)).n rfl
  ·cases hr
 case slice t x lo hi mx=>
  cases mx with
  |some=>cases hr
  |none=>
   obtain⟨d,hd,hr⟩:=aA hr
   have hd:=eX (P:=P) hd
   split at hr
   ·rename_i el
    obtain⟨n,hn,hr⟩:=aA hr
    cases hr
    simp only[jl]at hk
    have hx:=ev1 x
    refine kF.n (s:=Instr.sliceAt t (a.eval x) (lo.map a.eval) (hi.map a.eval) none) ?_ rfl
    generalize a.eval x=X at hx
    split at hk
    ·rename_i m l h1
     rw[h1]at hx
     cases hx with|a hx=>cases hx with|c hx=>cases hx with|p hx=>
      obtain⟨u,hu,hk⟩:=ah hk
      obtain⟨v,hv,⟨h0,hk⟩⟩:=ah hk
      simp only[Bool.and_eq_true,decide_eq_true_eq]at h0
      obtain⟨⟨h1,h2⟩,h3⟩:=h0
      have bu:=KC hF hu
      have bv:=KC hF hv
      obtain⟨u,rfl⟩:=Int.eq_ofNat_of_zero_le h1
      obtain⟨v,rfl⟩:=Int.eq_ofNat_of_zero_le (Int.le_trans h1 h2)
      have h2:u<=v:=by omega
      have h3:v<=m:=by omega
      simp only[Int.toNat_natCast]at hk
      obtain⟨ad,cap,rfl,c1,c2,c3⟩:=hx
      have hb: ∀w,(Instr.sliceBounds true m cap (lo.map a.eval) (hi.map a.eval) none).run P w= .ok (u,v,cap) w:=fun w=>lW (by
       rcases bu with⟨b1,b2⟩|b1
       ·exact .inl ⟨b1,by omega⟩
       ·exact .inr b1) (by
       rcases bv with⟨b1,b2⟩|b1
       ·exact .inl ⟨b1,by omega,rfl⟩
       ·exact .inr b1) (.inl ⟨rfl,rfl⟩) h2 (by omega) (Nat.le_refl _)
      have run: ∀w,(Instr.sliceAt t (.slice ad m cap) (lo.map a.eval) (hi.map a.eval) none).run P w= .ok (.slice (if cap=u then ad else ad.map fun q=>q.add (u*n)) (v-u) (cap-u)) w:=fun w=>by
       simp only[Instr.sliceAt,Sem.run_bind,run_underlying hd,Result.andThen_ok,Instr.slice,hb,rU (P:=P) hn,Sem.run_pure]
      refine⟨_,_,[],hk, .a (.c (.p ⟨_,_,rfl,by show v-u<=cap-u;omega,by omega,?_⟩)),fun w _ _=>run w⟩
      by_cases hvu:v=u
      ·left
       exact⟨by show v-u=0;omega,by subst hvu;simp⟩
      ·rcases c3 with⟨e1,e2⟩|⟨b,o,cs,rfl,hb',hg⟩
       ·omega
       ·right
        rw[if_neg (by omega)]
        refine⟨b,o+u*n,cs,by simp[Addr.add_lit],hb',nO.mk fun j p hj=>?_⟩
        rw[List.getElem?_take]at hj
        split at hj
        ·rw[List.getElem?_drop]at hj
         obtain⟨y,h1,h2⟩:=hg.get hj
         exact⟨y,by rw[Nat.add_assoc];exact h1,h2⟩
        ·cases hj
    ·exact hk.elim
   ·cases hr
    simp only[jl]at hk
    have hx:=ev1 x
    refine kF.n (s:=Instr.sliceAt t (a.eval x) (lo.map a.eval) (hi.map a.eval) none) ?_ rfl
    generalize a.eval x=X at hx
    split at hk
    ·rename_i s h1
     rw[h1]at hx
     cases hx with|a hx=>cases hx with|c hx=>cases hx with|p hx=>
      cases hx
      obtain⟨u,hu,hk⟩:=ah hk
      have bu:=KC hF hu
      have fin: ∀v:Int,(v=s.size/\hi=none\/ ∃q,hi.map a.eval=some (.int q v))->0<=u->u<=v->v<=s.size->k (.a (.c (.p (.str (s.extract u.toNat v.toNat))))) []->kF P ρ O w k (Instr.sliceAt t (.string s) (lo.map a.eval) (hi.map a.eval) none):=fun v bv h1 h2 h3 hk=>by
       obtain⟨u,rfl⟩:=Int.eq_ofNat_of_zero_le h1
       obtain⟨v,rfl⟩:=Int.eq_ofNat_of_zero_le (Int.le_trans h1 h2)
       have h2:u<=v:=by omega
       have h3:v<=s.size:=by omega
       have hb: ∀w,(Instr.sliceBounds false s.size s.size (lo.map a.eval) (hi.map a.eval) none).run P w= .ok (u,v,s.size) w:=fun w=>lW (by
        rcases bu with⟨b1,b2⟩|b1
        ·exact .inl ⟨b1,by omega⟩
        ·exact .inr b1) (by
        rcases bv with⟨b1,b2⟩|b1
        ·subst b2;exact .inl ⟨rfl,by omega,rfl⟩
        ·exact .inr b1) (.inl ⟨rfl,rfl⟩) h2 (by omega) (Nat.le_refl _)
       exact⟨_,_,[],hk, .a (.c (.p rfl)),fun w' _ _=>by
        simp only[Instr.sliceAt,Sem.run_bind,run_underlying hd,Result.andThen_ok,Instr.slice,Option.isSome_none,if_false,Bool.false_eq_true,hb,Sem.run_pure,Int.toNat_natCast]⟩
      cases hi with
      |none=>
       have h0:(decide (0<=u)&&decide (u<=s.size))=true:=hk.h.1
       simp only[Bool.and_eq_true,decide_eq_true_eq]at h0
       refine fin s.size (.inl ⟨rfl,rfl⟩) h0.1 h0.2 (Int.le_refl _) ?_
       have:=hk.h.2
       simpa[I0]using this
      |some y=>
       obtain⟨v,hv,hk⟩:=ah hk
       have bv:=KC (o:=some y) hF hv
       have h0:(decide (0<=u)&&decide (u<=v)&&decide (v<=s.size))=true:=hk.h.1
       simp only[Bool.and_eq_true,decide_eq_true_eq]at h0
       obtain⟨⟨h1,h2⟩,h3⟩:=h0
       refine fin v (.inr ?_) h1 h2 h3 hk.h.2
       rcases bv with⟨b1,b2⟩|b1
       ·simp at b1
       ·exact b1
    ·exact hk.elim
   ·cases hr
 case call c=>
  obtain⟨callee,args,argTypes⟩:=c
  simp only at hr
  split at hr
  ·obtain⟨d,hd,hr⟩:=aA hr
   split at hr
   ·obtain⟨dk,hdk,hr⟩:=aA hr
    obtain⟨kd,hkd,hr⟩:=aA hr
    cases hr
    exact hk.elim
   ·cases hr
  ·rename_i x y e1
   have e1:args= #[x,y]:=by apply Array.ext';simpa using e1
   subst e1
   cases hr
   exact kF.n (Zr (ev1 x) (ev1 y) hk argTypes type) (by simp[execOp,resolve,invoke,builtin])
  ·rename_i x y e1
   have e1:args= #[x,y]:=by apply Array.ext';simpa using e1
   subst e1
   cases hr
   exact kF.n (Zr (ev1 x) (ev1 y) hk argTypes type) (by simp[execOp,resolve,invoke,builtin])
  ·rename_i x t e1 e2
   obtain⟨d,hd,hr⟩:=aA hr
   have hd:=eX (P:=P) hd
   have e1:args= #[x]:=by apply Array.ext';simpa using e1
   have e2:argTypes= #[t]:=by apply Array.ext';simpa using e2
   subst e1 e2
   have hx:=ev1 x
   refine kF.n (s:=Builtin.len_ #[t] type #[a.eval x]) ?_ (by simp[execOp,resolve,invoke,builtin])
   generalize a.eval x=X at hx
   split at hr
   ·cases hr
    simp only[jl]at hk
    split at hk
    ·rename_i h1
     rw[h1]at hx
     cases hx with|a hx=>cases hx with|c hx=>cases hx with|p hx=>cases hx;exact⟨_,_,[],hk, .a (.c (.p rfl)),fun w _ _=>by simp[Builtin.len_,run_underlying hd,goInt]⟩
    ·rename_i h1
     rw[h1]at hx
     cases hx with|a hx=>cases hx with|c hx=>cases hx with|p hx=>obtain⟨ad,cap,rfl,_⟩:=hx;exact⟨_,_,[],hk, .a (.c (.p rfl)),fun w _ _=>by simp[Builtin.len_,run_underlying hd,goInt]⟩
    ·rename_i h1
     rw[h1]at hx
     cases hx with|a hx=>cases hx with|c hx=>cases hx with
      |sl=>exact⟨_,_,[],hk, .a (.c (.p rfl)),fun w _ _=>by simp[Builtin.len_,run_underlying hd,goInt]⟩
      |eG _ h0=>subst h0;exact⟨_,_,[],hk, .a (.c (.p rfl)),fun w _ _=>by simp[Builtin.len_,run_underlying hd,goInt]⟩
    ·exact hk.elim
   ·cases hr
    simp only[jl]at hk
    split at hk
    ·rename_i h1
     rw[h1]at hx
     cases hx with|a hx=>cases hx with|c hx=>cases hx with|p hx=>cases hx;exact⟨_,_,[],hk, .a (.c (.p rfl)),fun w _ _=>by simp[Builtin.len_,run_underlying hd,goInt]⟩
    ·exact hk.elim
   ·cases hr
    exact adY H hd (by assumption) hk
   ·cases hr
  ·rename_i s x t t2 e1 e2
   obtain⟨d,hd,hr⟩:=aA hr
   obtain⟨d2,hd2,hr⟩:=aA hr
   split at hr
   ·obtain⟨n,hn,hr⟩:=aA hr
    split at hr
    ·split at hr<;>cases hr
     exact hk.elim
    ·cases hr
   ·cases hr
  ·cases hr;exact hk.elim
  ·cases hr;exact hk.elim
  ·cases hr
 case alloc t=>obtain⟨z,hz,hr⟩:=aA hr;cases hr;exact hk.elim
 case box t v=>cases hr;exact hk.elim
 case store t x v=>obtain⟨n,hn,hr⟩:=aA hr;cases hr;exact hk.elim
 case buildSlice t len ps=>
  obtain⟨d,hd,hr⟩:=aA hr
  split at hr
  ·obtain⟨n,hn,hr⟩:=aA hr
   obtain⟨z,hz,hr⟩:=aA hr
   split at hr<;>cases hr
   exact hk.elim
  ·cases hr
 case makeSlice t l c=>
  obtain⟨d,hd,hr⟩:=aA hr
  split at hr
  ·split at hr
   ·obtain⟨n,hn,hr⟩:=aA hr
    obtain⟨z,hz,hr⟩:=aA hr
    split at hr<;>cases hr
    exact hk.elim
   ·cases hr
  ·cases hr
 case makeFunc fn f c=>
  cases fn<;>cases hr
  exact hk.elim
 case lookup t x i ok=>
  obtain⟨d,hd,hr⟩:=aA hr
  split at hr
  ·obtain⟨dk,hdk,hr⟩:=aA hr
   obtain⟨kd,hkd,hr⟩:=aA hr
   obtain⟨z,hz,hr⟩:=aA hr
   cases hr
   exact kF.n (afw H (eX (P:=P) hd) (eX (P:=P) hdk) hkd hz (ev1 x) (ev1 i) hk) rfl
  ·cases hr
 case mapUpdate t m key v=>
  obtain⟨d,hd,hr⟩:=aA hr
  split at hr
  ·obtain⟨dk,hdk,hr⟩:=aA hr
   obtain⟨kd,hkd,hr⟩:=aA hr
   cases hr
   exact hk.elim
  ·cases hr
 case makeMap t r=>cases r<;>cases hr;exact hk.elim
 case makeInterface t x=>
  obtain⟨d,hd,hr⟩:=aA hr
  split at hr
  ·cases hr
  ·rename_i hn
   cases hr
   exact kF.n (afo (eX (P:=P) hd) (fun i e=>hn i e) (ev1 x) hk) rfl
 case typeAssert x s t ok=>
  obtain⟨d,hd,hr⟩:=aA hr
  split at hr
  ·cases hr
  ·rename_i hn
   obtain⟨z,hz,hr⟩:=aA hr
   cases hr
   exact kF.n (aha (eX (P:=P) hd) (fun i e=>hn i e) hz (ev1 x) hk) rfl
 case range t x=>
  obtain⟨d,hd,hr⟩:=aA hr
  split at hr<;>cases hr<;>exact hk.elim
 case next x s=>cases hr;exact hk.elim
 case entry x=>cases hr;exact kF.n (agt H (ev1 x) hk) rfl
end
end Sx
end Go.Proofs.YtakhobfamnjnoaaGreatDoor
