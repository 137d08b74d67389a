/- Symbolic runs: codes, functions. -/
import Derived.Test.YtakhobfamnjnoaaGreatDoorC10
import Derived.Deep.LoopGhost
set_option linter.unusedVariables false
set_option linter.unusedSimpArgs false
namespace Go.Proofs.YtakhobfamnjnoaaGreatDoor
section
namespace Sx
open Go Go.RowKit
section
variable {P:Program} {T:jE} [lN P T] {ρ:Ren} {h:Hp} {O:Own} {w:World} {N:Nat} {e:bK} {a:Act}
theorem Gz (hF:Fr ρ N e a){ops:Array Oper}{o:Oper}{g:Option (Nat×Bool)}(hg:gdO ops.toList o.guard=some g){yes no:bK->Prop}(hk:wants g e yes no):
 (Region.wanted o (yielded ops a.tmps)=true/\ ∃e',yes e'/\Fr ρ N e' a)\/(Region.wanted o (yielded ops a.tmps)=false/\ ∃e',no e'/\Fr ρ N e' a):=by
 cases hgo:o.guard with
 |none=>
  rw[hgo]at hg;cases hg
  exact .inl ⟨by unfold Region.wanted;rw[hgo],e,hk,hF⟩
 |some p=>
  obtain⟨j,want⟩:=p
  rw[hgo]at hg
  obtain⟨oj,hj,hg1⟩:=aA hg
  obtain⟨d,hd,hg2⟩:=aA hg1
  cases hg2
  rw[aJ]at hj
  have hj':ops[j]?=some oj:=by simpa using hj
  have hx:=hF.er d
  have hy:yielded ops a.tmps j=match a.tmps.getD d undef with| .bool b=>some b|_=>none:=by
   unfold yielded;rw[hj'];simp only[Option.bind_some,hd]
   rw[Array.getD_eq_getD_getElem?]
   cases a.tmps[d]? with
   |none=>rfl
   |some x=>cases x<;>rfl
  have hw:Region.wanted o (yielded ops a.tmps)=(yielded ops a.tmps j==some want):=by unfold Region.wanted;rw[hgo]
  rw[hw,hy]
  generalize hX:a.tmps.getD d undef=X at hx
  have tl: ∀{b:Bool},X= .bool b->GR ρ (match b with|true=> .a (.c (.p .tt))|false=> .a (.c (.p .ff))) (a.tmps.getD d undef):=fun{b} hb=>by rw[hX,hb];cases b<;>exact .a (.c (.p rfl))
  cases want with
  |true=>
   simp only[wants]at hk
   split at hk
   ·rename_i h0;rw[h0]at hx
    cases hx with|a hx=>cases hx with|c hx=>cases hx with|p hx=>cases hx;exact .inl ⟨rfl,e,hk,hF⟩
   ·rename_i h0;rw[h0]at hx
    cases hx with|a hx=>cases hx with|c hx=>cases hx with|p hx=>cases hx;exact .inr ⟨rfl,e,hk,hF⟩
   ·rename_i b h0;rw[h0]at hx
    cases hx with|a hx=>cases hx with|c hx=>cases hx with|p hx=>
     cases hx
     cases b with
     |true=>exact .inl ⟨rfl,_,hk.t rfl,hF.tell (tl (b:=true) rfl)⟩
     |false=>exact .inr ⟨rfl,_,hk.f rfl,hF.tell (tl (b:=false) rfl)⟩
   ·rename_i h0;rw[h0]at hx
    cases hx with|aK hx=>exact .inr ⟨rfl,e,hk,hF⟩
   ·exact hk.elim
  |false=>
   simp only[wants]at hk
   split at hk
   ·rename_i h0;rw[h0]at hx
    cases hx with|a hx=>cases hx with|c hx=>cases hx with|p hx=>cases hx;exact .inr ⟨rfl,e,hk,hF⟩
   ·rename_i h0;rw[h0]at hx
    cases hx with|a hx=>cases hx with|c hx=>cases hx with|p hx=>cases hx;exact .inl ⟨rfl,e,hk,hF⟩
   ·rename_i b h0;rw[h0]at hx
    cases hx with|a hx=>cases hx with|c hx=>cases hx with|p hx=>
     cases hx
     cases b with
     |true=>exact .inr ⟨rfl,_,hk.t rfl,hF.tell (tl (b:=true) rfl)⟩
     |false=>exact .inl ⟨rfl,_,hk.f rfl,hF.tell (tl (b:=false) rfl)⟩
   ·rename_i h0;rw[h0]at hx
    cases hx with|aK hx=>exact .inr ⟨rfl,e,hk,hF⟩
   ·exact hk.elim
theorem Lp {all:List Oper}{o:Oper}{r:RO}(h:aa7 T N all o=some r):rop T o.op=some r.o/\gdO all o.guard=some r.g/\r.d=o.dst/\ ∀i,r.d=some i->i<N:=by
 obtain⟨ro,h1,h2⟩:=aA h
 obtain⟨g,h3,h4⟩:=aA h2
 split at h4
 ·rename_i hd
  cases h4
  exact⟨h1,h3,hd.symm,fun _ e=>by cases e⟩
 ·rename_i d hd
  split at h4
  ·rename_i hl
   cases h4
   exact⟨h1,h3,hd.symm,fun i e=>by cases e;exact aT hl⟩
  ·cases h4
theorem P5 {ops:Array Oper}{Q:Exit->Act->World->Prop}{k:bK->Hp->Prop}: ∀(l:List Oper){m:List RO}{ρ:Ren}{h:Hp}{O:Own}{w:World}{e:bK}{a:Act},G6 T N ops.toList l=some m->YI I0 P m e h k->HR P ρ h O w->Fr ρ N e a->
 (∀e' h' ρ' O' a' w',k e' h'->ρ.le ρ'->Fm ρ.fz O w ρ'.fz O' w'->HR P ρ' h' O' w'->h.length<=h'.length->Fr ρ' N e' a'->Q .normal a' w')->wpList P ops Q l a w
 |[],m,ρ,h,O,w,e,a,hm,hk,H,hF,hQ=>by
  cases hm
  exact hQ e h ρ O a w hk ρ.le_refl (Fm.refl _ _ _) H (Nat.le_refl _) hF
 |o::l,m,ρ,h,O,w,e,a,hm,hk,H,hF,hQ=>by
  obtain⟨r,hr,hm1⟩:=aA hm
  obtain⟨m',hm',hm2⟩:=aA hm1
  cases hm2
  obtain⟨h1,h2,h3,h4⟩:=Lp hr
  simp only[YI]at hk
  unfold wpList
  rcases Gz hF h2 hk with⟨hw,e',hy,hF'⟩|⟨hw,e',hn,hF'⟩
  ·rw[if_pos hw]
   left
   refine aag H hF' h1 hy fun T v x ρ' h' O' w' hk' hle hFm H' hl _ hx=>?_
   rw[<-h3]
   exact P5 l hm' hk' H' ((hF'.mono hle).put h4 hx) fun e'' h'' ρ'' EF a'' w'' q1 q2 q3 q4 q5 q6=>hQ e'' h'' ρ'' EF a'' w'' q1 (hle.le_trans q2) (hFm.trans q3) q4 (Nat.le_trans hl q5) q6
  ·rw[if_neg (by simp[hw])]
   rw[<-h3]
   exact P5 l hm' hn H (hF'.put h4 GR.undef) hQ
theorem MC.mono {n:Nat}{c:Code}{k k':KX}(h1:MC P N n c e h k)(hk: ∀x e h,k x e h->k' x e h):MC P N n c e h k':=fun hn ρ O a w H hF Q hQ=>h1 hn ρ O a w H hF Q fun x e' h' ρ' O' a' w' q=>hQ x e' h' ρ' O' a' w' (hk x e' h' q)
theorem YE {n:Nat}: ∀(c:Code){e:bK}{h:Hp}{k:KX},run I0 P N n (comp T N c) e h k->MC P N n c e h k:=by
 intro c
 induction c with
 |skip=>intro e h k hk hn ρ O a w H hF Q hQ;exact wp_skip (hQ .normal e h ρ O a w hk (Le.refl _ _) (Fm.refl _ _ _) H hn hF)
 |label l=>intro e h k hk hn ρ O a w H hF Q hQ;exact wp_label (hQ .normal e h ρ O a w hk (Le.refl _ _) (Fm.refl _ _ _) H hn hF)
 |exit id=>intro e h k hk hn ρ O a w H hF Q hQ;exact wp_exit (hQ (.exit id) e h ρ O a w hk (Le.refl _ _) (Fm.refl _ _ _) H hn hF)
 |ret=>intro e h k hk hn ρ O a w H hF Q hQ;exact wp_ret (hQ .ret e h ρ O a w hk (Le.refl _ _) (Fm.refl _ _ _) H hn hF)
 |region id ops d=>
  intro e h k hk hn ρ O a w H hF Q hQ
  simp only[comp]at hk
  cases hm:G6 T N ops.toList ops.toList with
  |none=>rw[hm]at hk;exact hk.elim
  |some m=>
   rw[hm]at hk
   cases d with
   |false=>
    refine wp_region_list (P5 ops.toList hm hk H hF fun e' h' ρ' O' a' w' q1 q2 q3 q4 q5 q6=>?_)
    exact hQ .normal e' h' ρ' O' a' w' q1 (q2.to n) q3 q4 (Nat.le_trans hn q5) q6
   |true=>
    have hd:O8 P N n ops m e h fun e h=>k .normal e h:=hk
    refine hd.h T inferInstance hm id hn ρ O a w H hF Q fun x e' h' ρ' O' a' w' q=>?_
    cases x with
    |normal=>exact hQ .normal e' h' ρ' O' a' w' q
    |_=>exact q.elim
 |seq x y ihx ihy=>
  intro e h k hk hn ρ O a w H hF Q hQ
  refine wp_seq (ihx hk hn ρ O a w H hF _ fun z e' h' ρ' O' a' w' q1 q2 q3 q4 q5 q6=>?_)
  cases z with
  |normal=>exact ihy q1 q5 ρ' O' a' w' q4 q6 Q fun z e'' h'' ρ'' EF a'' w'' r1 r2 r3 r4 r5 r6=>hQ z e'' h'' ρ'' EF a'' w'' r1 (q2.trans r2 (Nat.le_refl _)) (q3.trans r3) r4 r5 r6
  |exit i=>exact hQ (.exit i) e' h' ρ' O' a' w' q1 q2 q3 q4 q5 q6
  |ret=>exact hQ .ret e' h' ρ' O' a' w' q1 q2 q3 q4 q5 q6
 |cond c x y ihx ihy=>
  intro e h k hk hn ρ O a w H hF Q hQ
  simp only[comp,run]at hk
  have hc:=Fv hF c
  split at hk
  ·rename_i h0;rw[h0]at hc
   cases hc with|a hc=>cases hc with|c hc=>cases hc with|p hc=>exact wp_cond (t:=true) hc (ihx hk hn ρ O a w H hF Q hQ)
  ·rename_i h0;rw[h0]at hc
   cases hc with|a hc=>cases hc with|c hc=>cases hc with|p hc=>exact wp_cond (t:=false) hc (ihy hk hn ρ O a w H hF Q hQ)
  ·rename_i q h0;rw[h0]at hc
   cases hc with|a hc=>cases hc with|c hc=>cases hc with|p hc=>
    split at hk
    ·rename_i t
     have hc:a.tmps.getD t undef= .bool q:=hc
     cases q with
     |true=>exact wp_cond (t:=true) hc (ihx (hk.t rfl) hn ρ O a w H (hF.tell (by rw[hc];exact .a (.c (.p rfl)))) Q hQ)
     |false=>exact wp_cond (t:=false) hc (ihy (hk.f rfl) hn ρ O a w H (hF.tell (by rw[hc];exact .a (.c (.p rfl)))) Q hQ)
    ·exact hk.elim
  ·exact hk.elim
 |block id c ih=>
  intro e h k hk hn ρ O a w H hF Q hQ
  refine wp_block (ih hk hn ρ O a w H hF _ fun z e' h' ρ' O' a' w' q1 q2 q3 q4 q5 q6=>?_)
  cases z with
  |normal=>exact hQ .normal e' h' ρ' O' a' w' q1 q2 q3 q4 q5 q6
  |exit i=>
   dsimp only at q1
   simp only[Xt.to,Exit.inBlock]
   cases hb:Nat.beq i id with
   |true=>rw[hb]at q1;rw[if_pos (aQ hb)];exact hQ .normal e' h' ρ' O' a' w' q1 q2 q3 q4 q5 q6
   |false=>
    rw[hb]at q1
    rw[if_neg (fun e=>by subst e;simp at hb)]
    exact hQ (.exit i) e' h' ρ' O' a' w' q1 q2 q3 q4 q5 q6
  |ret=>exact hQ .ret e' h' ρ' O' a' w' q1 q2 q3 q4 q5 q6
 |loop c ih=>intro e h k hk;exact hk.h T inferInstance c rfl
 |scope c ih=>
  intro e h k hk hn ρ O a w H hF Q hQ
  refine wp_scope_straight (ih hk hn ρ O a w H hF _ fun z e' h' ρ' O' a' w' q1 q2 q3 q4 q5 q6=>?_)
  cases z with
  |normal=>exact hQ .normal e' h' ρ' O' a' w' q1 q2 q3 q4 q5 q6
  |exit i=>exact hQ (.exit i) e' h' ρ' O' a' w' q1 q2 q3 q4 q5 q6
  |ret=>exact hQ .ret e' h' ρ' O' a' w' q1 q2 q3 q4 q5 q6
 |_=>intro e h k hk;exact hk.elim
def vZ (tmps:Array Value):ResultVar->Sem Value
 | .tmp t=>pure (tmps.getD t undef)
 | .cell c t=>do loadVar t (<-asAddr (tmps.getD c undef))
theorem tu (fn:Func)(tmps:Array Value):results fn tmps=(fn.results.mapM (vZ tmps)>>=fun vs=>pure (if h:vs.size=1 then vs[0]else .tuple vs)):=by
 unfold results
 congr 1
theorem Lj (H:HR P ρ h O w)(hF:Fr ρ N e a): ∀{l:List ResultVar}{k:List AV->Prop},zA I0 e h (rr T l) k-> ∃vs xs,k vs/\F2 (GA ρ) vs xs/\(l.mapM (vZ a.tmps):Sem (List Value)).run P w= .ok xs w
 |[],k,hk=>⟨[],[],hk, .nil,by simp⟩
 | .tmp t::l,k,hk=>by
   simp only[rr,zA]at hk
   have hx:=hF.er t
   split at hk
   ·rename_i v h0
    rw[h0]at hx
    cases hx with|a hx=>
     obtain⟨vs,xs,h1,h2,h3⟩:=Lj H hF hk
     exact⟨_,_,h1, .cons hx h2,by simp only[List.mapM_cons,vZ,Sem.run_bind,Sem.run_pure,Result.andThen_ok,h3]⟩
   ·exact hk.elim
 | .cell c t::l,k,hk=>by
   simp only[rr]at hk
   cases hn:agg T t with
   |none=>rw[hn]at hk;exact hk.elim
   |some n=>
    rw[hn]at hk
    simp only[zA]at hk
    have hx:=hF.er c
    split at hk
    ·rename_i i j o h0
     rw[h0]at hx
     generalize hX:a.tmps.getD c undef=X at hx
     cases hx with|a hx=>cases hx with|c hx=>cases hx with
      |ptr _ hr=>
       obtain⟨ob,hob,hk⟩:=jQ hk
       have fin: ∀{b base:Nat}{r:RV}{x:Value},a.tmps.getD c undef= .pointer (some ⟨b,base+o,none⟩)->(match r with| .a v=>zA I0 e h (rr T l) fun r=>k (v::r)|_=>False)->GR ρ r x->(loadVar t ⟨b,base+o,none⟩).run P w= .ok x w-> ∃vs xs,k vs/\F2 (GA ρ) vs xs/\((ResultVar.cell c t::l).mapM (vZ a.tmps):Sem (List Value)).run P w= .ok xs w:=fun{b base r x} hX hk hx hl=>by
        split at hk
        ·cases hx with|a hx=>
          obtain⟨vs,xs,h1,h2,h3⟩:=Lj H hF hk
          exact⟨_,_,h1, .cons hx h2,by simp only[List.mapM_cons,vZ,Sem.run_bind,hX,asAddr,Sem.run_pure,Result.andThen_ok,hl,h3]⟩
        ·exact hk.elim
       split at hk
       ·obtain⟨cs,ty,hh,_,hc⟩:=rowAt H hob (.inl rfl) hr
        obtain⟨r,y,h2,h3,h4⟩:=BH (P:=P) hn hh hc hk
        exact fin hX h2 h3 (h4 w ⟨_,_,hh⟩)
       ·obtain⟨cs,ty,hh,_,hc⟩:=rowAt H hob (.inr ⟨_,rfl,rfl⟩) hr
        obtain⟨r,y,h2,h3,h4⟩:=BI (P:=P) hn hh hc hk
        exact fin hX h2 h3 (h4 w ⟨_,_,hh⟩)
       ·exact hk.elim
    ·exact hk.elim
theorem wL (H:HR P ρ h O w)(hF:Fr ρ N e a){fn:Func}{k:RV->Prop}(hk:zA I0 e h (rr T fn.results.toList) fun l=>WT k l): ∃r x,k r/\GR ρ r x/\(results fn a.tmps).run P w= .ok x w:=by
 obtain⟨vs,xs,hk,hx,hrun⟩:=Lj H hF hk
 have hrun':(fn.results.mapM (vZ a.tmps):Sem (Array Value)).run P w= .ok xs.toArray w:=by
  rw[Array.mapM_eq_mapM_toList]
  simp[hrun]
 unfold WT at hk
 split at hk
 ·cases hx with
  |cons h1 t1=>cases t1;exact⟨_,_,hk, .a h1,by simp only[tu,Sem.run_bind];rw[hrun'];simp⟩
 ·rename_i hne
  refine⟨_,_,hk, .aK hx,?_⟩
  have: ¬xs.toArray.size=1:=by
   intro e
   simp at e
   have hlen:=dw hx
   cases vs with
   |nil=>simp at hlen;omega
   |cons v vs=>cases vs with
    |nil=>exact hne v rfl
    |cons=>simp at hlen;omega
  simp only[tu,Sem.run_bind]
  rw[hrun']
  simp only[Result.andThen_ok,dif_neg this,Sem.run_pure]
theorem agQ {l:List AV}{xs:List Value}(hx:F2 (GA ρ) l xs)(t:List Value): ∀i,GR ρ (eg (avs l) i) ((xs++t)[i]?.getD undef):=by
 induction hx with
 |nil=>intro i;cases i<;>exact .u _
 |cons a _ ih=>
  intro i
  cases i with
  |zero=>exact .a a
  |succ i=>exact ih i
theorem o9 {bx:{α:Type}->α->α}(hb: ∀{α:Type}(x:α),bx x=x): @bx= @I0:=by
 funext α x
 exact hb x
theorem enter {f:FuncId}{F:Func}(hf:P.funcs[f]?=some F){args:List AV}{k:RV->Hp->Prop}(hk: ∀(bx:{α:Type}->α->α),(∀{α:Type}(x:α),bx x=x)-> ∀Q:Program,Q=P->body bx Q args h k (JX T F)):
 iM P f args h fun T r h'=>T=List.range h.length/\k r h':=by
 have hk:=hk I0 (fun _=>rfl) P rfl
 cases hf':JX T F with
 |none=>rw[hf']at hk;exact hk.elim
 |some F'=>
  rw[hf']at hk
  have h1:=hf
  have h2:=hf'
  obtain⟨c,h3,h4⟩:=aA h2
  split at h4
  ·cases h4
  ·rename_i hn
   cases h4
   refine⟨fun w xs=>?_,fun ρ O w xs H hx=>?_⟩
   ·have hb': ¬F.body=none:=by simp[h3]
    have hn': ¬F.name= "runtime.NumGoroutine":=by simpa using hn
    simp[callFunc,h1,hn',hb']
   ·simp only[body]at hk
    split at hk
    ·rename_i hl
     have hl:args.length<=F.ntmps:=by rw[<-aI];exact aT hl
     rw[aI]at hk
     have hlx:=dw hx
     refine calls_of_wp h1 h3 (YE c hk (Nat.le_refl _) ρ O _ w H ⟨fun i=>?_,by simp;omega,rfl⟩ _ fun x e' h' ρ' O' a' w' q1 q2 q3 q4 q5 q6=>?_)
     ·have:=agQ hx (List.replicate (F.ntmps-xs.length) undef) i
      rw[Array.getD_eq_getD_getElem?]
      have e:(xs.toArray++Array.replicate (F.ntmps-xs.toArray.size) undef)[i]?=(xs++List.replicate (F.ntmps-xs.length) undef)[i]?:=by
       rw[<-List.getElem?_toArray]
       congr 1
       simp
      rw[e];exact this
     ·have fin:zA I0 e' h' (rr T F.results.toList) (fun l=>WT (fun r=>k r h') l)->a'.defers=[]/\ ∃v,(results F a'.tmps).run P w'= .ok v w'/\ ∃T r x ρ' h' O',Ending.returned v= .returned x/\(T=List.range h.length/\k r h')/\ρ.le ρ'/\Fm ρ.fz O w ρ'.fz O' w'/\HR P ρ' h' O' w'/\h.length<=h'.length/\Un T O w O' w'/\GR ρ' r x:=fun hk=>by
       obtain⟨r,x,hk,hr,hrun⟩:=wL q4 q6 hk
       refine⟨q6.kE,x,hrun,List.range h.length,r,x,ρ',h',O',rfl,⟨rfl,hk⟩,⟨fun i j y hy=>?_,q2.fz,fun i=>?_⟩,q3,q4,q5,fun i j q hn hq=>?_,hr⟩
       ·rcases Nat.lt_or_ge i h.length with hi|hi
        ·exact q2.nm i j y hi hy
        ·rw[H.fr i j hi]at hy;cases hy
       ·intro hi1
        rcases Nat.lt_or_ge i h.length with hi|hi
        ·exact q2.on i hi hi1
        ·rw[H.of i hi]at hi1;cases hi1
       ·obtain⟨p,hp⟩:=H.live i j q hq
        exact absurd (List.mem_range.2 (cZ hp)) hn
      cases x with
      |normal=>exact fin q1
      |ret=>exact fin q1
      |exit=>exact q1.elim
    ·exact hk.elim
end
end Sx
end
section
namespace Sx
open Go Go.RowKit
def QY:PV->PV->Prop
 | .bool b, .tt=>b=true
 | .bool b, .ff=>b=false
 | .int k n, .lit q m=>k=q/\n=m
 | .lit k n, .int q m=>k=q/\n=m
 | .fz n l, .bZ=>n=0/\l=[]
 |a,b=>a=b
theorem eP (a:PV):QY a a:=by unfold QY;split<;>first|trivial|rfl|simp_all
theorem Zx {F:Fz}{a b:PV}{v:Value}(h:QY a b)(hg:GP F b v):GP F a v:=by
 unfold QY at h
 split at h
 ·subst h;exact hg
 ·subst h;exact hg
 ·obtain⟨rfl,rfl⟩:=h;exact hg
 ·obtain⟨rfl,rfl⟩:=h;exact hg
 ·obtain⟨rfl,rfl⟩:=h;cases hg;exact⟨none,0,rfl,Nat.le_refl _,by unfold maxLen;omega, .inl ⟨rfl,rfl⟩⟩
 ·subst h;exact hg
abbrev Fs:=Nat->Option (List PV)
section
variable (is:List Pl) (L:Nat) (F:Fs)
def Dj (i k j l:Nat):Prop:=match kR is L i k with
 |(a,b)=>(match Nat.beq a j,Nat.beq b l with|true,true=>True|_,_=>False)
def Vk:SV->SV->Prop
 | .p a, .p b=>QY a b
 | .p (.fz m l), .sl j 0 q n=>(match F j with|some r=>m=n/\l=r.drop q|none=>False)
 | .fp l, .ptr j 0 q=>(match F j with|some r=>l=r.drop q|none=>False)
 | .fp l, .pts j 0 q=>(match F j with|some r=>l=r.drop q|none=>False)
 | .fp l, .fp m=>l=m
 | .ptr i k o, .ptr j l q=>Dj is L i k j l/\o=q
 | .pts i k o, .pts j l q=>Dj is L i k j l/\o=q
 | .pts i k o, .ptr j l q=>Dj is L i k j l/\o=q
 | .ptr i k o, .pts j l q=>Dj is L i k j l/\o=q
 | .sl i 0 0 n, .p .bZ=>aF is i=some .jh/\n=0
 | .sl i k o n, .sl j l q m=>Dj is L i k j l/\o=q/\n=m
 | .mp i k, .mp j l=>Dj is L i k j l
 | .ch i k, .ch j l=>Dj is L i k j l
 | .clo i k, .clo j l=>Dj is L i k j l
 |_,_=>False
def QV:List SV->List SV->Prop
 |[],[]=>True
 |a::l,b::m=>Vk is L F a b/\QV l m
 |_,_=>False
def NR:AV->AV->Prop
 | .c a, .c b=>Vk is L F a b
 | .agg l, .agg m=>QV is L F l m
 |_,_=>False
def zF:List AV->List AV->Prop
 |[],[]=>True
 |a::l,b::m=>NR is L F a b/\zF l m
 |_,_=>False
def Gi:RV->RV->Prop
 | .u,_=>True
 | .a v, .a x=>NR is L F v x
 | .aK l, .aK m=>zF is L F l m
 |_,_=>False
def leK:KV->KV->Prop
 | .one a, .one b=>QY a b
 | .agg l, .agg m=>l=m
 |_,_=>False
def Xe:List ME->List ME->Prop
 |[],[]=>True
 |a::l,b::m=>(leK a.key b.key/\NR is L F a.val b.val/\a.born=b.born)/\Xe l m
 |_,_=>False
structure MsS (l m:Ms):Prop where
 h:Xe is L F l.li m.li
structure AsS (l m:Qs):Prop where
 h:zF is L F l.li m.li
theorem Vl: ∀es:List PE,Xe is L F (es.map PE.me) (es.map PE.me)
 |[]=>trivial
 |e::es=>⟨⟨by cases h:e.key<;>simp only[PE.me,h,leK];exact eP _,by
   cases h:e.val with
   |c p=>simp only[PE.me,h,PA.av,NR,Vk];exact eP _
   |agg l=>
    simp only[PE.me,h,PA.av,NR]
    clear h
    induction l with
    |nil=>trivial
    |cons a l ih=>exact⟨eP _,ih⟩,rfl⟩,Vl es⟩
theorem Vo: ∀es:List PA,zF is L F (es.map PA.av) (es.map PA.av)
 |[]=>trivial
 |e::es=>⟨by
   cases e with
   |c p=>exact eP _
   |agg l=>
    simp only[PA.av,NR]
    induction l with
    |nil=>trivial
    |cons a l ih=>exact⟨eP _,ih⟩,Vo es⟩
theorem ql (es:List PE):MsS is L F (.o es) (.o es):=⟨Vl is L F es⟩
theorem qo (es:List PA):AsS is L F (.o es) (.o es):=⟨Vo is L F es⟩
def QZ:AO->AO->Prop
 | .row l t, .row m u=>t=u/\QV is L F l m
 | .bH l t, .bH m u=>t=u/\l=m
 | .bH l t, .row m u=>t=u/\(match wu m with|some m=>l=m|none=>False)
 | .map l c, .map m d=>c=d/\MsS is L F l m
 | .chan c l s r, .chan d m u v=>c=d/\s=u/\r=v/\AsS is L F l m
 | .clo f l m, .clo g x y=>f=g/\zF is L F l x/\zF is L F m y
 | .fJ i j s l c, .fJ i' j' s' l' c'=>Dj is L i j i' j'/\s=s'/\l=l'/\c=c'
 | .sit s p, .sit s' p'=>s=s'/\p=p'
 |_,_=>False
def abv:Option AO->Option AO->Prop
 |none,none=>True
 |some a,some b=>QZ is L F a b
 |_,_=>False
def NQ:gU->gU->Prop
 | .one a, .one b=>QZ is L F a b
 | .many f, .many g=> ∀k,abv is L F (f k) (g k)
 |_,_=>False
variable (H:Hp)
def XC:Pl->gU->Prop
 | .gone _, .no=>True
 | .jh, .one (.row l _)=>l=[]
 | .jh, .one (.bH l _)=>l=[]
 | .all a,c=>(match aF H a with|some c'=>NQ is L F c c'|none=>False)
 | .pt a b, .one o=>(match bI H a b with|some o'=>QZ is L F o o'|none=>False)
 |_,_=>False
def vY:List Pl->Hp->Prop
 |[],[]=>True
 |p::ps,c::cs=>XC is L F H p c/\vY ps cs
 |_,_=>False
end
def qj:Pl->Pl->Bool
 | .pt a b, .pt c d=>(match Nat.beq a c with|true=>!Nat.beq b d|false=>true)
 | .pt a _, .all c=>!Nat.beq a c
 | .all a, .pt c _=>!Nat.beq a c
 | .all a, .all c=>!Nat.beq a c
 |_,_=>true
def AQ (p:Pl):List Pl->Bool
 |[]=>true
 |q::l=>(match qj p q with|true=>AQ p l|false=>false)
def oU:List Pl->Bool
 |[]=>true
 |p::l=>(match AQ p l with|true=>oU l|false=>false)
def dM:List Pl->Nat->Nat->Option (Nat×Nat)
 |[],_,_=>none
 | .pt c d::ps,a,b=>if c=a/\d=b then some (0,0)else(dM ps a b).map fun q=>(q.1+1,q.2)
 | .all c::ps,a,b=>if c=a then some (0,b)else(dM ps a b).map fun q=>(q.1+1,q.2)
 | .jh::ps,a,b=>(dM ps a b).map fun q=>(q.1+1,q.2)
 | .gone _::ps,a,b=>(dM ps a b).map fun q=>(q.1+1,q.2)
theorem BP {o:Option (Nat×Nat)}{i k:Nat}(h:(o.map fun q=>(q.1+1,q.2))=some (i,k)): ∃j,i=j+1/\o=some (j,k):=by
 cases o with
 |none=>cases h
 |some q=>cases h;exact⟨q.1,rfl,rfl⟩
theorem iR: ∀{is:List Pl}{a b i k:Nat},dM is a b=some (i,k)->(aF is i=some (.pt a b)/\k=0)\/(aF is i=some (.all a)/\k=b)
 |[],_,_,_,_,h=>by cases h
 | .pt c d::ps,a,b,i,k,h=>by
   simp only[dM]at h
   split at h
   ·rename_i e;obtain⟨rfl,rfl⟩:=e;cases h;exact .inl ⟨rfl,rfl⟩
   ·obtain⟨j,rfl,hq⟩:=BP h;exact iR (is:=ps) hq
 | .all c::ps,a,b,i,k,h=>by
   simp only[dM]at h
   split at h
   ·rename_i e;subst e;cases h;exact .inr ⟨rfl,rfl⟩
   ·obtain⟨j,rfl,hq⟩:=BP h;exact iR (is:=ps) hq
 | .jh::ps,a,b,i,k,h=>by obtain⟨j,rfl,hq⟩:=BP h;exact iR (is:=ps) hq
 | .gone _::ps,a,b,i,k,h=>by obtain⟨j,rfl,hq⟩:=BP h;exact iR (is:=ps) hq
theorem nK {p:Pl}: ∀{l:List Pl},AQ p l=true-> ∀{i:Nat}{q:Pl},aF l i=some q->qj p q=true
 |[],_,_,_,h=>by cases h
 |r::l,h,0,q,hq=>by
  cases hq
  unfold AQ at h
  split at h
  ·assumption
  ·cases h
 |r::l,h,i+1,q,hq=>by
  unfold AQ at h
  split at h
  ·exact nK h (i:=i) hq
  ·cases h
theorem rZ {p:Pl}{l:List Pl}(h:oU (p::l)=true):AQ p l=true/\oU l=true:=by
 unfold oU at h
 split at h
 ·exact⟨by assumption,h⟩
 ·cases h
theorem LP: ∀{is:List Pl},oU is=true-> ∀{i a b:Nat},aF is i=some (.pt a b)->dM is a b=some (i,0)
 |[],_,_,_,_,h=>by cases h
 |p::ps,hd,0,a,b,h=>by cases h;simp[dM]
 |p::ps,hd,i+1,a,b,h=>by
  obtain⟨h1,h2⟩:=rZ hd
  have ih:=LP h2 (i:=i) h
  have:=nK h1 (i:=i) h
  cases p with
  |pt c d=>
   simp only[dM]
   rw[if_neg,ih];rfl
   rintro⟨rfl,rfl⟩
   simp[qj]at this
  |all c=>
   simp only[dM]
   rw[if_neg,ih];rfl
   rintro rfl
   simp[qj]at this
  |jh=>simp only[dM];rw[ih];rfl
  |gone c=>simp only[dM];rw[ih];rfl
theorem yw: ∀{is:List Pl},oU is=true-> ∀{i a:Nat},aF is i=some (.all a)-> ∀b,dM is a b=some (i,b)
 |[],_,_,_,h,_=>by cases h
 |p::ps,hd,0,a,h,b=>by cases h;simp[dM]
 |p::ps,hd,i+1,a,h,b=>by
  obtain⟨h1,h2⟩:=rZ hd
  have ih:=yw h2 (i:=i) h b
  have:=nK h1 (i:=i) h
  cases p with
  |pt c d=>
   simp only[dM]
   rw[if_neg,ih];rfl
   rintro⟨rfl,rfl⟩
   simp[qj]at this
  |all c=>
   simp only[dM]
   rw[if_neg,ih];rfl
   rintro rfl
   simp[qj]at this
  |jh=>simp only[dM];rw[ih];rfl
  |gone c=>simp only[dM];rw[ih];rfl
section
variable {is0:List Pl} {L:Nat} {F:Fs} {H:Hp}
theorem mJ: ∀{is:List Pl}{h:Hp},vY is0 L F H is h->is.length=h.length/\ ∀{i:Nat}{c:gU},aF h i=some c-> ∃p,aF is i=some p/\XC is0 L F H p c
 |[],[],_=>⟨rfl,fun h=>by cases h⟩
 |p::ps,c::cs,h=>by
  obtain⟨h1,h2⟩:=mJ h.2
  refine⟨by simp[h1],fun{i d} hd=>?_⟩
  cases i with
  |zero=>cases hd;exact⟨p,rfl,h.1⟩
  |succ i=>exact h2 hd
 |[],_::_,h=>h.elim
 |_::_,[],h=>h.elim
theorem LM {α:Type}{l:List α}{i:Nat}(h:i<l.length): ∃c,aF l i=some c:=⟨l[i],by rw[aJ];exact List.getElem?_eq_getElem h⟩
theorem QT {α:Type}{l:List α}{i:Nat}{c:α}(h:aF l i=some c):i<l.length:=by
 rw[aJ]at h
 exact(List.getElem?_eq_some_iff.1 h).1
theorem Zv {α:Type}{l:List α}{i:Nat}(h:aF l i=none):l.length<=i:=by
 rw[aJ]at h
 exact List.getElem?_eq_none_iff.1 h
end
def eY (ρ:Ren)(is:List Pl):Ren where
 nm i k:=match aF is i with
  |some (.pt a b)=>(match k with|0=>ρ.nm a b|_+1=>none)
  |some (.all a)=>ρ.nm a k
  |some (.gone a)=>ρ.nm a k
  |some .jh=>(match k with|0=>some .eG|_+1=>none)
  |none=>none
 fz:=ρ.fz
 on i:=match aF is i with
  |some (.pt ..)=>true
  |some (.all a)=>ρ.on a
  |some (.gone a)=>ρ.on a
  |some .jh=>true
  |none=>false
def EH (ρ:Ren)(F:Fs):Prop:= ∀j r,F j=some r->ρ.nm j 0=some .eG/\r=[]\/ ∃b base cs,(∃cap,ρ.nm j 0=some (.blk b base cap))/\ρ.fz b=some cs/\nO ρ.fz r cs base
theorem nO.drop {F:Fz}{l:List PV}{cs:Array Value}{o:Nat}(h:nO F l cs o)(n:Nat):nO F (l.drop n) cs (o+n):=nO.mk fun j p hj=>by
 rw[List.getElem?_drop]at hj
 obtain⟨x,h1,h2⟩:=h.get hj
 exact⟨x,by rw[<-h1];congr 1;omega,h2⟩
section
variable {ρ:Ren} {is:List Pl} {L:Nat} {F:Fs}
theorem afj {i k j l:Nat}(h:Dj is L i k j l):kR is L i k=(j,l):=by
 unfold Dj at h
 split at h
 rename_i a b e
 split at h
 ·rename_i h1 h2;rw[e,aQ h1,aQ h2]
 ·exact h.elim
theorem oI (hfr: ∀i k,L<=i->ρ.nm i k=none){i k j l:Nat}{x:RI}(h:Dj is L i k j l)(hx:ρ.nm j l=some x):(eY ρ is).nm i k=some x:=by
 have e:=afj h
 unfold kR at e
 unfold eY
 dsimp only
 have far: ∀{m},(Nat.add L m,k)=(j,l)->False:=fun{m} e=>by
  injection e with e1 e2
  have e1:L+m=j:=e1
  rw[hfr j l (by omega)]at hx;cases hx
 split at e
 ·rename_i hq
  rw[hq]
  cases k with
  |zero=>cases e;exact hx
  |succ k=>exact(far e).elim
 ·rename_i hq;rw[hq];cases e;exact hx
 ·rename_i hq;rw[hq];cases e;exact hx
 ·exact(far e).elim
 ·exact(far e).elim
variable (hfr: ∀i k,L<=i->ρ.nm i k=none) (hF:EH ρ F)
include hfr hF
theorem QW {a b:SV}{x:Value}(h:Vk is L F a b)(hg:G ρ b x):G (eY ρ is) a x:=by
 unfold Vk at h
 split at h
 ·cases hg with|p hg=>exact .p (Zx h hg)
 ·rename_i m l j q n
  split at h
  ·rename_i r hr
   obtain⟨rfl,rfl⟩:=h
   cases hg with
   |sl off len cap h0 h1 h2 h3=>
    rcases hF j r hr with⟨e,_⟩|⟨b,base,cs,⟨cp,e⟩,hb,hl⟩
    ·rw[h0]at e;cases e
    ·rw[h0]at e;cases e
     exact .p ⟨_,cap,rfl,h1,h2, .inr ⟨_,_,cs,rfl,hb,hl.drop q⟩⟩
   |eG h0 h00=>
    rcases hF j r hr with⟨_,rfl⟩|⟨b,base,cs,⟨cp,e⟩,hb,hl⟩
    ·exact .p ⟨none,0,by rw[h00],by omega,by unfold maxLen;omega, .inl ⟨h00,by simp⟩⟩
    ·rw[h0]at e;cases e
  ·exact h.elim
 ·rename_i l j q
  split at h
  ·rename_i r hr
   subst h
   cases hg with
   |ptr off h0=>
    rcases hF j r hr with⟨e,_⟩|⟨b,base,cs,⟨cp,e⟩,hb,hl⟩
    ·rw[h0]at e;cases e
    ·rw[h0]at e;cases e
     exact .fp hb (hl.drop q)
  ·exact h.elim
 ·rename_i l j q
  split at h
  ·rename_i r hr
   subst h
   cases hg with
   |pts off h0=>
    rcases hF j r hr with⟨e,_⟩|⟨b,base,cs,⟨cp,e⟩,hb,hl⟩
    ·rw[h0]at e;cases e
    ·rw[h0]at e;cases e
     exact .fp hb (hl.drop q)
  ·exact h.elim
 ·subst h;cases hg with|fp h1 h2=>exact .fp h1 h2
 ·obtain⟨h,rfl⟩:=h;cases hg with|ptr off h0=>exact .ptr _ (oI hfr h h0)
 ·obtain⟨h,rfl⟩:=h;cases hg with|pts off h0=>exact .pts _ (oI hfr h h0)
 ·obtain⟨h,rfl⟩:=h;cases hg with|ptr off h0=>exact .pts _ (oI hfr h h0)
 ·obtain⟨h,rfl⟩:=h;cases hg with|pts off h0=>exact .ptr _ (oI hfr h h0)
 ·obtain⟨h,h0⟩:=h
  cases hg with|p hg=>
   cases hg
   exact .eG (by simp[eY,h]) h0
 ·obtain⟨h,rfl,rfl⟩:=h
  cases hg with
  |sl off len cap h0 h1 h2 h3=>exact .sl _ _ _ (oI hfr h h0) h1 h2 h3
  |eG h0 h00=>exact .eG (oI hfr h h0) h00
 ·cases hg with|mp h0=>exact .mp (oI hfr h h0)
 ·cases hg with|ch h0=>exact .ch (oI hfr h h0)
 ·cases hg with|clo h0=>exact .clo (oI hfr h h0)
 ·exact h.elim
theorem Vj: ∀{a b:List SV}{x:List Value},QV is L F a b->F2 (G ρ) b x->F2 (G (eY ρ is)) a x
 |[],[],_,_,hg=>by cases hg;exact .nil
 |a::l,b::m,_,h,hg=>by cases hg with|cons h1 h2=>exact .cons (QW hfr hF h.1 h1) (Vj h.2 h2)
 |[],_::_,_,h,_=>h.elim
 |_::_,[],_,h,_=>h.elim
theorem Q7 {a b:AV}{x:Value}(h:NR is L F a b)(hg:GA ρ b x):GA (eY ρ is) a x:=by
 unfold NR at h
 split at h
 ·cases hg with|c hg=>exact .c (QW hfr hF h hg)
 ·cases hg with|agg hg=>exact .agg (Vj hfr hF h hg)
 ·exact h.elim
theorem uP: ∀{a b:List AV}{x:List Value},zF is L F a b->F2 (GA ρ) b x->F2 (GA (eY ρ is)) a x
 |[],[],_,_,hg=>by cases hg;exact .nil
 |a::l,b::m,_,h,hg=>by cases hg with|cons h1 h2=>exact .cons (Q7 hfr hF h.1 h1) (uP h.2 h2)
 |[],_::_,_,h,_=>h.elim
 |_::_,[],_,h,_=>h.elim
theorem QX {a b:RV}{x:Value}(h:Gi is L F a b)(hg:GR ρ b x):GR (eY ρ is) a x:=by
 unfold Gi at h
 split at h
 ·exact .u _
 ·cases hg with|a hg=>exact .a (Q7 hfr hF h hg)
 ·cases hg with|aK hg=>exact .aK (uP hfr hF h hg)
 ·exact h.elim
omit hfr hF in
theorem afA {F:Fz}{a b:KV}{x:Value}(h:leK a b)(hg:GK F b x):GK F a x:=by
 unfold leK at h
 split at h
 ·exact Zx h hg
 ·subst h;exact hg
 ·exact h.elim
theorem Vm: ∀{a b:List ME}{x:List MapEntry},Xe is L F a b->F2 (GE ρ) b x->F2 (GE (eY ρ is)) a x
 |[],[],_,_,hg=>by cases hg;exact .nil
 |a::l,b::m,_,h,hg=>by
  cases hg with|cons h1 h2=>
   obtain⟨⟨q1,q2,q3⟩,q4⟩:=h
   exact .cons ⟨afA q1 h1.1,Q7 hfr hF q2 h1.2.1,h1.2.2.trans q3.symm⟩ (Vm q4 h2)
 |[],_::_,_,h,_=>h.elim
 |_::_,[],_,h,_=>h.elim
omit hfr hF in
theorem Me: ∀{l:List SV}{m:List PV},wu l=some m->l=m.map .p
 |[],m,h=>by cases h;rfl
 | .p a::l,m,h=>by
   unfold wu at h
   split at h
   ·rename_i r hr;cases h;simp[Me hr]
   ·cases h
 | .ptr .. ::_,_,h| .pts .. ::_,_,h| .fp .. ::_,_,h| .sl .. ::_,_,h| .mp .. ::_,_,h| .ch .. ::_,_,h| .clo .. ::_,_,h=>by cases h
theorem afz {P:Program}{a b:AO}{i k j l:Nat}{B:Nat->Prop}{w:World}(h:QZ is L F a b)(hn: ∀x,ρ.nm j l=some x->(eY ρ is).nm i k=some x)(hg:Ob P ρ j l b B w):Ob P (eY ρ is) i k a B w:=by
 have cells: ∀{l m:List SV},QV is L F l m->l.length=m.length/\ ∀{q:Nat}{v:SV},l[q]?=some v-> ∃u,m[q]?=some u/\Vk is L F v u:=by
  intro l
  induction l with
  |nil=>intro m h;cases m with
   |nil=>exact⟨rfl,fun h=>by simp at h⟩
   |cons=>exact h.elim
  |cons c l ih=>intro m h;cases m with
   |nil=>exact h.elim
   |cons d m=>
    obtain⟨h1,h2⟩:=ih h.2
    refine⟨by simp[h1],fun{q v} hq=>?_⟩
    cases q with
    |zero=>simp at hq;subst hq;exact⟨d,rfl,h.1⟩
    |succ q=>simp at hq;simpa using h2 hq
 unfold QZ at h
 split at h
 ·obtain⟨rfl,h⟩:=h
  obtain⟨hlen,hc⟩:=cells h
  cases hg with
  |row ho hr hB hh hcs hsz=>
   rcases ho with e|⟨_,e,_⟩<;>cases e
   exact .row (.inl rfl) (hn _ hr) hB hh (fun q v hv=>let⟨u,h1,h2⟩:=hc hv;let⟨x,h3,h4⟩:=hcs q u h1;⟨x,QW hfr hF h2 h3,h4⟩) hsz
  |eG ho hr hB=>
   rcases ho with e|e<;>cases e
   rename_i l _
   cases l with
   |nil=>exact .eG (.inl rfl) (hn _ hr) hB
   |cons=>exact h.elim
 ·obtain⟨rfl,rfl⟩:=h
  cases hg with
  |row ho hr hB hh hcs hsz=>
   rcases ho with e|⟨_,e,rfl⟩<;>cases e
   refine .row (.inr ⟨_,rfl,rfl⟩) (hn _ hr) hB hh (fun q v hv=>?_) hsz
   obtain⟨x,h3,h4⟩:=hcs q v hv
   obtain⟨p,hp,rfl⟩:=List.mem_map.1 (List.mem_of_getElem? hv)
   cases h3 with|p h3=>exact⟨x, .p h3,h4⟩
  |eG ho hr hB=>
   rcases ho with e|e<;>cases e
   exact .eG (.inr rfl) (hn _ hr) hB
 ·obtain⟨rfl,h⟩:=h
  split at h
  ·rename_i r hr0
   subst h
   cases Me hr0
   cases hg with
   |row ho hr hB hh hcs hsz=>
    rcases ho with e|⟨_,e,_⟩<;>cases e
    refine .row (.inr ⟨_,rfl,rfl⟩) (hn _ hr) hB hh (fun q v hv=>?_) hsz
    obtain⟨x,h3,h4⟩:=hcs q v hv
    obtain⟨p,hp,rfl⟩:=List.mem_map.1 (List.mem_of_getElem? hv)
    cases h3 with|p h3=>exact⟨x, .p h3,h4⟩
   |eG ho hr hB=>
    rcases ho with e|e
    ·injection e with e1 e2
     rw[List.map_eq_nil_iff.1 e1]
     exact .eG (.inr rfl) (hn _ hr) hB
    ·cases e
  ·exact h.elim
 ·obtain⟨rfl,h⟩:=h
  cases hg with
  |map hr hB hh hx=>exact .map (hn _ hr) hB hh (Vm hfr hF h.h hx)
  |row ho _ _ _ _ _=>rcases ho with e|⟨_,e,_⟩<;>cases e
  |eG ho _ _=>rcases ho with e|e<;>cases e
 ·obtain⟨rfl,rfl,rfl,h⟩:=h
  cases hg with
  |chan hr hB hh hx=>exact .chan (hn _ hr) hB hh (uP hfr hF h.h hx)
  |row ho _ _ _ _ _=>rcases ho with e|⟨_,e,_⟩<;>cases e
  |eG ho _ _=>rcases ho with e|e<;>cases e
 ·obtain⟨rfl,h,h'⟩:=h
  cases hg with
  |clo hr hB hx hy=>exact .clo (hn _ hr) hB (uP hfr hF h hx) (uP hfr hF h' hy)
  |row ho _ _ _ _ _=>rcases ho with e|⟨_,e,_⟩<;>cases e
  |eG ho _ _=>rcases ho with e|e<;>cases e
 ·obtain⟨h,rfl,rfl,rfl⟩:=h
  cases hg with
  |fJ hr hm hB hh=>exact .fJ (hn _ hr) (oI hfr h hm) hB hh
  |row ho _ _ _ _ _=>rcases ho with e|⟨_,e,_⟩<;>cases e
  |eG ho _ _=>rcases ho with e|e<;>cases e
 ·obtain⟨rfl,rfl⟩:=h
  cases hg with
  |sit hr hB hh=>exact .sit (hn _ hr) hB hh
  |row ho _ _ _ _ _=>rcases ho with e|⟨_,e,_⟩<;>cases e
  |eG ho _ _=>rcases ho with e|e<;>cases e
 ·exact h.elim
end
end Sx
end
end Go.Proofs.YtakhobfamnjnoaaGreatDoor
