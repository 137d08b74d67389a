/- Symbolic runs: codes, functions. -/
import Derived.Test.YtakhobfamnjnoaaGreatDoorB11
import Derived.Deep.LoopGhost
set_option linter.unusedVariables false
set_option linter.unusedSimpArgs false
namespace Go.Proofs.YtakhobfamnjnoaaGreatDoor
section
namespace Sx
open Go Go.RowKit
section
variable {P:Program} {T:gV} [jG P T] {ρ:Ren} {h:Hp} {O:Own} {w:World} {N:Nat} {e:aX} {a:Act}
theorem C9 (hF:Fr ρ N e a){ops:Array Oper}{o:Oper}{g:Option (Nat×Bool)}(hg:gdO ops.toList o.guard=some g){yes no:aX->Prop}(hk:wants g e yes no):
 (Region.wanted o (yielded ops a.tmps)=true/\ ∃e',yes e'/\Fr ρ N e' a)\/(Region.wanted o (yielded ops a.tmps)=false/\ ∃e',no e'/\Fr ρ N e' a):=by
 cases hgo:o.guard with
 |none=>
  rw[hgo]at hg;cases hg
  exact .inl ⟨by unfold Region.wanted;rw[hgo],e,hk,hF⟩
 |some p=>
  obtain⟨j,want⟩:=p
  rw[hgo]at hg
  obtain⟨oj,hj,hg1⟩:=ay hg
  obtain⟨d,hd,hg2⟩:=ay hg1
  cases hg2
  rw[aF]at hj
  have hj':ops[j]?=some oj:=by simpa using hj
  have hx:=hF.er d
  have hy:yielded ops a.tmps j=match a.tmps.getD d undef with| .bool b=>some b|_=>none:=by
   unfold yielded;rw[hj'];simp only[Option.bind_some,hd]
   rw[Array.getD_eq_getD_getElem?]
   cases a.tmps[d]? with
   |none=>rfl
   |some x=>cases x<;>rfl
  have hw:Region.wanted o (yielded ops a.tmps)=(yielded ops a.tmps j==some want):=by unfold Region.wanted;rw[hgo]
  rw[hw,hy]
  generalize hX:a.tmps.getD d undef=X at hx
  have tl: ∀{b:Bool},X= .bool b->GR ρ (match b with|true=> .a (.c (.p .tt))|false=> .a (.c (.p .ff))) (a.tmps.getD d undef):=fun{b} hb=>by rw[hX,hb];cases b<;>exact .a (.c (.p rfl))
  cases want with
  |true=>
   simp only[wants]at hk
   split at hk
   ·rename_i h0;rw[h0]at hx
    cases hx with|a hx=>cases hx with|c hx=>cases hx with|p hx=>cases hx;exact .inl ⟨rfl,e,hk,hF⟩
   ·rename_i h0;rw[h0]at hx
    cases hx with|a hx=>cases hx with|c hx=>cases hx with|p hx=>cases hx;exact .inr ⟨rfl,e,hk,hF⟩
   ·rename_i b h0;rw[h0]at hx
    cases hx with|a hx=>cases hx with|c hx=>cases hx with|p hx=>
     cases hx
     cases b with
     |true=>exact .inl ⟨rfl,_,hk.t rfl,hF.tell (tl (b:=true) rfl)⟩
     |false=>exact .inr ⟨rfl,_,hk.f rfl,hF.tell (tl (b:=false) rfl)⟩
   ·rename_i h0;rw[h0]at hx
    cases hx with|aN hx=>exact .inr ⟨rfl,e,hk,hF⟩
   ·exact hk.elim
  |false=>
   simp only[wants]at hk
   split at hk
   ·rename_i h0;rw[h0]at hx
    cases hx with|a hx=>cases hx with|c hx=>cases hx with|p hx=>cases hx;exact .inr ⟨rfl,e,hk,hF⟩
   ·rename_i h0;rw[h0]at hx
    cases hx with|a hx=>cases hx with|c hx=>cases hx with|p hx=>cases hx;exact .inl ⟨rfl,e,hk,hF⟩
   ·rename_i b h0;rw[h0]at hx
    cases hx with|a hx=>cases hx with|c hx=>cases hx with|p hx=>
     cases hx
     cases b with
     |true=>exact .inr ⟨rfl,_,hk.t rfl,hF.tell (tl (b:=true) rfl)⟩
     |false=>exact .inl ⟨rfl,_,hk.f rfl,hF.tell (tl (b:=false) rfl)⟩
   ·rename_i h0;rw[h0]at hx
    cases hx with|aN hx=>exact .inr ⟨rfl,e,hk,hF⟩
   ·exact hk.elim
theorem G9 {all:List Oper}{o:Oper}{r:RO}(h:XD T N all o=some r):rop T o.op=some r.o/\gdO all o.guard=some r.g/\r.d=o.dst/\ ∀i,r.d=some i->i<N:=by
 obtain⟨ro,h1,h2⟩:=ay h
 obtain⟨g,h3,h4⟩:=ay h2
 split at h4
 ·rename_i hd
  cases h4
  exact⟨h1,h3,hd.symm,fun _ e=>by cases e⟩
 ·rename_i d hd
  split at h4
  ·rename_i hl
   cases h4
   exact⟨h1,h3,hd.symm,fun i e=>by cases e;exact aK hl⟩
  ·cases h4
theorem Lh {ops:Array Oper}{Q:Exit->Act->World->Prop}{k:aX->Hp->Prop}: ∀(l:List Oper){m:List RO}{ρ:Ren}{h:Hp}{O:Own}{w:World}{e:aX}{a:Act},Dl T N ops.toList l=some m->U0 I0 P m e h k->HR P ρ h O w->Fr ρ N e a->
 (∀e' h' ρ' O' a' w',k e' h'->ρ.le ρ'->Fm ρ.fz O w ρ'.fz O' w'->HR P ρ' h' O' w'->h.length<=h'.length->Fr ρ' N e' a'->Q .normal a' w')->wpList P ops Q l a w
 |[],m,ρ,h,O,w,e,a,hm,hk,H,hF,hQ=>by
  cases hm
  exact hQ e h ρ O a w hk ρ.le_refl (Fm.refl _ _ _) H (Nat.le_refl _) hF
 |o::l,m,ρ,h,O,w,e,a,hm,hk,H,hF,hQ=>by
  obtain⟨r,hr,hm1⟩:=ay hm
  obtain⟨m',hm',hm2⟩:=ay hm1
  cases hm2
  obtain⟨h1,h2,h3,h4⟩:=G9 hr
  simp only[U0]at hk
  unfold wpList
  rcases C9 hF h2 hk with⟨hw,e',hy,hF'⟩|⟨hw,e',hn,hF'⟩
  ·rw[if_pos hw]
   left
   refine Wx H hF' h1 hy fun T v x ρ' h' O' w' hk' hle hFm H' hl _ hx=>?_
   rw[<-h3]
   exact Lh l hm' hk' H' ((hF'.mono hle).put h4 hx) fun e'' h'' ρ'' Bh a'' w'' q1 q2 q3 q4 q5 q6=>hQ e'' h'' ρ'' Bh a'' w'' q1 (hle.le_trans q2) (hFm.trans q3) q4 (Nat.le_trans hl q5) q6
  ·rw[if_neg (by simp[hw])]
   rw[<-h3]
   exact Lh l hm' hn H (hF'.put h4 GR.undef) hQ
theorem Ip.mono {n:Nat}{c:Code}{k k':KX}(h1:Ip P N n c e h k)(hk: ∀x e h,k x e h->k' x e h):Ip P N n c e h k':=fun hn ρ O a w H hF Q hQ=>h1 hn ρ O a w H hF Q fun x e' h' ρ' O' a' w' q=>hQ x e' h' ρ' O' a' w' (hk x e' h' q)
theorem UY {n:Nat}: ∀(c:Code){e:aX}{h:Hp}{k:KX},run I0 P N n (comp T N c) e h k->Ip P N n c e h k:=by
 intro c
 induction c with
 |skip=>intro e h k hk hn ρ O a w H hF Q hQ;exact wp_skip (hQ .normal e h ρ O a w hk (Le.refl _ _) (Fm.refl _ _ _) H hn hF)
 |label l=>intro e h k hk hn ρ O a w H hF Q hQ;exact wp_label (hQ .normal e h ρ O a w hk (Le.refl _ _) (Fm.refl _ _ _) H hn hF)
 |exit id=>intro e h k hk hn ρ O a w H hF Q hQ;exact wp_exit (hQ (.exit id) e h ρ O a w hk (Le.refl _ _) (Fm.refl _ _ _) H hn hF)
 |ret=>intro e h k hk hn ρ O a w H hF Q hQ;exact wp_ret (hQ .ret e h ρ O a w hk (Le.refl _ _) (Fm.refl _ _ _) H hn hF)
 |region id ops d=>
  intro e h k hk hn ρ O a w H hF Q hQ
  simp only[comp]at hk
  cases hm:Dl T N ops.toList ops.toList with
  |none=>rw[hm]at hk;exact hk.elim
  |some m=>
   rw[hm]at hk
   cases d with
   |false=>
    refine wp_region_list (Lh ops.toList hm hk H hF fun e' h' ρ' O' a' w' q1 q2 q3 q4 q5 q6=>?_)
    exact hQ .normal e' h' ρ' O' a' w' q1 (q2.to n) q3 q4 (Nat.le_trans hn q5) q6
   |true=>
    have hd:Ky P N n ops m e h fun e h=>k .normal e h:=hk
    refine hd.h T inferInstance hm id hn ρ O a w H hF Q fun x e' h' ρ' O' a' w' q=>?_
    cases x with
    |normal=>exact hQ .normal e' h' ρ' O' a' w' q
    |_=>exact q.elim
 |seq x y Zk ihy=>
  intro e h k hk hn ρ O a w H hF Q hQ
  refine wp_seq (Zk hk hn ρ O a w H hF _ fun z e' h' ρ' O' a' w' q1 q2 q3 q4 q5 q6=>?_)
  cases z with
  |normal=>exact ihy q1 q5 ρ' O' a' w' q4 q6 Q fun z e'' h'' ρ'' Bh a'' w'' r1 r2 r3 r4 r5 r6=>hQ z e'' h'' ρ'' Bh a'' w'' r1 (q2.trans r2 (Nat.le_refl _)) (q3.trans r3) r4 r5 r6
  |exit i=>exact hQ (.exit i) e' h' ρ' O' a' w' q1 q2 q3 q4 q5 q6
  |ret=>exact hQ .ret e' h' ρ' O' a' w' q1 q2 q3 q4 q5 q6
 |cond c x y Zk ihy=>
  intro e h k hk hn ρ O a w H hF Q hQ
  simp only[comp,run]at hk
  have hc:=BQ hF c
  split at hk
  ·rename_i h0;rw[h0]at hc
   cases hc with|a hc=>cases hc with|c hc=>cases hc with|p hc=>exact wp_cond (t:=true) hc (Zk hk hn ρ O a w H hF Q hQ)
  ·rename_i h0;rw[h0]at hc
   cases hc with|a hc=>cases hc with|c hc=>cases hc with|p hc=>exact wp_cond (t:=false) hc (ihy hk hn ρ O a w H hF Q hQ)
  ·rename_i q h0;rw[h0]at hc
   cases hc with|a hc=>cases hc with|c hc=>cases hc with|p hc=>
    split at hk
    ·rename_i t
     have hc:a.tmps.getD t undef= .bool q:=hc
     cases q with
     |true=>exact wp_cond (t:=true) hc (Zk (hk.t rfl) hn ρ O a w H (hF.tell (by rw[hc];exact .a (.c (.p rfl)))) Q hQ)
     |false=>exact wp_cond (t:=false) hc (ihy (hk.f rfl) hn ρ O a w H (hF.tell (by rw[hc];exact .a (.c (.p rfl)))) Q hQ)
    ·exact hk.elim
  ·exact hk.elim
 |block id c ih=>
  intro e h k hk hn ρ O a w H hF Q hQ
  refine wp_block (ih hk hn ρ O a w H hF _ fun z e' h' ρ' O' a' w' q1 q2 q3 q4 q5 q6=>?_)
  cases z with
  |normal=>exact hQ .normal e' h' ρ' O' a' w' q1 q2 q3 q4 q5 q6
  |exit i=>
   dsimp only at q1
   simp only[Xt.to,Exit.inBlock]
   cases hb:Nat.beq i id with
   |true=>rw[hb]at q1;rw[if_pos (aJ hb)];exact hQ .normal e' h' ρ' O' a' w' q1 q2 q3 q4 q5 q6
   |false=>
    rw[hb]at q1
    rw[if_neg (fun e=>by subst e;simp at hb)]
    exact hQ (.exit i) e' h' ρ' O' a' w' q1 q2 q3 q4 q5 q6
  |ret=>exact hQ .ret e' h' ρ' O' a' w' q1 q2 q3 q4 q5 q6
 |loop c ih=>intro e h k hk;exact hk.h T inferInstance c rfl
 |scope c ih=>
  intro e h k hk hn ρ O a w H hF Q hQ
  refine wp_scope_straight (ih hk hn ρ O a w H hF _ fun z e' h' ρ' O' a' w' q1 q2 q3 q4 q5 q6=>?_)
  cases z with
  |normal=>exact hQ .normal e' h' ρ' O' a' w' q1 q2 q3 q4 q5 q6
  |exit i=>exact hQ (.exit i) e' h' ρ' O' a' w' q1 q2 q3 q4 q5 q6
  |ret=>exact hQ .ret e' h' ρ' O' a' w' q1 q2 q3 q4 q5 q6
 |_=>intro e h k hk;exact hk.elim
def sH (tmps:Array Value):ResultVar->Sem Value
 | .tmp t=>pure (tmps.getD t undef)
 | .cell c t=>do loadVar t (<-asAddr (tmps.getD c undef))
theorem pJ (fn:Func)(tmps:Array Value):results fn tmps=(fn.results.mapM (sH tmps)>>=fun vs=>pure (if h:vs.size=1 then vs[0]else .tuple vs)):=by
 unfold results
 congr 1
theorem G5 (H:HR P ρ h O w)(hF:Fr ρ N e a): ∀{l:List ResultVar}{k:List AV->Prop},wK I0 e h (rr T l) k-> ∃vs xs,k vs/\F2 (GA ρ) vs xs/\(l.mapM (sH a.tmps):Sem (List Value)).run P w= .ok xs w
 |[],k,hk=>⟨[],[],hk, .nil,by simp⟩
 | .tmp t::l,k,hk=>by
   simp only[rr,wK]at hk
   have hx:=hF.er t
   split at hk
   ·rename_i v h0
    rw[h0]at hx
    cases hx with|a hx=>
     obtain⟨vs,xs,h1,h2,h3⟩:=G5 H hF hk
     exact⟨_,_,h1, .cons hx h2,by simp only[List.mapM_cons,sH,Sem.run_bind,Sem.run_pure,Result.andThen_ok,h3]⟩
   ·exact hk.elim
 | .cell c t::l,k,hk=>by
   simp only[rr]at hk
   cases hn:agg T t with
   |none=>rw[hn]at hk;exact hk.elim
   |some n=>
    rw[hn]at hk
    simp only[wK]at hk
    have hx:=hF.er c
    split at hk
    ·rename_i i j o h0
     rw[h0]at hx
     generalize hX:a.tmps.getD c undef=X at hx
     cases hx with|a hx=>cases hx with|c hx=>cases hx with
      |ptr _ hr=>
       obtain⟨ob,hob,hk⟩:=iH hk
       have fin: ∀{b base:Nat}{r:RV}{x:Value},a.tmps.getD c undef= .pointer (some ⟨b,base+o,none⟩)->(match r with| .a v=>wK I0 e h (rr T l) fun r=>k (v::r)|_=>False)->GR ρ r x->(loadVar t ⟨b,base+o,none⟩).run P w= .ok x w-> ∃vs xs,k vs/\F2 (GA ρ) vs xs/\((ResultVar.cell c t::l).mapM (sH a.tmps):Sem (List Value)).run P w= .ok xs w:=fun{b base r x} hX hk hx hl=>by
        split at hk
        ·cases hx with|a hx=>
          obtain⟨vs,xs,h1,h2,h3⟩:=G5 H hF hk
          exact⟨_,_,h1, .cons hx h2,by simp only[List.mapM_cons,sH,Sem.run_bind,hX,asAddr,Sem.run_pure,Result.andThen_ok,hl,h3]⟩
        ·exact hk.elim
       split at hk
       ·obtain⟨cs,ty,hh,_,hc⟩:=rowAt H hob (.inl rfl) hr
        obtain⟨r,y,h2,h3,h4⟩:=yO (P:=P) hn hh hc hk
        exact fin hX h2 h3 (h4 w ⟨_,_,hh⟩)
       ·obtain⟨cs,ty,hh,_,hc⟩:=rowAt H hob (.inr ⟨_,rfl,rfl⟩) hr
        obtain⟨r,y,h2,h3,h4⟩:=yP (P:=P) hn hh hc hk
        exact fin hX h2 h3 (h4 w ⟨_,_,hh⟩)
       ·exact hk.elim
    ·exact hk.elim
theorem tu (H:HR P ρ h O w)(hF:Fr ρ N e a){fn:Func}{k:RV->Prop}(hk:wK I0 e h (rr T fn.results.toList) fun l=>Sl k l): ∃r x,k r/\GR ρ r x/\(results fn a.tmps).run P w= .ok x w:=by
 obtain⟨vs,xs,hk,hx,hrun⟩:=G5 H hF hk
 have hrun':(fn.results.mapM (sH a.tmps):Sem (Array Value)).run P w= .ok xs.toArray w:=by
  rw[Array.mapM_eq_mapM_toList]
  simp[hrun]
 unfold Sl at hk
 split at hk
 ·cases hx with
  |cons h1 t1=>cases t1;exact⟨_,_,hk, .a h1,by simp only[pJ,Sem.run_bind];rw[hrun'];simp⟩
 ·rename_i hne
  refine⟨_,_,hk, .aN hx,?_⟩
  have: ¬xs.toArray.size=1:=by
   intro e
   simp at e
   have hlen:=bJ hx
   cases vs with
   |nil=>simp at hlen;omega
   |cons v vs=>cases vs with
    |nil=>exact hne v rfl
    |cons=>simp at hlen;omega
  simp only[pJ,Sem.run_bind]
  rw[hrun']
  simp only[Result.andThen_ok,dif_neg this,Sem.run_pure]
theorem ada {l:List AV}{xs:List Value}(hx:F2 (GA ρ) l xs)(t:List Value): ∀i,GR ρ (eg (avs l) i) ((xs++t)[i]?.getD undef):=by
 induction hx with
 |nil=>intro i;cases i<;>exact .u _
 |cons a _ ih=>
  intro i
  cases i with
  |zero=>exact .a a
  |succ i=>exact ih i
theorem rF {bx:{α:Type}->α->α}(hb: ∀{α:Type}(x:α),bx x=x): @bx= @I0:=by
 funext α x
 exact hb x
theorem enter {f:FuncId}{F:Func}(hf:P.funcs[f]?=some F){args:List AV}{k:RV->Hp->Prop}(hk: ∀(bx:{α:Type}->α->α),(∀{α:Type}(x:α),bx x=x)-> ∀Q:Program,Q=P->body bx Q args h k (FY T F)):
 gJ P f args h fun T r h'=>T=List.range h.length/\k r h':=by
 have hk:=hk I0 (fun _=>rfl) P rfl
 cases hf':FY T F with
 |none=>rw[hf']at hk;exact hk.elim
 |some F'=>
  rw[hf']at hk
  have h1:=hf
  have h2:=hf'
  obtain⟨c,h3,h4⟩:=ay h2
  split at h4
  ·cases h4
  ·rename_i hn
   cases h4
   refine⟨fun w xs=>?_,fun ρ O w xs H hx=>?_⟩
   ·have hb': ¬F.body=none:=by simp[h3]
    have hn': ¬F.name= "runtime.NumGoroutine":=by simpa using hn
    simp[callFunc,h1,hn',hb']
   ·simp only[body]at hk
    split at hk
    ·rename_i hl
     have hl:args.length<=F.ntmps:=by rw[<-aG];exact aK hl
     rw[aG]at hk
     have hlx:=bJ hx
     refine calls_of_wp h1 h3 (UY c hk (Nat.le_refl _) ρ O _ w H ⟨fun i=>?_,by simp;omega,rfl⟩ _ fun x e' h' ρ' O' a' w' q1 q2 q3 q4 q5 q6=>?_)
     ·have:=ada hx (List.replicate (F.ntmps-xs.length) undef) i
      rw[Array.getD_eq_getD_getElem?]
      have e:(xs.toArray++Array.replicate (F.ntmps-xs.toArray.size) undef)[i]?=(xs++List.replicate (F.ntmps-xs.length) undef)[i]?:=by
       rw[<-List.getElem?_toArray]
       congr 1
       simp
      rw[e];exact this
     ·have fin:wK I0 e' h' (rr T F.results.toList) (fun l=>Sl (fun r=>k r h') l)->a'.defers=[]/\ ∃v,(results F a'.tmps).run P w'= .ok v w'/\ ∃T r x ρ' h' O',Ending.returned v= .returned x/\(T=List.range h.length/\k r h')/\ρ.le ρ'/\Fm ρ.fz O w ρ'.fz O' w'/\HR P ρ' h' O' w'/\h.length<=h'.length/\Un T O w O' w'/\GR ρ' r x:=fun hk=>by
       obtain⟨r,x,hk,hr,hrun⟩:=tu q4 q6 hk
       refine⟨q6.jd,x,hrun,List.range h.length,r,x,ρ',h',O',rfl,⟨rfl,hk⟩,⟨fun i j y hy=>?_,q2.fz,fun i=>?_⟩,q3,q4,q5,fun i j q hn hq=>?_,hr⟩
       ·rcases Nat.lt_or_ge i h.length with hi|hi
        ·exact q2.nm i j y hi hy
        ·rw[H.fr i j hi]at hy;cases hy
       ·intro hi1
        rcases Nat.lt_or_ge i h.length with hi|hi
        ·exact q2.on i hi hi1
        ·rw[H.of i hi]at hi1;cases hi1
       ·obtain⟨p,hp⟩:=H.live i j q hq
        exact absurd (List.mem_range.2 (bH hp)) hn
      cases x with
      |normal=>exact fin q1
      |ret=>exact fin q1
      |exit=>exact q1.elim
    ·exact hk.elim
end
end Sx
end
section
namespace Sx
open Go Go.RowKit
def MW:PV->PV->Prop
 | .bool b, .tt=>b=true
 | .bool b, .ff=>b=false
 | .int k n, .lit q m=>k=q/\n=m
 | .lit k n, .int q m=>k=q/\n=m
 | .fz n l, .bW=>n=0/\l=[]
 |a,b=>a=b
theorem dH (a:PV):MW a a:=by unfold MW;split<;>first|trivial|rfl|simp_all
theorem VI {F:Fz}{a b:PV}{v:Value}(h:MW a b)(hg:GP F b v):GP F a v:=by
 unfold MW at h
 split at h
 ·subst h;exact hg
 ·subst h;exact hg
 ·obtain⟨rfl,rfl⟩:=h;exact hg
 ·obtain⟨rfl,rfl⟩:=h;exact hg
 ·obtain⟨rfl,rfl⟩:=h;cases hg;exact⟨none,0,rfl,Nat.le_refl _,by unfold maxLen;omega, .inl ⟨rfl,rfl⟩⟩
 ·subst h;exact hg
abbrev Fs:=Nat->Option (List PV)
section
variable (is:List Pl) (L:Nat) (F:Fs)
def zM (i k j l:Nat):Prop:=match jo is L i k with
 |(a,b)=>(match Nat.beq a j,Nat.beq b l with|true,true=>True|_,_=>False)
def Qv:SV->SV->Prop
 | .p a, .p b=>MW a b
 | .p (.fz m l), .sl j 0 q n=>(match F j with|some r=>m=n/\l=r.drop q|none=>False)
 | .fp l, .ptr j 0 q=>(match F j with|some r=>l=r.drop q|none=>False)
 | .fp l, .pts j 0 q=>(match F j with|some r=>l=r.drop q|none=>False)
 | .fp l, .fp m=>l=m
 | .ptr i k o, .ptr j l q=>zM is L i k j l/\o=q
 | .pts i k o, .pts j l q=>zM is L i k j l/\o=q
 | .pts i k o, .ptr j l q=>zM is L i k j l/\o=q
 | .ptr i k o, .pts j l q=>zM is L i k j l/\o=q
 | .sl i 0 0 n, .p .bW=>aA is i=some .iE/\n=0
 | .sl i k o n, .sl j l q m=>zM is L i k j l/\o=q/\n=m
 | .mp i k, .mp j l=>zM is L i k j l
 | .ch i k, .ch j l=>zM is L i k j l
 | .clo i k, .clo j l=>zM is L i k j l
 |_,_=>False
def MR:List SV->List SV->Prop
 |[],[]=>True
 |a::l,b::m=>Qv is L F a b/\MR l m
 |_,_=>False
def Jl:AV->AV->Prop
 | .c a, .c b=>Qv is L F a b
 | .agg l, .agg m=>MR is L F l m
 |_,_=>False
def wQ:List AV->List AV->Prop
 |[],[]=>True
 |a::l,b::m=>Jl is L F a b/\wQ l m
 |_,_=>False
def Fv:RV->RV->Prop
 | .u,_=>True
 | .a v, .a x=>Jl is L F v x
 | .aN l, .aN m=>wQ is L F l m
 |_,_=>False
def Zh:KV->KV->Prop
 | .one a, .one b=>MW a b
 | .agg l, .agg m=>l=m
 |_,_=>False
def SI:List ME->List ME->Prop
 |[],[]=>True
 |a::l,b::m=>(Zh a.key b.key/\Jl is L F a.val b.val/\a.born=b.born)/\SI l m
 |_,_=>False
structure MsS (l m:Ms):Prop where
 h:SI is L F l.li m.li
structure AsS (l m:Qs):Prop where
 h:wQ is L F l.li m.li
theorem Qw: ∀es:List PE,SI is L F (es.map PE.me) (es.map PE.me)
 |[]=>trivial
 |e::es=>⟨⟨by cases h:e.key<;>simp only[PE.me,h,Zh];exact dH _,by
   cases h:e.val with
   |c p=>simp only[PE.me,h,PA.av,Jl,Qv];exact dH _
   |agg l=>
    simp only[PE.me,h,PA.av,Jl]
    clear h
    induction l with
    |nil=>trivial
    |cons a l ih=>exact⟨dH _,ih⟩,rfl⟩,Qw es⟩
theorem Qy: ∀es:List PA,wQ is L F (es.map PA.av) (es.map PA.av)
 |[]=>trivial
 |e::es=>⟨by
   cases e with
   |c p=>exact dH _
   |agg l=>
    simp only[PA.av,Jl]
    induction l with
    |nil=>trivial
    |cons a l ih=>exact⟨dH _,ih⟩,Qy es⟩
theorem nH (es:List PE):MsS is L F (.o es) (.o es):=⟨Qw is L F es⟩
theorem nJ (es:List PA):AsS is L F (.o es) (.o es):=⟨Qy is L F es⟩
def MX:AO->AO->Prop
 | .row l t, .row m u=>t=u/\MR is L F l m
 | .bG l t, .bG m u=>t=u/\l=m
 | .bG l t, .row m u=>t=u/\(match sO m with|some m=>l=m|none=>False)
 | .map l c, .map m d=>c=d/\MsS is L F l m
 | .chan c l s r, .chan d m u v=>c=d/\s=u/\r=v/\AsS is L F l m
 | .clo f l m, .clo g x y=>f=g/\wQ is L F l x/\wQ is L F m y
 | .dN i j s l c, .dN i' j' s' l' c'=>zM is L i j i' j'/\s=s'/\l=l'/\c=c'
 | .sit s p, .sit s' p'=>s=s'/\p=p'
 |_,_=>False
def X7:Option AO->Option AO->Prop
 |none,none=>True
 |some a,some b=>MX is L F a b
 |_,_=>False
def Jk:eH->eH->Prop
 | .one a, .one b=>MX is L F a b
 | .many f, .many g=> ∀k,X7 is L F (f k) (g k)
 |_,_=>False
variable (H:Hp)
def TF:Pl->eH->Prop
 | .gone _, .no=>True
 | .iE, .one (.row l _)=>l=[]
 | .iE, .one (.bG l _)=>l=[]
 | .all a,c=>(match aA H a with|some c'=>Jk is L F c c'|none=>False)
 | .pt a b, .one o=>(match aV H a b with|some o'=>MX is L F o o'|none=>False)
 |_,_=>False
def sG:List Pl->Hp->Prop
 |[],[]=>True
 |p::ps,c::cs=>TF is L F H p c/\sG ps cs
 |_,_=>False
end
def nD:Pl->Pl->Bool
 | .pt a b, .pt c d=>(match Nat.beq a c with|true=>!Nat.beq b d|false=>true)
 | .pt a _, .all c=>!Nat.beq a c
 | .all a, .pt c _=>!Nat.beq a c
 | .all a, .all c=>!Nat.beq a c
 |_,_=>true
def yc (p:Pl):List Pl->Bool
 |[]=>true
 |q::l=>(match nD p q with|true=>yc p l|false=>false)
def mg:List Pl->Bool
 |[]=>true
 |p::l=>(match yc p l with|true=>mg l|false=>false)
def bT:List Pl->Nat->Nat->Option (Nat×Nat)
 |[],_,_=>none
 | .pt c d::ps,a,b=>if c=a/\d=b then some (0,0)else(bT ps a b).map fun q=>(q.1+1,q.2)
 | .all c::ps,a,b=>if c=a then some (0,b)else(bT ps a b).map fun q=>(q.1+1,q.2)
 | .iE::ps,a,b=>(bT ps a b).map fun q=>(q.1+1,q.2)
 | .gone _::ps,a,b=>(bT ps a b).map fun q=>(q.1+1,q.2)
theorem yY {o:Option (Nat×Nat)}{i k:Nat}(h:(o.map fun q=>(q.1+1,q.2))=some (i,k)): ∃j,i=j+1/\o=some (j,k):=by
 cases o with
 |none=>cases h
 |some q=>cases h;exact⟨q.1,rfl,rfl⟩
theorem fK: ∀{is:List Pl}{a b i k:Nat},bT is a b=some (i,k)->(aA is i=some (.pt a b)/\k=0)\/(aA is i=some (.all a)/\k=b)
 |[],_,_,_,_,h=>by cases h
 | .pt c d::ps,a,b,i,k,h=>by
   simp only[bT]at h
   split at h
   ·rename_i e;obtain⟨rfl,rfl⟩:=e;cases h;exact .inl ⟨rfl,rfl⟩
   ·obtain⟨j,rfl,hq⟩:=yY h;exact fK (is:=ps) hq
 | .all c::ps,a,b,i,k,h=>by
   simp only[bT]at h
   split at h
   ·rename_i e;subst e;cases h;exact .inr ⟨rfl,rfl⟩
   ·obtain⟨j,rfl,hq⟩:=yY h;exact fK (is:=ps) hq
 | .iE::ps,a,b,i,k,h=>by obtain⟨j,rfl,hq⟩:=yY h;exact fK (is:=ps) hq
 | .gone _::ps,a,b,i,k,h=>by obtain⟨j,rfl,hq⟩:=yY h;exact fK (is:=ps) hq
theorem kR {p:Pl}: ∀{l:List Pl},yc p l=true-> ∀{i:Nat}{q:Pl},aA l i=some q->nD p q=true
 |[],_,_,_,h=>by cases h
 |r::l,h,0,q,hq=>by
  cases hq
  unfold yc at h
  split at h
  ·assumption
  ·cases h
 |r::l,h,i+1,q,hq=>by
  unfold yc at h
  split at h
  ·exact kR h (i:=i) hq
  ·cases h
theorem oW {p:Pl}{l:List Pl}(h:mg (p::l)=true):yc p l=true/\mg l=true:=by
 unfold mg at h
 split at h
 ·exact⟨by assumption,h⟩
 ·cases h
theorem Hy: ∀{is:List Pl},mg is=true-> ∀{i a b:Nat},aA is i=some (.pt a b)->bT is a b=some (i,0)
 |[],_,_,_,_,h=>by cases h
 |p::ps,hd,0,a,b,h=>by cases h;simp[bT]
 |p::ps,hd,i+1,a,b,h=>by
  obtain⟨h1,h2⟩:=oW hd
  have ih:=Hy h2 (i:=i) h
  have:=kR h1 (i:=i) h
  cases p with
  |pt c d=>
   simp only[bT]
   rw[if_neg,ih];rfl
   rintro⟨rfl,rfl⟩
   simp[nD]at this
  |all c=>
   simp only[bT]
   rw[if_neg,ih];rfl
   rintro rfl
   simp[nD]at this
  |iE=>simp only[bT];rw[ih];rfl
  |gone c=>simp only[bT];rw[ih];rfl
theorem uP: ∀{is:List Pl},mg is=true-> ∀{i a:Nat},aA is i=some (.all a)-> ∀b,bT is a b=some (i,b)
 |[],_,_,_,h,_=>by cases h
 |p::ps,hd,0,a,h,b=>by cases h;simp[bT]
 |p::ps,hd,i+1,a,h,b=>by
  obtain⟨h1,h2⟩:=oW hd
  have ih:=uP h2 (i:=i) h b
  have:=kR h1 (i:=i) h
  cases p with
  |pt c d=>
   simp only[bT]
   rw[if_neg,ih];rfl
   rintro⟨rfl,rfl⟩
   simp[nD]at this
  |all c=>
   simp only[bT]
   rw[if_neg,ih];rfl
   rintro rfl
   simp[nD]at this
  |iE=>simp only[bT];rw[ih];rfl
  |gone c=>simp only[bT];rw[ih];rfl
section
variable {is0:List Pl} {L:Nat} {F:Fs} {H:Hp}
theorem jS: ∀{is:List Pl}{h:Hp},sG is0 L F H is h->is.length=h.length/\ ∀{i:Nat}{c:eH},aA h i=some c-> ∃p,aA is i=some p/\TF is0 L F H p c
 |[],[],_=>⟨rfl,fun h=>by cases h⟩
 |p::ps,c::cs,h=>by
  obtain⟨h1,h2⟩:=jS h.2
  refine⟨by simp[h1],fun{i d} hd=>?_⟩
  cases i with
  |zero=>cases hd;exact⟨p,rfl,h.1⟩
  |succ i=>exact h2 hd
 |[],_::_,h=>h.elim
 |_::_,[],h=>h.elim
theorem Hw {α:Type}{l:List α}{i:Nat}(h:i<l.length): ∃c,aA l i=some c:=⟨l[i],by rw[aF];exact List.getElem?_eq_getElem h⟩
theorem MP {α:Type}{l:List α}{i:Nat}{c:α}(h:aA l i=some c):i<l.length:=by
 rw[aF]at h
 exact(List.getElem?_eq_some_iff.1 h).1
theorem VG {α:Type}{l:List α}{i:Nat}(h:aA l i=none):l.length<=i:=by
 rw[aF]at h
 exact List.getElem?_eq_none_iff.1 h
end
def dB (ρ:Ren)(is:List Pl):Ren where
 nm i k:=match aA is i with
  |some (.pt a b)=>(match k with|0=>ρ.nm a b|_+1=>none)
  |some (.all a)=>ρ.nm a k
  |some (.gone a)=>ρ.nm a k
  |some .iE=>(match k with|0=>some .cZ|_+1=>none)
  |none=>none
 fz:=ρ.fz
 on i:=match aA is i with
  |some (.pt ..)=>true
  |some (.all a)=>ρ.on a
  |some (.gone a)=>ρ.on a
  |some .iE=>true
  |none=>false
def Bq (ρ:Ren)(F:Fs):Prop:= ∀j r,F j=some r->ρ.nm j 0=some .cZ/\r=[]\/ ∃b base cs,(∃cap,ρ.nm j 0=some (.blk b base cap))/\ρ.fz b=some cs/\kT ρ.fz r cs base
theorem kT.drop {F:Fz}{l:List PV}{cs:Array Value}{o:Nat}(h:kT F l cs o)(n:Nat):kT F (l.drop n) cs (o+n):=kT.mk fun j p hj=>by
 rw[List.getElem?_drop]at hj
 obtain⟨x,h1,h2⟩:=h.get hj
 exact⟨x,by rw[<-h1];congr 1;omega,h2⟩
section
variable {ρ:Ren} {is:List Pl} {L:Nat} {F:Fs}
theorem abC {i k j l:Nat}(h:zM is L i k j l):jo is L i k=(j,l):=by
 unfold zM at h
 split at h
 rename_i a b e
 split at h
 ·rename_i h1 h2;rw[e,aJ h1,aJ h2]
 ·exact h.elim
theorem lT (hfr: ∀i k,L<=i->ρ.nm i k=none){i k j l:Nat}{x:RI}(h:zM is L i k j l)(hx:ρ.nm j l=some x):(dB ρ is).nm i k=some x:=by
 have e:=abC h
 unfold jo at e
 unfold dB
 dsimp only
 have far: ∀{m},(Nat.add L m,k)=(j,l)->False:=fun{m} e=>by
  injection e with e1 e2
  have e1:L+m=j:=e1
  rw[hfr j l (by omega)]at hx;cases hx
 split at e
 ·rename_i hq
  rw[hq]
  cases k with
  |zero=>cases e;exact hx
  |succ k=>exact(far e).elim
 ·rename_i hq;rw[hq];cases e;exact hx
 ·rename_i hq;rw[hq];cases e;exact hx
 ·exact(far e).elim
 ·exact(far e).elim
variable (hfr: ∀i k,L<=i->ρ.nm i k=none) (hF:Bq ρ F)
include hfr hF
theorem MS {a b:SV}{x:Value}(h:Qv is L F a b)(hg:G ρ b x):G (dB ρ is) a x:=by
 unfold Qv at h
 split at h
 ·cases hg with|p hg=>exact .p (VI h hg)
 ·rename_i m l j q n
  split at h
  ·rename_i r hr
   obtain⟨rfl,rfl⟩:=h
   cases hg with
   |sl off len cap h0 h1 h2 h3=>
    rcases hF j r hr with⟨e,_⟩|⟨b,base,cs,⟨cp,e⟩,hb,hl⟩
    ·rw[h0]at e;cases e
    ·rw[h0]at e;cases e
     exact .p ⟨_,cap,rfl,h1,h2, .inr ⟨_,_,cs,rfl,hb,hl.drop q⟩⟩
   |cZ h0 h00=>
    rcases hF j r hr with⟨_,rfl⟩|⟨b,base,cs,⟨cp,e⟩,hb,hl⟩
    ·exact .p ⟨none,0,by rw[h00],by omega,by unfold maxLen;omega, .inl ⟨h00,by simp⟩⟩
    ·rw[h0]at e;cases e
  ·exact h.elim
 ·rename_i l j q
  split at h
  ·rename_i r hr
   subst h
   cases hg with
   |ptr off h0=>
    rcases hF j r hr with⟨e,_⟩|⟨b,base,cs,⟨cp,e⟩,hb,hl⟩
    ·rw[h0]at e;cases e
    ·rw[h0]at e;cases e
     exact .fp hb (hl.drop q)
  ·exact h.elim
 ·rename_i l j q
  split at h
  ·rename_i r hr
   subst h
   cases hg with
   |pts off h0=>
    rcases hF j r hr with⟨e,_⟩|⟨b,base,cs,⟨cp,e⟩,hb,hl⟩
    ·rw[h0]at e;cases e
    ·rw[h0]at e;cases e
     exact .fp hb (hl.drop q)
  ·exact h.elim
 ·subst h;cases hg with|fp h1 h2=>exact .fp h1 h2
 ·obtain⟨h,rfl⟩:=h;cases hg with|ptr off h0=>exact .ptr _ (lT hfr h h0)
 ·obtain⟨h,rfl⟩:=h;cases hg with|pts off h0=>exact .pts _ (lT hfr h h0)
 ·obtain⟨h,rfl⟩:=h;cases hg with|ptr off h0=>exact .pts _ (lT hfr h h0)
 ·obtain⟨h,rfl⟩:=h;cases hg with|pts off h0=>exact .ptr _ (lT hfr h h0)
 ·obtain⟨h,h0⟩:=h
  cases hg with|p hg=>
   cases hg
   exact .cZ (by simp[dB,h]) h0
 ·obtain⟨h,rfl,rfl⟩:=h
  cases hg with
  |sl off len cap h0 h1 h2 h3=>exact .sl _ _ _ (lT hfr h h0) h1 h2 h3
  |cZ h0 h00=>exact .cZ (lT hfr h h0) h00
 ·cases hg with|mp h0=>exact .mp (lT hfr h h0)
 ·cases hg with|ch h0=>exact .ch (lT hfr h h0)
 ·cases hg with|clo h0=>exact .clo (lT hfr h h0)
 ·exact h.elim
theorem Qu: ∀{a b:List SV}{x:List Value},MR is L F a b->F2 (G ρ) b x->F2 (G (dB ρ is)) a x
 |[],[],_,_,hg=>by cases hg;exact .nil
 |a::l,b::m,_,h,hg=>by cases hg with|cons h1 h2=>exact .cons (MS hfr hF h.1 h1) (Qu h.2 h2)
 |[],_::_,_,h,_=>h.elim
 |_::_,[],_,h,_=>h.elim
theorem Na {a b:AV}{x:Value}(h:Jl is L F a b)(hg:GA ρ b x):GA (dB ρ is) a x:=by
 unfold Jl at h
 split at h
 ·cases hg with|c hg=>exact .c (MS hfr hF h hg)
 ·cases hg with|agg hg=>exact .agg (Qu hfr hF h hg)
 ·exact h.elim
theorem qQ: ∀{a b:List AV}{x:List Value},wQ is L F a b->F2 (GA ρ) b x->F2 (GA (dB ρ is)) a x
 |[],[],_,_,hg=>by cases hg;exact .nil
 |a::l,b::m,_,h,hg=>by cases hg with|cons h1 h2=>exact .cons (Na hfr hF h.1 h1) (qQ h.2 h2)
 |[],_::_,_,h,_=>h.elim
 |_::_,[],_,h,_=>h.elim
theorem MV {a b:RV}{x:Value}(h:Fv is L F a b)(hg:GR ρ b x):GR (dB ρ is) a x:=by
 unfold Fv at h
 split at h
 ·exact .u _
 ·cases hg with|a hg=>exact .a (Na hfr hF h hg)
 ·cases hg with|aN hg=>exact .aN (qQ hfr hF h hg)
 ·exact h.elim
omit hfr hF in
theorem abS {F:Fz}{a b:KV}{x:Value}(h:Zh a b)(hg:GK F b x):GK F a x:=by
 unfold Zh at h
 split at h
 ·exact VI h hg
 ·subst h;exact hg
 ·exact h.elim
theorem Qx: ∀{a b:List ME}{x:List MapEntry},SI is L F a b->F2 (GE ρ) b x->F2 (GE (dB ρ is)) a x
 |[],[],_,_,hg=>by cases hg;exact .nil
 |a::l,b::m,_,h,hg=>by
  cases hg with|cons h1 h2=>
   obtain⟨⟨q1,q2,q3⟩,q4⟩:=h
   exact .cons ⟨abS q1 h1.1,Na hfr hF q2 h1.2.1,h1.2.2.trans q3.symm⟩ (Qx q4 h2)
 |[],_::_,_,h,_=>h.elim
 |_::_,[],_,h,_=>h.elim
omit hfr hF in
theorem Ik: ∀{l:List SV}{m:List PV},sO l=some m->l=m.map .p
 |[],m,h=>by cases h;rfl
 | .p a::l,m,h=>by
   unfold sO at h
   split at h
   ·rename_i r hr;cases h;simp[Ik hr]
   ·cases h
 | .ptr .. ::_,_,h| .pts .. ::_,_,h| .fp .. ::_,_,h| .sl .. ::_,_,h| .mp .. ::_,_,h| .ch .. ::_,_,h| .clo .. ::_,_,h=>by cases h
theorem abR {P:Program}{a b:AO}{i k j l:Nat}{B:Nat->Prop}{w:World}(h:MX is L F a b)(hn: ∀x,ρ.nm j l=some x->(dB ρ is).nm i k=some x)(hg:Ob P ρ j l b B w):Ob P (dB ρ is) i k a B w:=by
 have cells: ∀{l m:List SV},MR is L F l m->l.length=m.length/\ ∀{q:Nat}{v:SV},l[q]?=some v-> ∃u,m[q]?=some u/\Qv is L F v u:=by
  intro l
  induction l with
  |nil=>intro m h;cases m with
   |nil=>exact⟨rfl,fun h=>by simp at h⟩
   |cons=>exact h.elim
  |cons c l ih=>intro m h;cases m with
   |nil=>exact h.elim
   |cons d m=>
    obtain⟨h1,h2⟩:=ih h.2
    refine⟨by simp[h1],fun{q v} hq=>?_⟩
    cases q with
    |zero=>simp at hq;subst hq;exact⟨d,rfl,h.1⟩
    |succ q=>simp at hq;simpa using h2 hq
 unfold MX at h
 split at h
 ·obtain⟨rfl,h⟩:=h
  obtain⟨hlen,hc⟩:=cells h
  cases hg with
  |row ho hr hB hh hcs hsz=>
   rcases ho with e|⟨_,e,_⟩<;>cases e
   exact .row (.inl rfl) (hn _ hr) hB hh (fun q v hv=>let⟨u,h1,h2⟩:=hc hv;let⟨x,h3,h4⟩:=hcs q u h1;⟨x,MS hfr hF h2 h3,h4⟩) hsz
  |cZ ho hr hB=>
   rcases ho with e|e<;>cases e
   rename_i l _
   cases l with
   |nil=>exact .cZ (.inl rfl) (hn _ hr) hB
   |cons=>exact h.elim
 ·obtain⟨rfl,rfl⟩:=h
  cases hg with
  |row ho hr hB hh hcs hsz=>
   rcases ho with e|⟨_,e,rfl⟩<;>cases e
   refine .row (.inr ⟨_,rfl,rfl⟩) (hn _ hr) hB hh (fun q v hv=>?_) hsz
   obtain⟨x,h3,h4⟩:=hcs q v hv
   obtain⟨p,hp,rfl⟩:=List.mem_map.1 (List.mem_of_getElem? hv)
   cases h3 with|p h3=>exact⟨x, .p h3,h4⟩
  |cZ ho hr hB=>
   rcases ho with e|e<;>cases e
   exact .cZ (.inr rfl) (hn _ hr) hB
 ·obtain⟨rfl,h⟩:=h
  split at h
  ·rename_i r hr0
   subst h
   cases Ik hr0
   cases hg with
   |row ho hr hB hh hcs hsz=>
    rcases ho with e|⟨_,e,_⟩<;>cases e
    refine .row (.inr ⟨_,rfl,rfl⟩) (hn _ hr) hB hh (fun q v hv=>?_) hsz
    obtain⟨x,h3,h4⟩:=hcs q v hv
    obtain⟨p,hp,rfl⟩:=List.mem_map.1 (List.mem_of_getElem? hv)
    cases h3 with|p h3=>exact⟨x, .p h3,h4⟩
   |cZ ho hr hB=>
    rcases ho with e|e
    ·injection e with e1 e2
     rw[List.map_eq_nil_iff.1 e1]
     exact .cZ (.inr rfl) (hn _ hr) hB
    ·cases e
  ·exact h.elim
 ·obtain⟨rfl,h⟩:=h
  cases hg with
  |map hr hB hh hx=>exact .map (hn _ hr) hB hh (Qx hfr hF h.h hx)
  |row ho _ _ _ _ _=>rcases ho with e|⟨_,e,_⟩<;>cases e
  |cZ ho _ _=>rcases ho with e|e<;>cases e
 ·obtain⟨rfl,rfl,rfl,h⟩:=h
  cases hg with
  |chan hr hB hh hx=>exact .chan (hn _ hr) hB hh (qQ hfr hF h.h hx)
  |row ho _ _ _ _ _=>rcases ho with e|⟨_,e,_⟩<;>cases e
  |cZ ho _ _=>rcases ho with e|e<;>cases e
 ·obtain⟨rfl,h,h'⟩:=h
  cases hg with
  |clo hr hB hx hy=>exact .clo (hn _ hr) hB (qQ hfr hF h hx) (qQ hfr hF h' hy)
  |row ho _ _ _ _ _=>rcases ho with e|⟨_,e,_⟩<;>cases e
  |cZ ho _ _=>rcases ho with e|e<;>cases e
 ·obtain⟨h,rfl,rfl,rfl⟩:=h
  cases hg with
  |dN hr hm hB hh=>exact .dN (hn _ hr) (lT hfr h hm) hB hh
  |row ho _ _ _ _ _=>rcases ho with e|⟨_,e,_⟩<;>cases e
  |cZ ho _ _=>rcases ho with e|e<;>cases e
 ·obtain⟨rfl,rfl⟩:=h
  cases hg with
  |sit hr hB hh=>exact .sit (hn _ hr) hB hh
  |row ho _ _ _ _ _=>rcases ho with e|⟨_,e,_⟩<;>cases e
  |cZ ho _ _=>rcases ho with e|e<;>cases e
 ·exact h.elim
end
end Sx
end
end Go.Proofs.YtakhobfamnjnoaaGreatDoor
