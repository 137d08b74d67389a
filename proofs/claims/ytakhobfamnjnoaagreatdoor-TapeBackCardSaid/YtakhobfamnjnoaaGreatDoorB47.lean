/- The machine's regions whose order is drawn: all of them. -/
import Derived.Test.YtakhobfamnjnoaaGreatDoorB46
set_option linter.unusedVariables false
set_option linter.unusedSimpArgs false
namespace Go.Proofs.YtakhobfamnjnoaaGreatDoor
namespace bC
open Go Go.RowKit
section
variable {P:Program} {g:Nat} {w0:World} {N:Nat} {ops:Array Oper} {al:List Nat} {bF:Nat} {pre:List (Nat×AO)} {ρ0:Ren} {D:List Deferred}
theorem IX {aU:jW}{ih:Run}{n:Nat}{L:Array Bool}{rs:RS}{env:Env}{h:Hp}{nx:Nat}{k:KR}(hk:lY P g aU ih ops N al pre bF n L rs env h nx k=true):
 (sQ ops al L= .done/\k n L rs env h nx=true)\/
 (∃m i o,n=m+1/\sQ ops al L= .float i/\ops[i]?=some o/\uU ops.toList o env (fun want=>Bool.casesOn want (lZ N env o.dst .undef fun env=>lY P g aU ih ops N al pre bF m (L.setIfInBounds i true) rs env h nx k)
   (LU P g o.op env h nx fun r h nx ids=>Uf h ids [] fun l=>fL (GV i l rs) fun rs=>lZ N env o.dst r fun env=>lY P g aU ih ops N al pre bF m (L.setIfInBounds i true) rs env h nx k))=true)\/
 (∃m i,n=m+1/\sQ ops al L= .loud i/\oq P g aU ih ops N al pre bF (fun L rs env h nx=>lY P g aU ih ops N al pre bF m L rs env h nx k) i L rs env h nx=true)\/
 (∃m i js,n=m+1/\sQ ops al L= .fork i js/\oq P g aU ih ops N al pre bF (fun L0 xB nV h0 yQ=>lY P g aU ih ops N al pre bF m L0 xB nV h0 yQ fun n1 L1 zI jw h1 zL=>
   iff (Oo js fun j=>oq P g aU ih ops N al pre bF (fun L0 xB nV h0 yQ=>lY P g aU ih ops N al pre bF m L0 xB nV h0 yQ (ED n1 L1 zI jw h1 zL)) j L rs env h nx) (k n1 L1 zI jw h1 zL)) i L rs env h nx=true):=by
 cases n with
 |zero=>
  change(match sQ ops al L with| .done=>k 0 L rs env h nx|_=>false)=true at hk
  cases hn:sQ ops al L<;>rw[hn]at hk<;>first|exact .inl ⟨rfl,hk⟩|cases hk
 |succ m=>
  have h0:lY P g aU ih ops N al pre bF (m+1) L rs env h nx k=(match sQ ops al L with
   | .done=>k (Nat.succ m) L rs env h nx
   | .float i=>fN i fun i=>au (aA ops.toList i) fun o=>uU ops.toList o env fun want=>Bool.casesOn want (lZ N env o.dst .undef fun env=>lY P g aU ih ops N al pre bF m (L.setIfInBounds i true) rs env h nx k)
      (LU P g o.op env h nx fun r h nx ids=>Uf h ids [] fun l=>fL (GV i l rs) fun rs=>lZ N env o.dst r fun env=>lY P g aU ih ops N al pre bF m (L.setIfInBounds i true) rs env h nx k)
   | .loud i=>oq P g aU ih ops N al pre bF (fun L rs env h nx=>lY P g aU ih ops N al pre bF m L rs env h nx k) i L rs env h nx
   | .fork i js=>oq P g aU ih ops N al pre bF (fun L0 xB nV h0 yQ=>lY P g aU ih ops N al pre bF m L0 xB nV h0 yQ fun n1 L1 zI jw h1 zL=>
      iff (Oo js fun j=>oq P g aU ih ops N al pre bF (fun L0 xB nV h0 yQ=>lY P g aU ih ops N al pre bF m L0 xB nV h0 yQ (ED n1 L1 zI jw h1 zL)) j L rs env h nx) (k n1 L1 zI jw h1 zL)) i L rs env h nx
   | .bad=>false):=rfl
  rw[h0]at hk
  cases hn:sQ ops al L with
  |done=>rw[hn]at hk;exact .inl ⟨rfl,hk⟩
  |bad=>rw[hn]at hk;cases hk
  |float i=>
   rw[hn]at hk
   dsimp only at hk
   rw[dY]at hk
   obtain⟨o,ho,hk⟩:=ah hk
   rw[aF]at ho
   exact .inr (.inl ⟨m,i,o,rfl,rfl,by simpa using ho,hk⟩)
  |loud i=>rw[hn]at hk;exact .inr (.inr (.inl ⟨m,i,rfl,rfl,hk⟩))
  |fork i js=>rw[hn]at hk;exact .inr (.inr (.inr ⟨m,i,js,rfl,rfl,hk⟩))
theorem aac {P:Program}{o:Oper}{a:Act}{w:World}{K:Act->World->Prop}{Q:Act->World->Prop}(h:o.wp P a w K (jY Q)): ∃a' w',K a' w':=by
 unfold Oper.wp Oper.upon at h
 split at h
 ·exact⟨_,_,h⟩
 ·exact⟨_,_,h⟩
 ·exact⟨_,_,h⟩
 ·obtain⟨e,w',fr,hR,_⟩:=h []
  cases e with
  |returned v=>exact⟨_,_,hR⟩
  |panicked chain=>exact hR.elim
  |outgrown=>obtain⟨_,_,hq⟩:=hR;exact hq.elim
 ·obtain⟨v,w',hR,_⟩:=h default []
  exact⟨_,_,hR⟩
 ·exact h.elim
 ·exact h.elim
theorem Ph {P:Program}{i:Nat}{a:Act}{w:World}{K:Act->World->Prop}{Q:Act->World->Prop}(h:wpOp P ops (jY Q) i K a w): ∃a' w',K a' w':=by
 unfold wpOp at h
 split at h
 ·exact⟨_,_,h⟩
 ·split at h
  ·rcases h with h|⟨_,_,_,hq⟩
   ·exact aac h
   ·exact hq.elim
  ·exact⟨_,_,h⟩
theorem Iz {bar:Bool}{Q:Act->World->Prop}: ∀(fuel:Nat){listed:Array Bool}{C:Nat->World->Prop}{a:Act}{w:World},iw P ops bar Q fuel listed C a w-> ∃a' w',Q a' w'
 |0,_,_,_,_,h=>⟨_,_,h.2.2⟩
 |fuel+1,listed,C,a,w,h=>by
  cases hr:Region.ready .any ops listed with
  |nil=>exact⟨_,_,h.2.1 hr⟩
  |cons i l=>
   obtain⟨a',w',C',_,h'⟩:=Ph (h.2.2 i (by rw[hr];simp))
   exact Iz fuel h'
theorem Iy {bar:Bool}{Q Q':Act->World->Prop}(hQ: ∀a w,Q a w->Q' a w): ∀{fuel:Nat}{listed:Array Bool}{C:Nat->World->Prop}{a:Act}{w:World},iw P ops bar Q fuel listed C a w->iw P ops bar Q' fuel listed C a w
 |0,_,_,_,_,h=>⟨h.1,h.2.1,hQ _ _ h.2.2⟩
 |_+1,_,_,_,_,h=>⟨h.1,fun h0=>hQ _ _ (h.2.1 h0),fun i hi=>wpOp_mono (fun _ _ ⟨C',hs,h⟩=>⟨C',hs,Iy hQ h⟩) (yx (fun e a w h=>by cases e<;>first|exact hQ _ _ h|exact h.elim) (h.2.2 i hi))⟩
theorem Lr {aU:jW}{ih:Run}(hO:vF P g w0 aU)(hI:vw P g w0 ih)(hs:Region.noSelect ops=true)(hAl: ∀i∈al,Q9 P ops bF pre i)
 (hdist: ∀i∈al,∀j∈al,i≠j-> ∀oi oj d,ops[i]?=some oi->ops[j]?=some oj->oi.dst=some d->oj.dst≠some d)
 (hcond: ∀j,j<ops.size->j∈al\/early ops al j=true\/late ops al j=true):
 ∀(M:Nat){Q:Act->World->Prop}{k:KR},(∀n L rs env h nx cl C ρ a w,k n L rs env h nx=true->zD ops al L=true->St D P g w0 N ops al bF pre ρ0 n L rs env h nx [] cl C ρ a w->iw P ops (barT ops) Q n cl C a w)->
 ∀(n:Nat)(pend:List Nat),n+pend.length=M-> ∀(L:Array Bool)(rs:RS)(env:Env)(h:Hp)(nx:Nat)(cl:Array Bool)(C:Nat->World->Prop)(ρ:Ren)(a:Act)(w:World),
  lY P g aU ih ops N al pre bF n L rs env h nx k=true->St D P g w0 N ops al bF pre ρ0 n L rs env h nx pend cl C ρ a w->iw P ops (barT ops) Q M cl C a w:=by
 intro M
 induction M with
 |zero=>
  intro Q k HK n pend hM L rs env h nx cl C ρ a w hk S
  obtain rfl:n=0:=by omega
  have hp:pend=[]:=List.length_eq_zero_iff.1 (by omega)
  subst hp
  rcases IX hk with⟨hn,hk⟩|⟨m,i,o,h0,_⟩|⟨m,i,h0,_⟩|⟨m,i,js,h0,_⟩
  ·exact HK _ _ _ _ _ _ _ _ _ _ _ hk (Dw hn) S
  ·omega
  ·omega
  ·omega
 |succ M IH0=>
  intro Q k HK n pend hM L rs env h nx cl C ρ a w hk S
  have IH:= @IH0 Q k HK
  have one: ∀{Q':Act->World->Prop}{k':KR}{m i:Nat},(∀n L rs env h nx cl C ρ a w,k' n L rs env h nx=true->zD ops al L=true->St D P g w0 N ops al bF pre ρ0 n L rs env h nx [] cl C ρ a w->iw P ops (barT ops) Q' n cl C a w)->
   n=m+1->i∈Region.ready .any ops L->early ops al i=true->oq P g aU ih ops N al pre bF (fun L rs env h nx=>lY P g aU ih ops N al pre bF m L rs env h nx k') i L rs env h nx=true->
   wpOp P ops (jY Q') i (fun a' w'=> ∃C':Nat->World->Prop,(∀m,sN ops m i=false-> ∀u,C' m u->C m u)/\iw P ops (barT ops) Q' M (cl.setIfInBounds i true) C' a' w') a w:=by
   intro Q' k' m i HK' h0 xP he hk2
   subst h0
   unfold oq at hk2
   rw[dY]at hk2
   obtain⟨o,ho,hk2⟩:=ah hk2
   rw[aF]at ho
   have ho:ops[i]?=some o:=by simpa using ho
   replace hk:=AL (ops:=ops) S.F hk2
   have hM':m+pend.length=M:=by omega
   unfold wpOp
   rw[ho]
   dsimp only
   cases hw:Region.wanted o (yielded ops a.tmps)with
   |false=>
    rw[hw]at hk
    obtain⟨env',hk,hF',hv⟩:=yN S.F GR.undef hk
    rw[if_neg (by simp)]
    exact⟨C,fun _ _ _ h=>h,IH0 HK' m pend hM' _ rs env' h nx _ C ρ _ w hk (S.step xP he hAl ho ⟨ρ.le_refl,Nat.le_refl _,fun _ _ _ h=>h⟩ S.H hF' hv S.pr S.PS S.Dh)⟩
   |true=>
    rw[hw]at hk
    rw[if_pos rfl]
    have on: ∀r x ρ' h' nx' w',ρ.le ρ'/\nx<=nx'/\(∀j,j<nx->j≠bF+i->ρ j=none->ρ' j=none)->HR P g w0 ρ' h' nx' w'->GR ρ' r x->(iff (EJ h' pre) (FC ops i h' rs fun rs=>lZ N env o.dst r fun env=>lY P g aU ih ops N al pre bF m (L.setIfInBounds i true) rs env h' nx' k'))=true->
     ∃C':Nat->World->Prop,(∀m,sN ops m i=false-> ∀u,C' m u->C m u)/\iw P ops (barT ops) Q' M (cl.setIfInBounds i true) C' (a.put o.dst x) w':=fun r x ρ' h' nx' w' hE H' hx hk'=>by
     refine⟨fun m u=>sN ops m i=false->C m u,fun m hm u h=>h hm,?_⟩
     obtain⟨hp,hk'⟩:=aj hk'
     obtain⟨rs',hk',hr1,hr2⟩:=Yd hk'
     obtain⟨env',hk',hF',hv⟩:=yN (S.F.mono hE.1) hx hk'
     exact IH0 HK' m pend hM' _ rs' env' h' nx' _ _ ρ' _ w' hk' (S.step xP he hAl ho hE H' hF' hv (Ls hp) hr1 fun ρ'' h'' qK w'' hl Oy q hq hd=>S.Dh ρ'' h'' qK w'' (hE.1.le_trans hl) Oy q fun p hp e=>hq p (hr2 p hp (by rw[e];exact hd)) e)
    dsimp only at hk
    split at hk
    ·rename_i t len parts hop
     obtain⟨ps,hk,hps⟩:=Ah S.H S.F hk
     rw[dY]at hk
     have hlt:i<ops.size:=(Array.getElem?_eq_some_iff.1 ho).1
     obtain⟨v,x,ρ',h',w',hk,hle,hkeep,H',hx,hrun⟩:=D9 S.H (r:=bF+i) (by have:=S.up;omega) (by have:=S.g0;omega) (S.bs i o ho (by simp[bsB,hop]) (mem_ready.1 xP).1) hps hk
     have hnext:=on v x ρ' h' nx w' ⟨hle,Nat.le_refl _,fun j _=>hkeep j⟩ H' hx hk
     refine .inl ?_
     obtain⟨dst,op,type,pos,after,guard⟩:=o
     dsimp only at hop
     subst hop
     unfold Oper.wp
     have e1:(List.map (fun p=>(p.1,a.eval p.2)) parts.toList).toArray=parts.map fun p=>(p.1,a.eval p.2):=by apply Array.ext';simp
     rw[e1]at hrun
     have e2:(execOp a.eval ({dst,op:= .buildSlice t len parts,type,pos,after,guard}:Oper)).run P w= .ok (.value x) w':=by
      show(Instr.buildSlice t len (parts.map fun p=>(p.1,a.eval p.2))>>=fun v=>pure (Next.value v):Sem Next).run P w=_
      rw[Sem.run_bind,hrun];rfl
     rw[e2,Oper.upon_value]
     exact hnext
    ·exact .inl (P8 hO hI S.H S.F hk _ _ fun r x ρ' h' nx' w' ids hk' hE H' hx=>on r x ρ' h' nx' w' ⟨hE.le,hE.up,fun j hj _=>hE.keep j hj⟩ H' hx hk')
  have lay: ∀j∈pend,wpOp P ops (jY Q) j (fun a' w'=> ∃C':Nat->World->Prop,(∀m,sN ops m j=false-> ∀u,C' m u->C m u)/\iw P ops (barT ops) Q M (cl.setIfInBounds j true) C' a' w') a w:=fun j hj=>by
   obtain⟨oj,_,_,_,_,_,hoj,_⟩:=hAl j (S.sub j hj)
   have hj':j<ops.size:=(Array.getElem?_eq_some_iff.1 hoj).1
   refine YM (hAl j (S.sub j hj)) S.H S.g0 (by have:=S.up;omega) (S.Y0 j hj) S.pr fun o d w' ho hd H'=>⟨C,fun _ _ _ h=>h,?_⟩
   refine IH n (pend.erase j) ?_ L rs env h nx _ C _ _ w' hk (S.lay hAl hdist hj ho hd H')
   rw[List.length_erase_of_mem hj]
   have:0<pend.length:=List.length_pos_of_mem hj
   omega
  rcases IX hk with⟨hn,hk⟩|⟨m,i,o,h0,hn,ho,hk2⟩|⟨m,i,h0,hn,hk2⟩|⟨m,i,js,h0,hn,hk2⟩
  ·by_cases hp:pend=[]
   ·subst hp
    obtain rfl:n=M+1:=by simpa using hM
    exact HK _ _ _ _ _ _ _ _ _ _ _ hk (Dw hn) S
   ·refine⟨S.cw,fun h0=>?_,fun i hi=>?_⟩
    ·obtain⟨j,hj⟩:=List.exists_mem_of_ne_nil _ hp
     have:=S.EH hAl hj
     rw[h0]at this;cases this
    ·by_cases zO:i∈pend
     ·exact lay i zO
     ·exfalso
      obtain⟨hun,o,ho,hall⟩:=mem_ready.1 (S.yK hi zO)
      have hlt:=(Array.getElem?_eq_some_iff.1 ho).1
      have hE:=Dw hn
      simp only[zD,List.all_eq_true,List.mem_range,Bool.or_eq_true,Bool.not_eq_true']at hE
      have hE:=hE i hlt
      rw[hun]at hE
      rcases hcond i hlt with h1|h1|h1
      ·rw[S.Nb i h1]at hun;cases hun
      ·rw[h1]at hE;rcases hE with hE|hE<;>cases hE
      ·obtain⟨j,hj⟩:=List.exists_mem_of_ne_nil _ hp
       simp only[late,ho,List.all_eq_true]at h1
       have h1:=h1 j (S.sub j hj)
       unfold LV at h1
       rw[Array.any_eq_true']at h1
       obtain⟨e,he,h1⟩:=h1
       simp only[Bool.and_eq_true,beq_iff_eq]at h1
       obtain⟨_,o',ho',hall'⟩:=mem_ready.1 hi
       rw[ho]at ho';cases ho'
       have h2:=hall' e he h1.1
       rw[h1.2]at h2
       have h3:=S.Y1 j hj
       have hjlt:j<cl.size:=by
        rcases Nat.lt_or_ge j cl.size with h'|h'
        ·exact h'
        ·simp[Array.getElem?_eq_none h']at h3
       simp[hjlt]at h2 h3
       rw[h2]at h3;cases h3
  ·
   subst h0
   obtain⟨hr,he,hf,hb⟩:=Vu hn
   obtain⟨zO,hic⟩:=S.yJ hr he
   replace hk:=AL (ops:=ops) S.F hk2
   have hfree: ∀j oj,ops[j]?=some oj->j≠i->cl.getD j true=false->(∀e∈oj.after,Region.binds .any e=true->e.on≠i)->o.apart ops oj=true:=fun j oj hj hji hun hno=>by
    by_cases hjp:j∈pend
    ·simp only[early,ho,List.all_eq_true,Bool.and_eq_true]at he
     have:=(he j (S.sub j hjp)).2
     rw[hj]at this;exact this
    ·exact Region.free_spec ho hf j oj hj hji (by rw[S.rel j hjp];exact hun) hno
   have hbar:Iu ops (barT ops) cl:=fun hB=>by
    have hsz:0<ops.size:=Nat.lt_of_le_of_lt (Nat.zero_le _) (Array.getElem?_eq_some_iff.1 ho).1
    have hu:=hb hB
    have hzp:ops.size-1∉pend:=fun hp=>by rw[S.Nb _ (S.sub _ hp)]at hu;cases hu
    exact⟨ops.size-1,ops[ops.size-1]'(by omega),by simp,by rw[<-S.rel _ hzp];exact hu,Oi hB⟩
   have hM':m+pend.length=M:=by omega
   cases hw:Region.wanted o (yielded ops a.tmps)with
   |false=>
    rw[hw]at hk
    obtain⟨env',hk,hF',hv⟩:=yN S.F GR.undef hk
    refine o9 ho (Region.noSelect_spec hs) M cl C a w hfree S.cw S.clo hbar hic (.inr ⟨hw,rfl⟩) ?_
    exact IH m pend hM' _ rs env' h nx _ C ρ _ w hk (S.step hr he hAl ho ⟨ρ.le_refl,Nat.le_refl _,fun _ _ _ h=>h⟩ S.H hF' hv S.pr S.PS S.Dh)
   |true=>
    rw[hw]at hk
    obtain⟨r,x,ρ',h',nx',ids,hk,hE,hx,hnn,hmono,hH,hrun⟩:=Vl S.H S.F hk
    obtain⟨l,hk,_,q2,q3⟩:=aaS hk
    rw[eP]at hk
    obtain⟨env',hk,hF',hv⟩:=yN (S.F.mono hE.le) hx hk
    let C':Nat->World->Prop:=fun q u=>C q u/\(q=i-> ∀id∈ids,∀o,h.get id=some o->Ob P ρ id o u)
    have hC': ∀q,C' q w:=fun q=>⟨S.cw q,fun _ id hid o ho=>S.H.objs id o ho (hnn id hid)⟩
    refine Ci (C:=C') (fun _ _ h=>h.1) ?_
    refine o9 ho (Region.noSelect_spec hs) M cl C' a w hfree hC' S.clo hbar hic (.inl ⟨hw,fun u hu=>hrun u (hu.2 rfl)⟩) ?_
    refine IH m pend hM' _ _ env' h' nx' _ C' ρ' _ w hk (S.step hr he hAl ho ⟨hE.le,hE.up,fun j hj _=>hE.keep j hj⟩ (hH w S.H) hF' hv (fun p hp=>hmono _ _ (S.pr p hp)) (fun p hp=>?_) fun ρ'' h'' qK w'' hl Oy q hrs=>⟨?_,fun e id hid ob hob=>?_⟩)
    ·rcases DC.1 hp with⟨_,h1⟩|h1
     ·rcases q3 _ h1 with h1|h1
      ·cases h1
      ·exact h1
     ·exact hmono _ _ (S.PS p h1)
    ·exact S.Dh ρ'' h'' qK w'' (hE.le.le_trans hl) Oy q fun p hp e=>hrs p (DC.2 (.inr hp)) e
    ·obtain⟨ob',ho',hm⟩:=q2 id hid
     have e1:=hmono _ _ hob
     rw[ho']at e1;cases e1
     have hget:=hrs (i,(id,ob)) (DC.2 (.inl ⟨rfl,hm⟩)) e.symm
     obtain⟨y,hy⟩:=Option.ne_none_iff_exists'.1 (hnn id hid)
     have hle:=hE.le.le_trans hl
     exact(S.H.objs id _ hob (hnn id hid)).back hle (Oy.ob hget (hle _ _ hy))
  ·
   obtain⟨hr,he⟩:=XR hn
   have xP:i∈Region.ready .any ops L:=by rw[hr];simp
   obtain⟨zO,hic⟩:=S.yJ xP he
   refine⟨S.cw,fun h0=>(by rw[h0]at hic;cases hic),fun j hj=>?_⟩
   by_cases hjp:j∈pend
   ·exact lay j hjp
   ·have hj':=S.yK hj hjp
    rw[hr]at hj'
    obtain rfl:j=i:=by simpa using hj'
    exact one HK h0 xP he hk2
  ·
   obtain⟨hr,hal⟩:=XT hn
   have hnp: ∀j,j∉pend:=fun j hj=>by have:=S.sub j hj;rw[hal]at this;cases this
   have FP: ∀j∈Region.ready .any ops L,early ops al j=true:=fun j hj=>by
    obtain⟨_,o,ho,_⟩:=mem_ready.1 hj
    simp[early,ho,hal]
   have xP:i∈Region.ready .any ops L:=by rw[hr];simp
   obtain⟨_,hic⟩:=S.yJ xP (FP i xP)
   refine⟨S.cw,fun h0=>(by rw[h0]at hic;cases hic),fun j hj=>?_⟩
   have hj':=S.yK hj (hnp j)
   have hj2:=hj'
   rw[hr]at hj2
   cases hj2 with
   |head=>exact one (fun n L rs env h nx cl C ρ a w hk=>HK n L rs env h nx cl C ρ a w (aj hk).2) h0 xP (FP _ xP) hk2
   |tail _ hj2=>
    have h1:=one (Q':=fun _ _=> ∃n1 L1 zI jw h1 zL,(iff (Oo js fun j=>oq P g aU ih ops N al pre bF (fun L0 xB nV h0 yQ=>lY P g aU ih ops N al pre bF m L0 xB nV h0 yQ (ED n1 L1 zI jw h1 zL)) j L rs env h nx) (k n1 L1 zI jw h1 zL))=true)
     (fun n L rs env h nx cl C ρ a w hk hE S=>by
       have:=HK n L rs env h nx cl C ρ a w (aj hk).2 hE S
       exact Iy (fun _ _ _=>⟨_,_,_,_,_,_,hk⟩) this) h0 xP (FP _ xP) hk2
    obtain⟨a1,w1,C1,_,h1⟩:=Ph h1
    obtain⟨_,_,n1,L1,zI,jw,h1,zL,h2⟩:=Iz M h1
    obtain⟨h3,h4⟩:=aj h2
    exact one (fun n L rs env h nx cl C ρ a w hk hE S=>by
     obtain⟨rfl,rfl,rfl,rfl,rfl,rfl⟩:=Xv hk
     exact HK _ _ _ _ _ _ cl C ρ a w h4 hE S) h0 hj' (FP j hj') (aaR h3 j hj2)
end
end bC
end Go.Proofs.YtakhobfamnjnoaaGreatDoor
