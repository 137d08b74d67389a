/- The machine's answer for the keys in order tells the truth. -/
import Derived.Test.YtakhobfamnjnoaaGreatDoorC48
import Derived.Test.YtakhobfamnjnoaaGreatDoorC37
set_option linter.unusedVariables false
set_option linter.unusedSimpArgs false
namespace Go.Proofs.YtakhobfamnjnoaaGreatDoor
section
namespace bU
open Go Go.RowKit
section
variable {P:Program} {g:Nat} {w0:World} {ρ:Ren} {h:Hp} {nx:Nat} {w:World}
theorem HR.grown (H:HR P g w0 ρ h nx w){w':World}(hk:Kept none' w w'):HR P g w0 ρ h nx w':=by
 have hs:=hk.size
 have h0:=H.kept.size
 exact⟨H.fresh,H.tV,fun id o ho hn=>(H.objs id o ho hn).frame fun b _ hb=>hk.block b hb (fun h=>h),H.inj,H.own,fun id b hid=>Nat.lt_of_lt_of_le (H.lt id b hid) hs,
  ⟨hk.os.trans H.kept.os,hk.tape.trans H.kept.tape,hk.output.trans H.kept.output,Nat.le_trans h0 hs,fun k hk'=>(hk.block k (by omega) (fun h=>h)).trans (H.kept.block k hk')⟩,H.glob,H.hfr⟩
theorem HR.adopt (H:HR P g w0 ρ h nx w){w':World}(hk:Kept none' w w'){gb cap:Nat}(hg:w.heap.size<=gb)(hlt:gb<w'.heap.size){o:AO}{h':Hp}(hh: ∀m,h'.get m=if m=nx then some o else h.get m)
 (ho: ∀ρ',ρ.le ρ'->ρ' nx=some (.blk gb 0 cap)->Ob P ρ' nx o w'): ∃ρ',Ext nx (nx+1) ρ ρ'/\ρ' nx=some (.blk gb 0 cap)/\HR P g w0 ρ' h' (nx+1) w':=by
 have Hg:=H.grown hk
 have hle:=Ren.kT (H.fresh nx (Nat.le_refl _)) (.blk gb 0 cap)
 have hb: ∀id b,jw (ρ.put nx (.blk gb 0 cap)) id b->(id=nx/\b=gb)\/(id≠nx/\jw ρ id b):=fun id b ⟨bs,cp,hb⟩=>by
  unfold Ren.put at hb
  split at hb
  ·rename_i e;cases hb;exact .inl ⟨e,rfl⟩
  ·exact .inr ⟨by assumption,_,_,hb⟩
 have hle0:w0.heap.size<=w.heap.size:=H.kept.size
 refine⟨_,Ext.put (H.fresh nx (Nat.le_refl _)) _,Ren.fA _ _ _,⟨fun id hid=>?_,by have:=H.tV;omega,fun id p hp hn=>?_,fun i j oi oj b hi hj bi bj=>?_,fun id b hid hg=>?_,fun id b hid=>?_,Hg.kept,fun i hi=>(H.glob i hi).imp fun _ h=>hle _ _ h,fun id hid=>by rw[hh,if_neg (by omega)];exact H.hfr id (by omega)⟩⟩
 ·unfold Ren.put;rw[if_neg (by omega)];exact H.fresh id (by omega)
 ·rw[hh]at hp
  split at hp
  ·rename_i e;cases hp;subst e;exact ho _ hle (Ren.fA _ _ _)
  ·rename_i hne;rw[Ren.kD hne]at hn;exact(Hg.objs id p hp hn).mono hle
 ·rcases hb _ _ bi with⟨ei,eb⟩|⟨ni,bi⟩<;>rcases hb _ _ bj with⟨ej,eb'⟩|⟨nj,bj⟩
  ·rw[ei,ej]
  ·exact absurd (H.lt _ _ bj) (by omega)
  ·exact absurd (H.lt _ _ bi) (by omega)
  ·rw[hh,if_neg ni]at hi
   rw[hh,if_neg nj]at hj
   exact H.inj i j _ _ b hi hj bi bj
 ·rcases hb _ _ hid with⟨_,eb⟩|⟨_,hid⟩
  ·omega
  ·exact H.own id b hid hg
 ·rcases hb _ _ hid with⟨_,eb⟩|⟨_,hid⟩
  ·omega
  ·exact Hg.lt id b hid
end
theorem NU (x:Int): ∀l:List Int,(insL x l).Perm (x::l)
 |[]=> .refl _
 |y::r=>by
  unfold insL
  split
  ·exact .refl _
  ·exact((NU x r).cons y).trans (.swap x y r)
theorem II: ∀l:List Int,(sortL l).Perm l
 |[]=> .refl _
 |x::r=>(NU x _).trans ((II r).cons x)
theorem Nb: ∀{l:List Int},I5 l=true->l.Pairwise fun x y=>fF x y=true
 |[],_=> .nil
 |x::r,h=>by
  simp only[I5,Bool.and_eq_true,List.all_eq_true]at h
  exact .cons h.1 (Nb h.2)
theorem Oo {clock:Nat}: ∀{l:List Nat},Ky clock l=true->l.Nodup/\ ∀b∈l,b<clock
 |[],_=>⟨.nil,fun _ h=>by cases h⟩
 |x::r,h=>by
  simp only[Ky,Bool.and_eq_true,List.all_eq_true,Bool.not_eq_true']at h
  obtain⟨h1,h2⟩:=Oo h.2.2
  refine⟨List.nodup_cons.2 ⟨fun hm=>?_,h1⟩,fun b hb=>?_⟩
  ·exact qA (h.1 x hm) rfl
  ·rcases List.mem_cons.1 hb with rfl|hb
   ·exact aT h.2.1
   ·exact h2 b hb
theorem ZG {ρ:Ren}{es:List ME}{xs:List MapEntry}(hx:F2 (GE ρ) es xs): ∀{k:List Int->Bool},intsOf es k=true-> ∃(ks:List Int)(L:List T3),k ks=true/\xs=L.map ent/\L.map (·.1)=ks/\L.map (·.2.2)=es.map (·.born):=by
 induction hx with
 |nil=>intro k hk;exact⟨[],[],hk,rfl,rfl,rfl⟩
 | @cons e x l m he _ ih=>
   intro k hk
   change(match e.key with| .c (.int .i64 n)=>intsOf l fun l=>k (n::l)|_=>false)=true at hk
   split at hk
   ·rename_i n hn
    obtain⟨ks,L,h1,h2,h3,h4⟩:=ih hk
    have hk1:=he.1
    rw[hn]at hk1
    obtain⟨xk,xv,xb⟩:=x
    cases hk1 with
    |c hk1=>
     cases hk1
     refine⟨n::ks,(n,xv,xb)::L,h1,by rw[h2];rfl,by simp[h3],?_⟩
     have:xb=e.born:=he.2.2
     simp[h4,this]
   ·cases hk
theorem abz {ss:List Int}(h:keysB ss=true):ED (ss.map fun k=>(k,((0:Int),([]:List Int)))):=by
 simp only[keysB,Bool.and_eq_true,List.all_eq_true,decide_eq_true_eq]at h
 obtain⟨⟨h1,h2⟩,h3⟩:=h
 refine⟨?_,fun p hp=>?_,fun p hp=>?_,fun gg=>?_⟩
 ·unfold qJ;rw[List.pairwise_map];exact Nb h1
 ·obtain⟨k,hk,rfl⟩:=List.mem_map.1 hp;exact h2 k hk
 ·obtain⟨k,hk,rfl⟩:=List.mem_map.1 hp
  exact⟨show aO 0 from⟨by decide,by decide⟩,fun _ h=>(by cases h),Nat.zero_le _⟩
 ·unfold jR
  refine Nat.le_trans List.countP_le_length ?_
  rw[List.length_map]
  exact aT h3
theorem cells2:Tryz.prog.cellsOf 2=1:=by kernel_rfl
theorem abA {w0:World}{args:List AV}{h:Hp}{nx:Nat}{k:KV}(hk:keysA args h nx k=true){ρ:Ren}{w:World}{xs:List Value}(H:HR Tryz.prog 8 w0 ρ h nx w)(hx:F2 (GA ρ) args xs):AX Tryz.prog 8 w0 ρ nx 309 xs w k:=by
 unfold keysA at hk
 split at hk
 case h_2=>cases hk
 rename_i id bf
 replace hk:=aj hk
 obtain⟨hbf,hk⟩:=hk
 replace hk:=ah hk
 obtain⟨o,ho,hk⟩:=hk
 split at hk
 case h_2=>cases hk
 rename_i f c
 replace hk:=aj hk
 obtain⟨hf,hk⟩:=hk
 replace hk:=ah hk
 obtain⟨oc,hoc,hk⟩:=hk
 split at hk
 case h_2=>cases hk
 rename_i m e
 replace hk:=ah hk
 obtain⟨om,Vw,hk⟩:=hk
 cases om<;>try(cases hk;done)
 rename_i es clock
 dsimp only at hk
 replace hk:=aj hk
 obtain⟨hborn,hk⟩:=hk
 have hbf:=aQ hbf
 have hf:=aQ hf
 subst hbf hf
 cases hx with
 |cons h1 t=>cases t with
  |cons h2 t=>cases t with
   |nil=>
    cases h2 with
    |c h2=>
     cases h2
     cases h1 with
     |c h1=>cases h1 with
      |clo hr=>
       cases H.ob ho hr with
       | @clo _ _ _ _ X Y hr' hX hY=>
         rw[hr]at hr';cases hr'
         cases hX
         cases hY with
         |cons hp t=>cases t with
          |nil=>
           cases hp with
           |c hp=>cases hp with
            | @ptr _ bc base cap _ hrc=>
              cases H.ob hoc hrc with
              | @row _ b' base' cap' _ _ _ cs afK hhc hcl hcap hsz hm=>
                rw[hrc]at afK;cases afK
                have hb0:=(hcap 0 rfl).2 rfl
                subst hb0
                obtain⟨vm,hvm,hcm⟩:=hcl 0 _ rfl
                cases hvm with
                | @mp _ bm bsm cpm hrm=>
                  obtain⟨ys,hhm,hys⟩:=(H.ob Vw hrm).lD hrm
                  obtain⟨ks,L,hk,hL,hks,hbs⟩:=ZG hys hk
                  rw[iF]at hk
                  replace hk:=aj hk
                  obtain⟨hkb,hk⟩:=hk
                  obtain⟨n1,n2⟩:=Oo hborn
                  have hT:=abz hkb
                  generalize hss:sortL ks=ss at hk hkb hT
                  have hperm:ss.Perm ks:=by rw[<-hss];exact II ks
                  have htk:iK (ss.map fun k=>(k,((0:Int),([]:List Int))))=ss:=by unfold iK;rw[List.map_map];exact List.map_id' ss
                  have hml:zO w bm (L.map kv):=by
                   refine⟨L,clock,⟨by rw[hhm,hL],?_,by rw[hbs];exact n1,fun t ht=>n2 _ (by rw[<-hbs];exact List.mem_map.2 ⟨t,ht,rfl⟩)⟩,rfl⟩
                   rw[hks]
                   refine hperm.nodup_iff.1 ?_
                   rw[<-htk]
                   exact hT.rises.nodup
                  have hkv:(L.map kv).map (·.1)=ks:=by rw[List.map_map,<-hks];rfl
                  have hcall:=Wn bm bc _ (L.map kv) w hml (by rw[hkv,htk];exact hperm.symm) hT (by rw[rQ hhc];exact hcm)
                  rw[htk]at hcall
                  refine Calls.mono hcall fun en w' ⟨v,hen,hown,hnil,hkept⟩=>?_
                  cases ss with
                  |nil=>
                   obtain rfl:=hnil.2 rfl
                   exact⟨_,_,ρ,h,nx,hen,hk,Ext.refl _ _,H.grown hkept, .c .bZ⟩
                  |cons s0 sr=>
                   dsimp only at hk
                   replace hk:=Tr.bJ hk
                   obtain⟨h',hk,hh'⟩:=hk
                   obtain⟨hlen,⟨_,h0⟩|⟨gb,cap2,cur,rfl,hge,hgh,hnc,hcm2,hcs,htake⟩⟩:=hown
                   ·simp at h0
                   have hlt:gb<w'.heap.size:=(Array.getElem?_eq_some_iff.1 hgh).1
                   have hOb: ∀ρ':Ren,ρ.le ρ'->ρ' nx=some (.blk gb 0 cap2)->Ob Tryz.prog ρ' nx (.row ((s0::sr).map fun n=>CV.int .i64 n) 2 none) w':=fun ρ' hle hrn=>by
                    refine .row hrn hgh (fun j cv hj=>?_) (fun _ h=>by cases h) (by rw[cells2,hcs];omega) hcm2
                    rw[List.getElem?_map,Option.map_eq_some_iff]at hj
                    obtain⟨z,hz,rfl⟩:=hj
                    refine⟨_, .int _ _,?_⟩
                    have hjl:j<(s0::sr).length:=(List.getElem?_eq_some_iff.1 hz).1
                    have h3:(cur.toList.take ((s0::sr).length*1))[j]?=some (.int .i64 z):=by rw[htake];unfold ints;rw[List.getElem?_map,hz];rfl
                    rw[List.getElem?_take,if_pos (by omega)]at h3
                    rw[Nat.zero_add,<-Array.getElem?_toList];exact h3
                   obtain⟨ρ',hE,hr',H'⟩:=H.adopt hkept (cap:=cap2) hge hlt hh' hOb
                   rw[aI]at hk
                   have G1:=G.sl (ρ:=ρ') 0 (s0::sr).length 0 none hr' (by simpa using hnc) (by simpa using hcm2) (by simp)
                   refine⟨_,_,ρ',h',nx+1,hen,hk,hE,H', .c ?_⟩
                   simpa using G1
end bU
end
section
namespace bU
open Go Go.RowKit
theorem HR.grew {P:Program}{g:Nat}{w0:World}{ρ:Ren}{h:Hp}{nx:Nat}{w w':World}(H:HR P g w0 ρ h nx w)(hk:Below w.heap.size w w'):HR P g w0 ρ h nx w':=by
 have hs:=hk.size
 have h0:=H.kept.size
 exact⟨H.fresh,H.tV,fun id o ho hn=>(H.objs id o ho hn).frame fun b _ hb=>hk.block b hb,H.inj,H.own,fun id b hid=>Nat.lt_of_lt_of_le (H.lt id b hid) hs,
  ⟨hk.os.trans H.kept.os,hk.tape.trans H.kept.tape,hk.output.trans H.kept.output,Nat.le_trans h0 hs,fun k hk'=>(hk.block k (by omega)).trans (H.kept.block k hk')⟩,H.glob,H.hfr⟩
theorem PL: ∀{l:List CV}{k:List (List Nat)->Bool},acD l k=true-> ∃ss,k ss=true/\l=ss.map .str
 |[],k,hk=>⟨[],hk,rfl⟩
 |v::l,k,hk=>by
  cases v<;>try(cases hk;done)
  rename_i s
  obtain⟨ss,hk,e⟩:=PL (l:=l) (k:=fun ss=>k (s::ss)) hk
  exact⟨_,hk,by rw[e];rfl⟩
theorem abC (sep:List Nat)(l:List (List Nat)):(BQ sep l).map UInt8.ofNat=Lib.joinTail (sep.map UInt8.ofNat) (l.map fun s=>s.map UInt8.ofNat):=by
 induction l with
 |nil=>rfl
 |cons s l ih=>
  show(sep++(s++BQ sep l)).map UInt8.ofNat=_
  simp only[List.map_append,ih,Lib.joinTail,List.map_cons,List.flatten_cons,List.append_assoc]
theorem Rh (sep:List Nat)(l:List (List Nat)):(Xk sep l).map UInt8.ofNat=Lib.join (l.map fun s=>s.map UInt8.ofNat) (sep.map UInt8.ofNat):=by
 cases l with
 |nil=>rfl
 |cons s l=>rw[List.map_cons,Lib.join_cons,<-abC];show(s++BQ sep l).map _=_;rw[List.map_append]
theorem Ub {sep:List Nat}{l:List (List Nat)}(hs:small sep)(hl: ∀s∈l,small s):small (BQ sep l):=by
 induction l with
 |nil=>intro b hb;cases hb
 |cons s l ih=>
  intro b hb
  change b∈sep++(s++BQ sep l)at hb
  simp only[List.mem_append]at hb
  rcases hb with hb|hb|hb
  ·exact hs b hb
  ·exact hl s (.head _) b hb
  ·exact ih (fun s hs=>hl s (.tail _ hs)) b hb
theorem Uc {sep:List Nat}{l:List (List Nat)}(hs:small sep)(hl: ∀s∈l,small s):small (Xk sep l):=by
 cases l with
 |nil=>intro b hb;cases hb
 |cons s l=>
  intro b hb
  change b∈s++BQ sep l at hb
  simp only[List.mem_append]at hb
  rcases hb with hb|hb
  ·exact hl s (.head _) b hb
  ·exact Ub hs (fun s hs=>hl s (.tail _ hs)) b hb
theorem abD {w0:World}{args:List AV}{h:Hp}{nx:Nat}{k:KV}(hk:Xl args h nx k=true){ρ:Ren}{w:World}{xs:List Value}(H:HR Tryz.prog 8 w0 ρ h nx w)(hx:F2 (GA ρ) args xs):AX Tryz.prog 8 w0 ρ nx 95 xs w k:=by
 unfold Xl at hk
 split at hk
 case h_2=>cases hk
 rename_i id off len cut lim sep
 obtain⟨o,ho,hk⟩:=ah hk
 obtain⟨cells,hrow,hk⟩:=ah hk
 rw[iF]at hk
 obtain⟨hl,hk⟩:=aj hk
 rw[Bool.and_eq_true]at hl
 have hb:=aT hl.2
 have hl:=aQ hl.1
 rw[aI]at hl
 obtain⟨ss,hk,hss⟩:=PL hk
 rw[RQ]at hk
 obtain⟨hlen,hk⟩:=aj hk
 have hlen:=aT hlen
 rw[aI]at hlen
 cases hx with
 |cons h1 t=>cases t with
  |cons h2 t=>cases t with
   |nil=>cases h1 with
    |c h1=>cases h1 with
     | @sl _ b base cap _ _ _ _ hr q1 q2 q3=>cases h2 with
       |c h2=>cases h2 with
        |str _ hsep=>
         have hca:=(H.ob ho hr).ca hrow hr
         have hcs: ∀j s,ss[j]?=some s->small s/\w.cell? ⟨b,base+(off+j),none⟩=some (.string (ba s)):=fun j s hj=>by
          have h1:(List.take len (List.drop off cells))[j]?=some (.str s):=by rw[hss];simp[hj]
          have h2:cells[off+j]?=some (.str s):=by
           rw[List.getElem?_take]at h1
           split at h1
           ·rwa[List.getElem?_drop]at h1
           ·cases h1
          obtain⟨x,g1,g2⟩:=hca _ _ h2
          cases g1 with
          |str _ hs=>exact⟨hs,g2⟩
         have hsl:ss.length=len:=by rw[<-hl,hss];simp
         have hj:=Any.strings_Join Tryz.joinL Tryz.joinX b (base+off) (lim.getD (cap-cut)) (ss.map ba) (ba sep) w
          (fun j x hj=>by
            rw[List.getElem?_map]at hj
            obtain⟨s,hs,rfl⟩:=Option.map_eq_some_iff.1 hj
            rw[Nat.add_assoc];exact(hcs j s hs).2)
          (H.lt id b ⟨_,_,hr⟩) (by rw[List.length_map,hsl];exact Nat.le_trans hb (by decide)) (by rw[List.length_map,hsl];exact q1)
          (by
            have e:((ss.map ba).map fun x=>x.data.toList)=ss.map fun s=>s.map UInt8.ofNat:=by simp[ba]
            have e2:(ba sep).data.toList=sep.map UInt8.ofNat:=by simp[ba]
            rw[e,e2,<-Rh];simp;omega)
         have e:((ss.map ba).map fun x=>x.data.toList)=ss.map fun s=>s.map UInt8.ofNat:=by simp[ba]
         have e2:(ba sep).data.toList=sep.map UInt8.ofNat:=by simp[ba]
         rw[e,e2,<-Rh]at hj
         rw[List.length_map,hsl]at hj
         refine Calls.mono hj fun e w' ⟨h1,h2⟩=>?_
         exact⟨_,_,ρ,h,nx,h1,hk,Ext.refl _ _,H.grew h2, .c (.str _ (Uc hsep fun s hs=>by
          obtain⟨j,hj⟩:=List.getElem?_of_mem hs
          exact(hcs j s hj).1))⟩
theorem aaY {l:List AV}{k:RV->Bool}(hk:Ws l k=true){ρ:Ren}{xs:List Value}(hx:F2 (GA ρ) l xs): ∃r x,k r=true/\GR ρ r x/\ ∀w,(callFunc 288 xs.toArray).run Tryz.prog w= .ok (.value x) w:=by
 unfold Ws at hk
 split at hk
 ·cases hx with
  |cons h1 t=>cases t with
   |nil=>
    refine⟨_,_,hk,h1.rv,fun w=>?_⟩
    rw[run_callFunc_extern (P:=Tryz.prog) Tryz.func288 (by kernel_rfl) (by kernel_rfl) (by kernel_rfl) (e:=Extern.AbiNoEscape.same) (by kernel_rfl)]
    simp[Lib.run_noEscape]
 ·cases hk
theorem adH (w0:World):yO Tryz.prog 8 w0 Qn:=by
 intro f ans hf
 unfold Qn at hf
 split at hf
 ·cases hf;exact fun args k hk ρ xs hx=>ad3 hk hx
 ·cases hf;exact fun args k hk ρ xs hx=>aeg hk hx
 ·cases hf
  exact⟨⟨_,Tryz.func309,by kernel_rfl,by kernel_rfl⟩,fun args h nx k hk ρ w xs H hx=>abA hk H hx⟩
 ·cases hf
  exact⟨⟨_,Tryz.func95,by kernel_rfl,by kernel_rfl⟩,fun args h nx k hk ρ w xs H hx=>abD hk H hx⟩
 ·cases hf;trivial
 ·cases hf;exact fun args k hk ρ xs hx=>aaY hk hx
 ·cases hf
end bU
end
section
namespace bU
open Go Go.RowKit
theorem mixed:Tryz.prog.follows .mixedOrders=true:=by kernel_rfl
theorem known {f:FuncId}(hf:Qn f=none)(hk:aeP f [] (fun r _ _=>isTrue r)=true)(w:World)(hg:8<=w.heap.size):Calls Tryz.prog f #[] w (Gives w (.bool true)):=by
 refine Calls.mono (closed (g:=8) mixed (adH w) hg (args:=[]) (xs:=[]) (fun _=> .nil) hk hf) fun e w' ⟨r,x,ρ,h,nx,he,hr,H,hx⟩=>?_
 unfold isTrue at hr
 split at hr
 ·cases hx with
  |c hx=>
   cases hx
   exact⟨he,H.kept.os,H.kept.tape,H.kept.output,H.kept.size,fun k hk _=>H.kept.block k hk⟩
 ·cases hr
end bU
end
section
open Go
theorem bU.kn6:bU.aeP 6 [] (fun r _ _=>bU.isTrue r)=true:=by kernel_rfl
theorem aaQ (w:World)(hg:8<=w.heap.size):Calls Tryz.prog 6 #[] w (Gives w (.bool true)):=bU.known rfl bU.kn6 w hg
end
section
namespace Sx
open Go Go.RowKit _root_.Go.Proofs.Tryz
theorem aey {bx:{α:Type}->α->α}(hb: ∀{α:Type}(x:α),bx x=x):Ct prog 6 [] [] fun r h=>r= .a (.c (.p (.bool (bx true))))/\h=[]:=Ct.of func6 rfl rfl fun ρ O w xs H hx=>by
 cases hx
 refine(aaQ w H.sz).mono fun e w' h=>?_
 obtain⟨h1,h2⟩:=h
 exact⟨.bool true,h1,h2,fun _=>none, .a (.c (.p (.bool (bx true)))),fun _ _ h=>(by cases h),⟨rfl,rfl⟩, .a (.c (.p (by rw[hb];rfl)))⟩
end Sx
end
section
namespace Sx
open Go Go.RowKit _root_.Go.Proofs.Tryz
end Sx
end
section
namespace Sx
open Go Go.RowKit _root_.Go.Proofs.Tryz
def qG (w:World):Fz:=fun b=>match w.heap[b]? with|some (.cells cs _ _)=>some cs|_=>none
theorem aci {w:World}{b:Nat}{cs:Array Value}(h:qG w b=some cs): ∃e fr,w.heap[b]?=some (.cells cs e fr):=by
 unfold qG at h
 split at h
 ·rename_i h1
  cases h
  exact⟨_,_,h1⟩
 ·cases h
def GV (w:World):Ren:=⟨fun _ _=>none,qG w,fun _=>false⟩
def ae6:Own:=fun _ _ _=>False
theorem HR.start {P:Program}{w:World}(hw:8<=w.heap.size):HR P (GV w) [] ae6 w where
 ob i k o h:=by have:=cZ h;simp at this
 dj i k j l b h:=h.elim
 lt i k b h:=h.elim
 live i k b h:=h.elim
 fr i k _:=rfl
 on i k h:=by cases h
 sg i o h:=by rw[aJ]at h;simp at h
 of i _:=rfl
 fz b cs h:=⟨aci h,fun _ _ h=>h⟩
 sz:=hw
theorem Ct.gives {P:Program}{f:FuncId}{args:List AV}{b:Bool}(C:Ct P f args [] fun r h=>r= .a (.c (.p (.bool b)))/\h=[]){w:World}(hw:8<=w.heap.size){xs:List Value}(hx:F2 (GA (GV w)) args xs):Calls P f xs.toArray w (Gives w (.bool b)):=by
 refine(C.run (GV w) ae6 w xs (HR.start hw) hx).mono ?_
 rintro e w' ⟨T,r,x,ρ',h',O',he,⟨_,hr,_⟩,_,hfm,_,_,_,hg⟩
 subst hr
 cases hg with|a hg=>cases hg with|c hg=>cases hg with|p hg=>
  have hx:x= .bool b:=hg
  exact⟨by rw[he,hx],⟨hfm.os,hfm.tape,hfm.output,hfm.size,fun k hk _=>hfm.block k hk fun⟨_,_,h⟩=>h⟩⟩
end Sx
end
section
namespace Sx
open Go Go.RowKit Go.ChangeShapes Go.WideShapes Go.ChangeAt Go.Deep _root_.Go.Proofs.Tryz
theorem VP {w:World}{b o:Nat}{v:Value}(h:w.cell? ⟨b,o,none⟩=some v): ∃cs,qG w b=some cs/\cs[o]?=some v:=by
 unfold World.cell? at h
 split at h
 ·rename_i cs e fr h1
  refine⟨cs,by unfold qG;rw[h1],?_⟩
  simpa using h
 ·cases h
theorem ahc {w:World}{x:Addr}{v:Value}(h:w.cell? x=some v):x=⟨x.block,x.off,none⟩:=by
 unfold World.cell? at h
 split at h
 ·by_cases hs:x.spot.isSome=true
  ·rw[if_pos hs]at h;cases h
  ·have:x.spot=none:=by simpa using hs
   cases x;simp only at this;rw[this]
 ·cases h
theorem flat_get {α:Type}{f:α->List PV}{k:Nat}(hf: ∀x,(f x).length=k): ∀{l:List α}{j:Nat}{p:PV},(l.flatMap f)[j]?=some p-> ∃i r x,l[i]?=some x/\(f x)[r]?=some p/\r<k/\j=i*k+r
 |[],j,p,h=>by simp at h
 |x::l,j,p,h=>by
  rw[List.flatMap_cons]at h
  by_cases hj:j<k
  ·rw[List.getElem?_append_left (by rw[hf];exact hj)]at h
   exact⟨0,j,x,rfl,h,hj,by omega⟩
  ·rw[List.getElem?_append_right (by rw[hf];omega),hf]at h
   obtain⟨i,r,y,h1,h2,h3,h4⟩:=flat_get hf h
   exact⟨i+1,r,y,by simpa using h1,h2,h3,by rw[Nat.add_mul];omega⟩
section
variable {H:Type} (enc:TypeId×Value->H) (P:Program) (w:World)
def Opn {α:Type}(n:Nat)(t:TypeId)(f:α->List PV)(fit:α->Prop):Prop:=
 ∀cs x,DataW.trod enc P w 0 (fun _=>true) true n t cs=some x->(∀m∈x.1.weights P t,m<=reachBytes)-> ∃a,fit a/\F2 (GP (qG w)) (f a) cs
end
section
variable {H:Type} {enc:TypeId×Value->H} {P:Program} {w:World}
theorem y8 {α:Type}{t e:TypeId}{f:α->List PV}{fit:α->Prop}{k Kw n:Nat}(ht:P.underlying t=some (.slice e))(hk:P.cellsOf e=k)(hk0:0<k)(hf: ∀x,(f x).length=k)(hby:P.bytesOf e=Kw)(hb0:0<Kw)(ih: ∀m,m<n->Opn enc P w m e f fit):
 Opn enc P w n t (fun l:List α=>[.fz l.length (l.flatMap f)]) fun l=>l.length<4611686018427387904/\ ∀a∈l,fit a:=by
 intro cs x h hs
 rcases DataW.trod_slice ht h with⟨rfl,_⟩|⟨a,len,cap,els,rest,m,rfl,rfl,rfl,_,hl,hm,hlen,hel,_⟩
 ·exact⟨[],⟨by simp,fun _ h=>by cases h⟩, .cons ⟨none,0,rfl,Nat.le_refl _,Nat.zero_le _, .inl ⟨rfl,rfl⟩⟩ .nil⟩
 ·have hs1:len*Kw<=reachBytes:=by
   have:=hs ((els.length+rest.length)*Kw) (by simp[DataW.weights,ht,hby])
   exact Nat.le_trans (Nat.mul_le_mul_right _ (by omega)) this
  have hs2: ∀(i:Nat) y,els[i]?=some y-> ∀q∈y.1.weights P e,q<=reachBytes:=by
   intro i y hy q hq
   refine hs q ?_
   simp only[DataW.weights,ht,List.mem_cons,List.mem_append]
   right;left
   have: ∀l:List (DataW H×List MemPlace),y∈l->q∈DataW.weightsAll P e (l.map (·.1)):=by
    intro l
    induction l with
    |nil=>intro h;cases h
    |cons z l ih=>
     intro h
     simp only[List.map_cons,DataW.weightsAll,List.mem_append]
     cases h with
     |head=>exact .inl hq
     |tail _ h=>exact .inr (ih h)
   exact this els (List.mem_of_getElem? hy)
  have each: ∀i,i<len-> ∃x:α,fit x/\ ∃cs',F2 (GP (qG w)) (f x) cs'/\ ∀j,j<k->w.cell? (a.add (i*k+j))=cs'[j]?:=by
   intro i hi
   obtain⟨y,hy⟩: ∃y,els[i]?=some y:=⟨_,List.getElem?_eq_getElem (by omega)⟩
   have h1:=hel i hi
   rw[hk,hy]at h1
   obtain⟨c,hc,ht2⟩:=Option.bind_eq_some_iff.1 h1
   obtain⟨x,hx1,hx2⟩:=ih m (by omega) c y ht2 (hs2 i y hy)
   obtain⟨_,_,hcell⟩:=World.cells?_some hc
   refine⟨x,hx1,c,hx2,fun j hj=>?_⟩
   have h3:=hcell j hj
   rw[add_add]at h3
   exact h3
  have hreach:reachBytes=140737488351232:=by decide
  rcases Nat.eq_zero_or_pos len with h0|h0
  ·subst h0
   exact⟨[],⟨by simp,fun _ h=>by cases h⟩, .cons ⟨_,cap,rfl,hl,hm, .inl ⟨rfl,rfl⟩⟩ .nil⟩
  ·have hn:Nonempty α:=⟨(each 0 h0).choose⟩
   have ac9: ∀i,∃x:α,i<len->fit x/\ ∃cs',F2 (GP (qG w)) (f x) cs'/\ ∀j,j<k->w.cell? (a.add (i*k+j))=cs'[j]?:=fun i=>by
    by_cases hi:i<len
    ·obtain⟨x,hx⟩:=each i hi
     exact⟨x,fun _=>hx⟩
    ·exact⟨Classical.choice hn,fun h=>absurd h hi⟩
   have⟨O,hO⟩: ∃O:Nat->α,∀i,i<len->fit (O i)/\ ∃cs',F2 (GP (qG w)) (f (O i)) cs'/\ ∀j,j<k->w.cell? (a.add (i*k+j))=cs'[j]?:=⟨fun i=>(ac9 i).choose,fun i=>(ac9 i).choose_spec⟩
   have gp: ∀i,i<len-> ∀r p,(f (O i))[r]?=some p-> ∃v,w.cell? (a.add (i*k+r))=some v/\GP (qG w) p v:=by
    intro i hi r p hp
    obtain⟨_,cs',h1,h2⟩:=hO i hi
    obtain⟨v,hv,hg⟩:=fO h1 hp
    have hr:=(List.getElem?_eq_some_iff.1 hp).1
    rw[hf]at hr
    exact⟨v,by rw[h2 r hr,hv],hg⟩
   obtain⟨p0,hp0⟩: ∃p,(f (O 0))[0]?=some p:=⟨_,List.getElem?_eq_getElem (by rw[hf];exact hk0)⟩
   obtain⟨v0,hv0,_⟩:=gp 0 h0 0 p0 hp0
   have ea:=ahc hv0
   rw[show 0*k+0=0 by omega,Addr.add_zero']at ea
   obtain⟨arr,ha,_⟩: ∃cs,qG w a.block=some cs/\cs[a.off]?=some v0:=by
    rw[show 0*k+0=0 by omega,Addr.add_zero',ea]at hv0
    exact VP hv0
   refine⟨(List.range len).map O,⟨?_,fun x hx=>?_⟩, .cons ⟨some a,cap,by simp,by simpa using hl,hm, .inr ⟨a.block,a.off,arr,by rw[<-ea],ha,?_⟩⟩ .nil⟩
   ·rw[List.length_map,List.length_range]
    have:len<=len*Kw:=Nat.le_mul_of_pos_right _ hb0
    omega
   ·obtain⟨i,hi,rfl⟩:=List.mem_map.1 hx
    exact(hO i (List.mem_range.1 hi)).1
   ·refine nO.mk fun j p hp=>?_
    obtain⟨i,r,x,h1,h2,_,rfl⟩:=flat_get hf hp
    rw[List.getElem?_map]at h1
    obtain⟨i',hi',rfl⟩:=Option.map_eq_some_iff.1 h1
    obtain⟨hlt,rfl⟩:=List.getElem?_eq_some_iff.1 hi'
    simp only[List.length_range]at hlt
    simp only[List.getElem_range]at h2
    obtain⟨v,hv,hg⟩:=gp i hlt r p h2
    rw[ea,Addr.add_lit]at hv
    obtain⟨arr',ha',hc⟩:=VP hv
    rw[ha]at ha'
    cases ha'
    exact⟨v,hc,hg⟩
theorem qw {t:TypeId}{fs:Array Field}{n:Nat}{cs:List Value}{x:DataW H×List MemPlace}(ht:P.underlying t=some (.struct fs))(h:DataW.trod enc P w 0 (fun _=>true) true n t cs=some x)(hs: ∀m∈x.1.weights P t,m<=reachBytes):
 cs.length=P.cellsOf t/\ ∀(i:Nat)(fd:Field)(u:TypeId)(o k:Nat){α:Type}(f:α->List PV)(fit:α->Prop),fs[i]?=some fd->fd.type=u->fd.offset=o->P.cellsOf u=k->(∀m,m<n->Opn enc P w m u f fit)-> ∃a,fit a/\F2 (GP (qG w)) (f a) ((cs.drop o).take k):=by
 obtain⟨xs,m,rfl,rfl,hl,hxl,hf⟩:=DataW.trod_struct ht h
 refine⟨hl,fun i fd u o k α f fit hi hu ho hk ih=>?_⟩
 subst hu ho hk
 obtain⟨y,hy⟩: ∃y,xs[i]?=some y:=⟨_,List.getElem?_eq_getElem (by rw[hxl];exact(Array.getElem?_eq_some_iff.1 hi).1)⟩
 refine ih m (Nat.lt_succ_self _) _ y (by rw[hf i fd hi,hy]) fun q hq=>hs q ?_
 simp only[DataW.weights,ht]
 refine DataW.weights_mem_each (ts:=fs.toList.map (·.type)) (j:=i) (t:=fd.type) (d:=y.1) ?_ ?_ q hq
 ·rw[List.getElem?_map,Array.getElem?_toList,hi];rfl
 ·rw[List.getElem?_map,hy];rfl
theorem N7: ∀{l:List Ex},(∀x∈l,iG x)->vU l
 |[],_=>trivial
 |x::l,h=>⟨h x (.head _),N7 fun y hy=>h y (.tail _ hy)⟩
theorem aeY {n:Int}(h:(Lit.int .i64 n).wf=true):aO n:=by
 have h2:IntKind.i64.min<=n/\n<=9223372036854775807:=by simpa[Lit.wf]using h
 exact⟨by have:IntKind.i64.min= -9223372036854775808:=by decide
          omega,h2.2⟩
theorem ag8 {n:Int}(h:(Lit.int .u8 n).wf=true):0<=n/\n<=255:=by
 simp[Lit.wf,IntKind.min,IntKind.max,IntKind.signed,IntKind.bits]at h
 omega
theorem ny {t:TypeId}{n:Nat}(ht:P.underlying t=some (.int .i64)):Opn enc P w n t (fun x:Int=>[.int .i64 x]) aO:=fun cs x h _=>by
 obtain⟨z,hz,_,hw⟩:=DataW.trod_int ht h
 exact⟨z,aeY hw,by rw[hz];exact .cons rfl .nil⟩
theorem Qo {t:TypeId}{n:Nat}(ht:P.underlying t=some (.int .u8)):Opn enc P w n t (fun x:Int=>[.int .u8 x]) fun x=>0<=x/\x<=255:=fun cs x h _=>by
 obtain⟨z,hz,_,hw⟩:=DataW.trod_int ht h
 exact⟨z,ag8 hw,by rw[hz];exact .cons rfl .nil⟩
theorem adJ {t:TypeId}{n:Nat}(ht:P.underlying t=some .string):Opn enc P w n t (fun x:ByteArray=>[.str x]) fun x=>x.size<=maxLen:=fun cs x h _=>by
 obtain⟨s,hs,_,hz⟩:=DataW.trod_string ht h
 exact⟨s,hz,by rw[hs];exact .cons rfl .nil⟩
end
section
variable {H:Type} {enc:TypeId×Value->H} {w:World}
set_option maxRecDepth 100000
theorem afc (n:Nat):Opn enc prog w n 77 Au iG:=by
 induction n using Nat.strongRecOn with
 |ind n ih=>
  intro cs x h hs
  obtain⟨hl,hf⟩:=qw underlying77 h hs
  obtain⟨o,f0,h0⟩:=hf 0 _ 5 0 1 _ _ rfl rfl rfl (by kernel_rfl) fun _ _=>Qo underlying5
  obtain⟨z,f1,h1⟩:=hf 1 _ 2 1 1 _ _ rfl rfl rfl (by kernel_rfl) fun _ _=>ny underlying2
  obtain⟨l,f2,h2⟩:=hf 2 _ 75 2 1 _ _ rfl rfl rfl (by kernel_rfl) fun m hm=>y8 (k:=3) (Kw:=40) underlying75 (by kernel_rfl) (by omega) nH (by kernel_rfl) (by omega) fun q hq=>ih q (Nat.lt_trans hq hm)
  rw[show prog.cellsOf 77=3 by kernel_rfl]at hl
  match cs,hl with
  |[c0,c1,c2],_=>
   refine⟨.mk o z l,⟨f0.1,f0.2,f1,f2.1,N7 f2.2⟩,?_⟩
   rw[Au,lT]
   exact dR h0 (dR h1 h2)
theorem abg (n:Nat):Opn enc prog w n 79 y9 lS:=by
 intro cs x h hs
 obtain⟨hl,hf⟩:=qw underlying79 h hs
 obtain⟨u,f0,h0⟩:=hf 0 _ 9 0 1 _ _ rfl rfl rfl (by kernel_rfl) fun _ _=>adJ underlying9
 obtain⟨k,f1,h1⟩:=hf 1 _ 5 1 1 _ _ rfl rfl rfl (by kernel_rfl) fun _ _=>Qo underlying5
 obtain⟨l,f2,h2⟩:=hf 2 _ 74 2 1 _ _ rfl rfl rfl (by kernel_rfl) fun m _=>y8 (k:=1) (Kw:=8) underlying74 (by kernel_rfl) (by omega) (fun _=>rfl) (by kernel_rfl) (by omega) fun q _=>ny underlying3
 obtain⟨e,f3,h3⟩:=hf 3 _ 77 3 3 _ _ rfl rfl rfl (by kernel_rfl) fun m _=>afc m
 obtain⟨z,f4,h4⟩:=hf 4 _ 3 6 1 _ _ rfl rfl rfl (by kernel_rfl) fun _ _=>ny underlying3
 rw[show prog.cellsOf 79=7 by kernel_rfl]at hl
 match cs,hl with
 |[c0,c1,c2,c3,c4,c5,c6],_=>
  obtain⟨eo,en,ea⟩:=e
  refine⟨⟨u,k,l, .mk eo en ea,z⟩,⟨f2.1,f3,f2.2,f1.1,f1.2,f4,f0⟩,?_⟩
  exact dR h0 (dR h1 (dR h2 (dR h3 h4)))
theorem UY (n:Nat):Opn enc prog w n 24 (fun j:Jb=>[.int .i64 j.par, .fz j.nodes.length (dI j.nodes)]) gX:=by
 intro cs x h hs
 obtain⟨hl,hf⟩:=qw underlying24 h hs
 obtain⟨z,f0,h0⟩:=hf 0 _ 3 0 1 _ _ rfl rfl rfl (by kernel_rfl) fun _ _=>ny underlying3
 obtain⟨l,f1,h1⟩:=hf 1 _ 22 1 1 _ _ rfl rfl rfl (by kernel_rfl) fun m _=>y8 (k:=7) (Kw:=96) underlying22 (by kernel_rfl) (by omega) kJ (by kernel_rfl) (by omega) fun q _=>abg q
 rw[show prog.cellsOf 24=2 by kernel_rfl]at hl
 match cs,hl with
 |[c0,c1],_=>exact⟨⟨z,l⟩,⟨f1.1,f1.2,f0⟩,dR h0 h1⟩
theorem afb (n:Nat):Opn enc prog w n 39 (fun x:Int×Int×Int=>[.int .i64 x.1, .int .i64 x.2.1, .int .i64 x.2.2]) fun x=>aO x.1/\aO x.2.1/\aO x.2.2:=by
 intro cs x h hs
 obtain⟨hl,hf⟩:=qw underlying39 h hs
 obtain⟨a,f0,h0⟩:=hf 0 _ 3 0 1 _ _ rfl rfl rfl (by kernel_rfl) fun _ _=>ny underlying3
 obtain⟨b,f1,h1⟩:=hf 1 _ 2 1 1 _ _ rfl rfl rfl (by kernel_rfl) fun _ _=>ny underlying2
 obtain⟨c,f2,h2⟩:=hf 2 _ 2 2 1 _ _ rfl rfl rfl (by kernel_rfl) fun _ _=>ny underlying2
 rw[show prog.cellsOf 39=3 by kernel_rfl]at hl
 match cs,hl with
 |[c0,c1,c2],_=>exact⟨⟨a,b,c⟩,⟨f0,f1,f2⟩,dR h0 (dR h1 h2)⟩
theorem adK (n:Nat):Opn enc prog w n 41 wz mF:=by
 intro cs x h hs
 obtain⟨hl,hf⟩:=qw underlying41 h hs
 obtain⟨k,f0,h0⟩:=hf 0 _ 5 0 1 _ _ rfl rfl rfl (by kernel_rfl) fun _ _=>Qo underlying5
 obtain⟨a,f1,h1⟩:=hf 1 _ 2 1 1 _ _ rfl rfl rfl (by kernel_rfl) fun _ _=>ny underlying2
 obtain⟨b,f2,h2⟩:=hf 2 _ 2 2 1 _ _ rfl rfl rfl (by kernel_rfl) fun _ _=>ny underlying2
 obtain⟨⟨p,q,r⟩,f3,h3⟩:=hf 3 _ 39 3 3 _ _ rfl rfl rfl (by kernel_rfl) fun m _=>afb m
 obtain⟨j,f4,h4⟩:=hf 4 _ 24 6 2 _ _ rfl rfl rfl (by kernel_rfl) fun m _=>UY m
 rw[show prog.cellsOf 41=8 by kernel_rfl]at hl
 match cs,hl with
 |[c0,c1,c2,c3,c4,c5,c6,c7],_=>
  exact⟨⟨k,a,b,p,q,r,j⟩,⟨f0.1,f0.2,f1,f2,f3.1,f3.2.1,f3.2.2,f4⟩,dR h0 (dR h1 (dR h2 (dR h3 h4)))⟩
theorem Qp (n:Nat):Opn enc prog w n 27 (fun t:Tp=>[.int .i64 t.bytes, .int .i64 t.room, .int .i64 t.first.par, .fz t.first.nodes.length (dI t.first.nodes), .fz t.acts.length (jm t.acts)]) fV:=by
 intro cs x h hs
 obtain⟨hl,hf⟩:=qw underlying27 h hs
 obtain⟨a,f0,h0⟩:=hf 0 _ 2 0 1 _ _ rfl rfl rfl (by kernel_rfl) fun _ _=>ny underlying2
 obtain⟨b,f1,h1⟩:=hf 1 _ 2 1 1 _ _ rfl rfl rfl (by kernel_rfl) fun _ _=>ny underlying2
 obtain⟨j,f2,h2⟩:=hf 2 _ 24 2 2 _ _ rfl rfl rfl (by kernel_rfl) fun m _=>UY m
 obtain⟨l,f3,h3⟩:=hf 3 _ 25 4 1 _ _ rfl rfl rfl (by kernel_rfl) fun m _=>y8 (k:=8) (Kw:=80) underlying25 (by kernel_rfl) (by omega) kZ (by kernel_rfl) (by omega) fun q _=>adK q
 rw[show prog.cellsOf 27=5 by kernel_rfl]at hl
 match cs,hl with
 |[c0,c1,c2,c3,c4],_=>exact⟨⟨a,b,j,l⟩,⟨f0,f1,f2,f3.1,f3.2⟩,dR h0 (dR h1 (dR h2 h3))⟩
theorem aiv {ρ:Ren}{l:List PV}{xs:List Value}(h:F2 (GP ρ.fz) l xs):F2 (G ρ) (l.map .p) xs:=by
 induction h with
 |nil=>exact .nil
 |cons h _ ih=>exact .cons (.p h) ih
theorem Uw {w:World}{t:Tp}{cs:Array Value}(h:F2 (GP (qG w)) [.int .i64 t.bytes, .int .i64 t.room, .int .i64 t.first.par, .fz t.first.nodes.length (dI t.first.nodes), .fz t.acts.length (jm t.acts)] cs.toList):GA (GV w) (gV @I0 t) (.agg cs):=
by
 have g:=aiv (ρ:=GV w) h
 exact .agg (xs:=cs.toList) g
end
end Sx
end
section
namespace Sx
open Go Go.RowKit _root_.Go.Proofs.Tryz
theorem WL {w:World}(hw:8<=w.heap.size)(t u:Tp)(m:List UInt8)(hf:fV t)(hu:fV u){a b c:Value}(ha:GA (GV w) (gV @I0 t) a)(hb:GA (GV w) (gV @I0 u) b)(hc:c= .string (bs m)):Calls prog 3 #[a,b,c] w (Gives w (.bool true)):=by
 have C:=ahe (bx:= @I0) (fun _=>rfl) t u m hf hu adV (aey fun _=>rfl)
 exact Ct.gives C hw (xs:=[a,b,c]) (.cons ha (.cons hb (.cons (.c (.p hc)) .nil)))
end Sx
end
end Go.Proofs.YtakhobfamnjnoaaGreatDoor
