/- Tables in memory; how many keys of a group they have. -/
import Derived.Test.YtopeleenlcnkkaaGreatDoorM03
import Derived.Deep.LoopGhost
set_option linter.unusedVariables false
set_option linter.unusedSimpArgs false
set_option maxHeartbeats 400000
set_option maxRecDepth 100000
namespace Go.Proofs.YtopeleenlcnkkaaGreatDoor
section
open Go Go.RowKit
def ints (l:List Int):List Value:=l.map (Value.int .i64)
theorem o9 (l:List Int): ∀x∈ints l,x.oneCell'=true:=by
 intro x hx
 obtain⟨n,_,rfl⟩:=List.mem_map.1 hx
 rfl
@[simp] theorem NR (l:List Int):(ints l).length=l.length:=by simp[ints]
abbrev up (B:Nat):Nat->Prop:=fun k=>B<=k
theorem Kept.up {S:Nat->Prop}{w w':World}(h:Kept S w w'): ∀k,w'.heap.size<=k->up w.heap.size k:=fun _ hk=>Nat.le_trans h.size hk
def CellIs (w:World)(B:Nat->Prop)(v:Value)(c:Cell):Prop:=
 ∃lv,v= .agg #[.int .i64 c.1,lv]/\Reads w 1 lv (ints c.2)/\ ∀b,Value.blk lv=some b->B b
structure TabAt (w:World)(B:Nat->Prop)(b m:Nat)(T:Tab):Prop where
 hb:B b
 hm:B m
 obj:w.heap[b]?=some (.cells #[.map (some m)] 129 (0,0))
 map: ∃l,aQ w m l/\(l.map (·.1)).Perm (aO T)/\ ∀p∈l,∃c,(p.1,c)∈T/\CellIs w B p.2 c
 ok:dB T
theorem Reads.isCells {w:World}{v:Value}{cs:List Value}{k b:Nat}(h:Reads w k v cs)(hk:0<k)(hb:Value.blk v=some b): ∃c E f,w.heap[b]?=some (.cells c E f):=by
 obtain⟨a,n,cap,rfl,h1,h2,h3,h4⟩:=h
 have hn:n≠0:=by
  intro h;subst h
  cases a<;>simp[Value.blk]at hb
 have hlen:0<cs.length:=by rw[h3];exact Nat.mul_pos (by omega) hk
 rcases h4 with rfl|⟨b',off,rfl,h4⟩
 ·simp at hlen
 ·simp[Value.blk,hn]at hb
  subst hb
  have:=h4 0 (cs[0]) (by simp)
  unfold World.cell? at this
  split at this
  ·rename_i c E f he;exact⟨c,E,f,he⟩
  ·cases this
def iW (w:World)(S:Nat->Prop)(B:Nat->Prop):Prop:= ∀k,S k->B k->k<w.heap.size-> ∀c E f,w.heap[k]?≠some (.cells c E f)
theorem iW.none (w:World)(B:Nat->Prop):iW w none' B:=fun _ h=>h.elim
theorem iW.map {w:World}{m:Nat}{l:List (Int×Value)}(h:aQ w m l)(B:Nat->Prop):iW w (one m) B:=by
 intro k hk _ _ c E f e
 cases hk
 obtain⟨L,clock,h,_⟩:=h
 rw[h.heap]at e;cases e
theorem iW.iter {w:World}{r m:Nat}{l left:List (Int×Value)}(h:bJ w r m l left)(B:Nat->Prop):iW w (one r) B:=by
 intro k hk _ _ c E f e
 cases hk
 obtain⟨L,clock,seen,_,_,h,_⟩:=h
 rw[h]at e;cases e
theorem CellIs.kept {w w':World}{B:Nat->Prop}{v:Value}{c:Cell}{S:Nat->Prop}(h:CellIs w B v c)(hk:Kept S w w')(hS:iW w S B):CellIs w' B v c:=by
 obtain⟨lv,h1,h2,h3⟩:=h
 refine⟨lv,h1,h2.kept hk (fun b hb hs=>?_),h3⟩
 obtain⟨c,E,f,he⟩:=h2.isCells (by decide) hb
 exact hS b hs (h3 b hb) (Array.getElem?_eq_some_iff.1 he).1 c E f he
theorem CellIs.mono {w:World}{B B':Nat->Prop}{v:Value}{c:Cell}(h:CellIs w B v c)(hB: ∀k,B k->k<w.heap.size->B' k):CellIs w B' v c:=by
 obtain⟨lv,h1,h2,h3⟩:=h
 refine⟨lv,h1,h2,fun b hb=>hB b (h3 b hb) ?_⟩
 obtain⟨c,E,f,he⟩:=h2.isCells (by decide) hb
 exact(Array.getElem?_eq_some_iff.1 he).1
theorem TabAt.kept {w w':World}{B:Nat->Prop}{b m:Nat}{T:Tab}{S:Nat->Prop}(h:TabAt w B b m T)(hk:Kept S w w')(hS:iW w S B)(hm: ¬S m):TabAt w' B b m T:=by
 obtain⟨h1,h2,h3,⟨l,h4,h5,h6⟩,h7⟩:=h
 refine⟨h1,h2,hk.heap h3 (fun hs=>hS b hs h1 (Array.getElem?_eq_some_iff.1 h3).1 _ _ _ h3),⟨l,h4.kept hk hm,h5,fun p hp=>?_⟩,h7⟩
 obtain⟨c,hc,hcc⟩:=h6 p hp
 exact⟨c,hc,hcc.kept hk hS⟩
theorem TabAt.pure {w w':World}{B:Nat->Prop}{b m:Nat}{T:Tab}(h:TabAt w B b m T)(hk:Kept none' w w'):TabAt w' B b m T:=h.kept hk (.none _ _) (fun h=>h)
theorem TabAt.mono {w:World}{B B':Nat->Prop}{b m:Nat}{T:Tab}(h:TabAt w B b m T)(hB: ∀k,B k->k<w.heap.size->B' k):TabAt w B' b m T:=by
 obtain⟨h1,h2,h3,⟨l,h4,h5,h6⟩,h7⟩:=h
 have hm:m<w.heap.size:=h4.lt
 refine⟨hB b h1 (Array.getElem?_eq_some_iff.1 h3).1,hB m h2 hm,h3,⟨l,h4,h5,fun p hp=>?_⟩,h7⟩
 obtain⟨c,hc,hcc⟩:=h6 p hp
 exact⟨c,hc,hcc.mono hB⟩
theorem TabAt.cell {w:World}{B:Nat->Prop}{b m:Nat}{T:Tab}(h:TabAt w B b m T):w.cell? ⟨b,0,none⟩=some (.map (some m)):=by
 rw[cell_of_row w b 0 _ _ _ h.obj];rfl
theorem PE {T:Tab}{l:List Int}(h:l.Perm (aO T))(g:Int):l.countP (fun k=>grp k==g)=bG T g:=by
 rw[h.countP_eq]
 unfold aO bG
 rw[List.countP_map]
 rfl
def Gives (w:World)(v:Value)(e:Ending)(w':World):Prop:=e= .returned v/\Kept none' w w'
theorem yE (B:Nat->Prop)(b m:Nat)(T:Tab)(g:Int)(w:World)(h:TabAt w B b m T):
 Calls Tryz.prog 59 #[.pointer (some ⟨b,0,none⟩), .int .i64 g] w (Gives w (.int .i64 (bG T g))):=by
 have hcell:=h.cell
 obtain⟨l,hl,hperm,hcs⟩:=h.map
 obtain⟨w0,hrun,hit,hk0,hs0⟩:=hl.range (P:=Tryz.prog) Tryz.underlying127
 have oh:=h.ok.many g
 have IT:=Lib.hid hit
 have HS:=Lib.hid hs0
 have HP:=Lib.hid (PE hperm g)
 clear hit hs0 hperm hcs hl h
 go_enter Tryz.func59,Tryz.ntmps59
 go_wp2
 go_loopg [5] l.length (fun k i wr=> ∃left c,bJ wr w.heap.size m l left/\left.length=k/\i= .int .i64 ((c:Nat):Int)/\c+(left.map (·.1)).countP (fun k=>grp k==g)=bG T g/\Kept none' w wr)
 case atStart=>exact⟨l,0,IT.out,rfl,rfl,by rw[<-HP.out];simp,hk0⟩
 case round=>
  obtain⟨left,c,hit,hlen,rfl,hsum,hk⟩:=hrel
  have hc:c<=40:=by omega
  have A:=Lib.hid (And.intro hlen hsum)
  clear hlen hsum oh
  rcases hit.next (P:=Tryz.prog) 0 with⟨rfl,hrun⟩|⟨p,left',w2,hp,hrun,hit2,hk2,hs2,hen⟩
  ·clear hit
   go_wp2
   go_ret
   exact⟨fG (by have:=A.out.2;simp at this;omega),hk⟩
  ·clear hit
   have I2:=Lib.hid hit2
   have HP:=Lib.hid hp
   clear hit2 hs2 hp
   have hk3:Kept none' w w2:=hk.new hk2 (fun k hk e=>by unfold one at e;omega)
   clear hk2
   go_wp2_with (go_at_call 60;refine(uP _ _).mono ?_;rintro e w' ⟨rfl,rfl⟩)
   ·rename_i hg
    go_roundg left'.length
    case rel=>
     refine⟨left',c+1,I2.out,rfl,by go_num,?_,hk3⟩
     have h1:=(HP.out.map (·.1)).countP_eq (fun k=>grp k==g)
     rw[List.map_cons,List.countP_cons,if_pos hg]at h1
     have h2:=A.out.2
     omega
    case measure=>
     have h1:=HP.out.length_eq
     have h2:=A.out.1
     simp at h1
     omega
   ·rename_i hg
    go_roundg left'.length
    case rel=>
     refine⟨left',c,I2.out,rfl,rfl,?_,hk3⟩
     have h1:=(HP.out.map (·.1)).countP_eq (fun k=>grp k==g)
     rw[List.map_cons,List.countP_cons,if_neg (by rw[hg];simp)]at h1
     have h2:=A.out.2
     omega
    case measure=>
     have h1:=HP.out.length_eq
     have h2:=A.out.1
     simp at h1
     omega
theorem new_any (w:World):Calls Tryz.prog 54 #[] w fun e w'=> ∃b m,e= .returned (.pointer (some ⟨b,0,none⟩))/\TabAt w' (up w.heap.size) b m []/\Kept none' w w':=by
 have hmm:= @run_makeMap Tryz.prog
 go_enter Tryz.func54,Tryz.ntmps54
 go_wp2
 go_ret
 refine⟨w.heap.size+1,w.heap.size,rfl,⟨Nat.le_succ _,Nat.le_refl _,?_,⟨[],?_,by simp[aO],by simp⟩,⟨by simp[bT],by simp,by simp,fun g=>by simp[bG]⟩⟩,?_⟩
 ·have:=heap_alloc_new (w.alloc (.map #[] 0)) (.cells #[.map (some w.heap.size)] 129)
  rwa[World.size_alloc]at this
 ·exact(aQ.made w).kept ((Kept.refl none' _).alloc _) (fun h=>h)
 ·exact((Kept.refl none' _).alloc _).alloc _
end
section
structure Rec where
 pos:Int
 key:Int
 val:Int
deriving DecidableEq
instance:Inhabited Rec:=⟨⟨0,0,0⟩⟩
def Same (L M:List Rec):Prop:= ∀p:Int,L.filter (fun r=>r.pos==p)=M.filter (fun r=>r.pos==p)
def Sorted (L:List Rec):Prop:=L.Pairwise fun a b=>a.pos<=b.pos
theorem Same.refl (L:List Rec):Same L L:=fun _=>rfl
theorem Same.symm {L M:List Rec}(h:Same L M):Same M L:=fun p=>(h p).symm
theorem Same.trans {L M N:List Rec}(h:Same L M)(k:Same M N):Same L N:=fun p=>(h p).trans (k p)
theorem Same.append {L L' M M':List Rec}(h:Same L L')(k:Same M M'):Same (L++M) (L'++M'):=fun p=>by rw[List.filter_append,List.filter_append,h p,k p]
theorem Same.mem {L M:List Rec}(h:Same L M){r:Rec}:r∈L↔r∈M:=by
 have e: ∀K:List Rec,r∈K↔r∈K.filter (fun x=>x.pos==r.pos):=fun K=>by simp
 rw[e L,e M,h r.pos]
theorem Same.nil {L:List Rec}(h:Same [] L):L=[]:=by
 cases L with
 |nil=>rfl
 |cons x L=>exact absurd (h.mem.2 (List.mem_cons_self (a:=x) (l:=L))) (by simp)
theorem Same.comm {A B:List Rec}(h: ∀a∈A,∀b∈B,a.pos≠b.pos):Same (A++B) (B++A):=by
 intro p
 rw[List.filter_append,List.filter_append]
 cases hA:A.filter (fun r=>r.pos==p)with
 |nil=>simp
 |cons x l=>
  have hx:x∈A.filter (fun r=>r.pos==p):=by rw[hA];simp
  have hx1:=(List.mem_filter.1 hx).1
  have hx2:x.pos=p:=by simpa using(List.mem_filter.1 hx).2
  have hB:B.filter (fun r=>r.pos==p)=[]:=by
   rw[List.filter_eq_nil_iff]
   intro b hb e
   exact h x hx1 b hb (by rw[hx2];exact(by simpa using e:b.pos=p).symm)
  rw[hB];simp
theorem Same.cons_inv {x:Rec}{L M:List Rec}(h:Same (x::L) (x::M)):Same L M:=by
 intro p
 have:=h p
 rw[List.filter_cons,List.filter_cons]at this
 split at this
 ·exact List.cons.inj this|>.2
 ·exact this
theorem Sorted.unique: ∀{L M:List Rec},Sorted L->Sorted M->Same L M->L=M
 |[],M,_,_,h=>h.nil.symm
 |x::L,[],_,_,h=>by cases h.symm.nil
 |x::L,y::M,hL,hM,h=>by
  obtain⟨hx,hL'⟩:=List.pairwise_cons.1 hL
  obtain⟨hy,hM'⟩:=List.pairwise_cons.1 hM
  have h1:y.pos<=x.pos:=by
   rcases List.mem_cons.1 (h.mem.1 (List.mem_cons_self (a:=x) (l:=L)))with e|e
   ·rw[e];exact Int.le_refl _
   ·exact hy x e
  have h2:x.pos<=y.pos:=by
   rcases List.mem_cons.1 (h.mem.2 (List.mem_cons_self (a:=y) (l:=M)))with e|e
   ·rw[e];exact Int.le_refl _
   ·exact hx y e
  have he:x.pos=y.pos:=by omega
  have:=h x.pos
  rw[List.filter_cons,List.filter_cons,if_pos (by simp),if_pos (by simp[he])]at this
  obtain⟨rfl,_⟩:=List.cons.inj this
  rw[Sorted.unique hL' hM' h.cons_inv]
theorem Same.length {L M:List Rec}(h:Same L M):L.length=M.length:=by
 have hp: ∀(L M:List Rec),Same L M->L.Perm M:=by
  intro L M h
  rw[List.perm_iff_count]
  intro r
  have e: ∀K:List Rec,K.count r=(K.filter (fun x=>x.pos==r.pos)).count r:=fun K=>(List.count_filter (by simp)).symm
  rw[e L,e M,h r.pos]
 exact(hp L M h).length_eq
theorem Sorted.append {A B:List Rec}(hA:Sorted A)(hB:Sorted B)(h: ∀a∈A,∀b∈B,a.pos<=b.pos):Sorted (A++B):=List.pairwise_append.2 ⟨hA,hB,h⟩
theorem Sorted.left {A B:List Rec}(h:Sorted (A++B)):Sorted A:=(List.pairwise_append.1 h).1
theorem Sorted.right {A B:List Rec}(h:Sorted (A++B)):Sorted B:=(List.pairwise_append.1 h).2.1
theorem Sorted.le {A B:List Rec}(h:Sorted (A++B)): ∀a∈A,∀b∈B,a.pos<=b.pos:=(List.pairwise_append.1 h).2.2
def dK (L:List Rec):List Rec:=L.mergeSort fun x y=>decide (x.pos<=y.pos)
theorem yS (L:List Rec):Sorted (dK L):=by
 have:=List.pairwise_mergeSort (le:=fun x y:Rec=>decide (x.pos<=y.pos)) (fun a b c h k=>by simp at*;omega) (fun a b=>by simp;omega) L
 exact this.imp (fun h=>by simpa using h)
theorem wK (L:List Rec):Same L (dK L):=by
 intro p
 have hs:(L.filter (fun r=>r.pos==p)).Sublist (dK L):=by
  refine List.sublist_mergeSort (fun a b c h k=>by simp at*;omega) (fun a b=>by simp;omega) ?_ List.filter_sublist
  refine List.pairwise_of_forall_mem_list (fun a ha b hb=>?_)
  have h1:a.pos=p:=by simpa using(List.mem_filter.1 ha).2
  have h2:b.pos=p:=by simpa using(List.mem_filter.1 hb).2
  simp;omega
 have h2:=hs.filter (fun r=>r.pos==p)
 rw[List.filter_filter]at h2
 simp only[Bool.and_self]at h2
 refine h2.eq_of_length ?_
 exact((List.mergeSort_perm L _).filter _).length_eq.symm
theorem Gm {L M:List Rec}(h:Sorted M)(k:Same L M):M=dK L:=(Sorted.unique (yS L) h ((wK L).symm.trans k)).symm
theorem l9 (L:List Rec):(dK L).length=L.length:=(wK L).length.symm
theorem qI {L:List Rec}{r:Rec}:r∈dK L↔r∈L:=(wK L).mem.symm
end
section
open Go Go.RowKit
theorem aK.small {n:Int}(h1: -1000<=n)(h2:n<=1000):aK n:=⟨by omega,by omega⟩
inductive Ex where
 |mk (op n:Int) (args:List Ex)
instance:Inhabited Ex:=⟨.mk 0 0 []⟩
def Ex.op:Ex->Int| .mk o _ _=>o
def Ex.n:Ex->Int| .mk _ n _=>n
def Ex.args:Ex->List Ex| .mk _ _ l=>l
def arity (op:Int):Int:=if op=0\/18<op then-1 else if op<=4 then 0 else if op<=6 then 1 else if op=18 then 3 else 2
def bf:Nat->Ex->Bool
 |0,_=>false
 |f+1, .mk op n args=>decide (arity op=args.length)&&decide (0<=n)&&decide (n=0\/op=1)&&args.all (bf f)
abbrev vJ:=(Int×Int×Int×Int)×Int
def ng:List vJ:=
 [((1,0,0,0),1),((2,0,0,0),1),((3,0,0,0),1),((4,0,0,0),1),((5,1,0,0),1),
  ((7,1,1,0),1),((8,1,1,0),1),((9,1,1,0),1),((10,1,1,0),1),((11,1,1,0),1),((6,2,0,0),2),
  ((16,2,2,0),2),((17,2,2,0),2),((14,2,2,0),2),((15,2,2,0),2),
  ((12,1,1,0),2),((13,1,1,0),2),((14,1,1,0),2),((15,1,1,0),2),((18,2,1,1),1),((18,2,2,2),2)]
def jW (k:Int×Int×Int×Int):Int:=((ng.find? fun r=>r.1==k).map (·.2)).getD 0
def aG:Nat->Ex->Int
 |0,_=>0
 |f+1, .mk op _ args=>if(args.map (aG f)).contains 0 then 0 else jW (op,(args.map (aG f)).getD 0 0,(args.map (aG f)).getD 1 0,(args.map (aG f)).getD 2 0)
inductive EV where
 |num (n:Int)
 |jo (b:Bool)
def EV.ty:EV->Int| .num _=>1| .jo _=>2
def EV.n:EV->Int| .num n=>n| .jo _=>0
def EV.b:EV->Bool| .num _=>false| .jo b=>b
def gB (op:Int):EV->EV->EV
 | .num a,y=>if op=7 then .num (wrap64 (a+y.n))else if op=8 then .num (wrap64 (a-y.n))else if op=9 then .num (wrap64 (a*y.n))
   else if op=12 then .jo (decide (a<y.n))else if op=13 then .jo (decide (a<=y.n))else if op=14 then .jo (a==y.n)else if op=15 then .jo (a !=y.n)
   else if y.n=0 then .num 0 else if op=10 then .num (wrap64 (a.tdiv y.n))else .num (a.tmod y.n)
 | .jo a,y=>if op=16 then .jo (a&&y.b)else if op=17 then .jo (a||y.b)else if op=14 then .jo (a==y.b)else .jo (a !=y.b)
structure Env where
 key:Int
 val:Int
 acc:Int
def aW:Nat->Env->Ex->EV
 |0,_,_=> .num 0
 |f+1,env, .mk op n args=>
  if op=1 then .num n else if op=2 then .num env.key else if op=3 then .num env.val else if op=4 then .num env.acc
  else if op=5 then .num (wrap64 (-(aW f env (args.getD 0 default)).n))
  else if op=6 then .jo (!(aW f env (args.getD 0 default)).b)
  else if op=18 then(if(aW f env (args.getD 0 default)).b then aW f env (args.getD 1 default)else aW f env (args.getD 2 default))
  else gB op (aW f env (args.getD 0 default)) (aW f env (args.getD 1 default))
def Cb (x:Ex):Bool:=bf 16 x&&aG 16 x !=0
def dJ (x:Ex)(env:Env):Int:=if Cb x then(aW 16 env x).n else 0
def tu (x:Ex)(env:Env):Bool:=Cb x&&(aW 16 env x).b
theorem P8 {k:Int×Int×Int×Int}(h:jW k≠0):(k,jW k)∈ng:=by
 unfold jW at*
 cases hf:ng.find? (fun r=>r.1==k)with
 |none=>rw[hf]at h;exact absurd rfl h
 |some r=>
  have h1:=List.find?_some hf
  have h2:=List.mem_of_find?_eq_some hf
  simp only[beq_iff_eq]at h1
  simp only[Option.map_some,Option.getD_some]
  rw[<-h1];exact h2
theorem qE {op a b c:Int}(h:jW (op,a,b,c)≠0):
 (jW (op,a,b,c)=1/\((op=1\/op=2\/op=3\/op=4)\/(op=5/\a=1)\/((op=7\/op=8\/op=9\/op=10\/op=11)/\a=1/\b=1)\/(op=18/\a=2/\b=1/\c=1)))\/
 (jW (op,a,b,c)=2/\((op=6/\a=2)\/((op=16\/op=17\/op=14\/op=15)/\a=2/\b=2)\/((op=12\/op=13\/op=14\/op=15)/\a=1/\b=1)\/(op=18/\a=2/\b=2/\c=2))):=by
 have h1:=P8 h
 clear h
 generalize jW (op,a,b,c)=t at*
 simp only[ng,List.mem_cons,List.not_mem_nil,or_false,Prod.mk.injEq]at h1
 rcases h1 with h1|h1|h1|h1|h1|h1|h1|h1|h1|h1|h1|h1|h1|h1|h1|h1|h1|h1|h1|h1|h1<;>
  (obtain⟨⟨rfl,rfl,rfl,rfl⟩,rfl⟩:=h1;decide)
theorem kK (n:Int):aK (wrap64 n):=by unfold aK wrap64;omega
theorem DV {f:Nat}{op n:Int}{args:List Ex}(h:bf (f+1) (.mk op n args)=true):arity op=args.length/\0<=n/\(n=0\/op=1)/\ ∀a∈args,bf f a=true:=by
 simp only[bf,Bool.and_eq_true,decide_eq_true_eq,List.all_eq_true]at h
 exact⟨h.1.1.1,h.1.1.2,h.1.2,h.2⟩
theorem U5 {f:Nat}{op n:Int}{args:List Ex}(h:aG (f+1) (.mk op n args)≠0):
 (∀a∈args,aG f a≠0)/\aG (f+1) (.mk op n args)=jW (op,(args.map (aG f)).getD 0 0,(args.map (aG f)).getD 1 0,(args.map (aG f)).getD 2 0):=by
 rw[aG]at h⊢
 by_cases hc:(args.map (aG f)).contains 0=true
 ·rw[if_pos hc]at h;exact absurd rfl h
 ·rw[if_neg hc]
  refine⟨fun a ha e=>hc ?_,rfl⟩
  simp only[List.contains_eq_mem,List.mem_map,decide_eq_true_eq]
  exact⟨a,ha,e⟩
theorem CP {k:Int}{c:Cell}{g:Int}: ∀{T:Tab},bT T->bG (fK k c T) g=bG T g+(if eP T k=none/\grp k=g then 1 else 0)
 |[],_=>by simp[bG,fK,eP,List.countP_cons]
 |q::r,h=>by
  obtain⟨h1,h2⟩:=List.pairwise_cons.1 h
  unfold fK
  split
  ·rename_i hl
   have hne:k≠q.1:=fun e=>by rw[e,dL]at hl;cases hl
   have ih:=CP (k:=k) (c:=c) (g:=g) h2
   have hg:eP (q::r) k=eP r k:=by
    have hf:(k==q.1)=false:=by simp[hne]
    unfold eP;rw[List.find?_cons,hf]
   rw[hg]
   unfold bG at*
   rw[List.countP_cons,List.countP_cons,ih]
   omega
  ·rename_i hl
   split
   ·rename_i he
    have hg:eP (q::r) k≠none:=by unfold eP;rw[List.find?_cons];simp[he]
    rw[if_neg (fun h=>hg h.1)]
    unfold bG
    rw[List.countP_cons,List.countP_cons]
    simp only[he]
    omega
   ·rename_i he
    have hkq:dh k q.1=true:=(mJ he).resolve_left hl
    have hg:eP (q::r) k=none:=by
     rw[EY]
     unfold aO
     intro hm
     obtain⟨p,hp,e⟩:=List.mem_map.1 hm
     rcases List.mem_cons.1 hp with rfl|hp
     ·exact he e
     ·have:=mG hkq (h1 p hp);rw[e,dL]at this;cases this
    rw[hg]
    unfold bG
    rw[List.countP_cons]
    simp
theorem dB.fK {T:Tab}(h:dB T){k:Int}{c:Cell}(hk:aK k)(hc:Ed c)(hm:eP T k≠none\/bG T (grp k)<40):dB (fK k c T):=by
 refine⟨h.rises.fK,fun p hp=>?_,fun p hp=>?_,fun g=>?_⟩
 ·rcases(iq h.rises).1 hp with rfl|hp
  ·exact hk
  ·exact h.key p hp.1
 ·rcases(iq h.rises).1 hp with rfl|hp
  ·exact hc
  ·exact h.cell p hp.1
 ·rw[CP h.rises]
  split
  ·rename_i hh
   obtain⟨h1,rfl⟩:=hh
   have:=hm.resolve_left (fun h=>h h1)
   omega
  ·have:=h.many g;omega
def gu (T:Tab)(k:Int)(n:Nat):Int:=if 16<n then 2 else if eP T k=none/\40<=bG T (grp k)then 7 else 0
def ig (T:Tab)(k:Int)(c:Cell):Tab:=if gu T k c.2.length=0 then fK k c T else T
theorem dB.kX {T:Tab}(h:dB T)(k:Int):dB (kX k T):=
 ⟨h.rises.kX,fun p hp=>h.key p (pW.1 hp).1,fun p hp=>h.cell p (pW.1 hp).1,fun g=>Nat.le_trans (List.Sublist.countP_le List.filter_sublist) (h.many g)⟩
theorem Tc (T:Tab):T.length=bG T 0+bG T 1+bG T 2+bG T 3+bG T 4+bG T 5+bG T 6+bG T 7:=by
 unfold bG
 induction T with
 |nil=>rfl
 |cons p r ih=>
  have h1:=abW p.1
  have h2:=abX p.1
  simp only[List.length_cons,List.countP_cons,ih]
  have h3:grp p.1=0\/grp p.1=1\/grp p.1=2\/grp p.1=3\/grp p.1=4\/grp p.1=5\/grp p.1=6\/grp p.1=7:=by omega
  rcases h3 with h|h|h|h|h|h|h|h<;>simp[h]<;>omega
theorem dB.len {T:Tab}(h:dB T):T.length<=320:=by
 have:=Tc T
 have:=h.many 0;have:=h.many 1;have:=h.many 2;have:=h.many 3;have:=h.many 4;have:=h.many 5;have:=h.many 6;have:=h.many 7
 omega
structure cu where
 kind:Int
 x:Ex
 n:Int
def aC (r:Rec):Env:=⟨r.key,r.val,0⟩
def kC (r:Rec)(k:Nat):List Rec:=(List.range k).map fun(i:Nat)=>(⟨wrap64 (wrap64 (8*r.pos)+(i:Int)),r.key,wrap64 (r.val+(i:Int))⟩:Rec)
def jI (x:Int):Nat:=(min x 4).toNat
def sumW (l:List Int):Int:=l.foldl (fun a x=>wrap64 (a+x)) 0
def cellOf (T:Tab)(k:Int):Cell:=(eP T k).getD (0,[])
def aJ (nd:cu)(T:Tab)(r:Rec):List Rec×Tab:=
 if nd.kind=2 then([{r with val:=dJ nd.x (aC r)}],T)
 else if nd.kind=5 then([{r with key:=dJ nd.x (aC r)}],T)
 else if nd.kind=3 then(if tu nd.x (aC r)then[r]else[],T)
 else if nd.kind=4 then(kC r (jI (dJ nd.x (aC r))),T)
 else if nd.kind=6 then
  (if gu T r.key 0=0 then[{r with val:=dJ nd.x {aC r with acc:=(cellOf T r.key).1}}]else[],
   ig T r.key (dJ nd.x {aC r with acc:=(cellOf T r.key).1},[]))
 else if nd.kind=7 then
  (if gu T r.key ((cellOf T r.key).2.length+1)≠0\/(((cellOf T r.key).2.length+1:Nat):Int)<nd.n then([],ig T r.key ((cellOf T r.key).1,(cellOf T r.key).2++[r.val]))
   else([{r with val:=sumW ((cellOf T r.key).2++[r.val])}],kX r.key (ig T r.key ((cellOf T r.key).1,(cellOf T r.key).2++[r.val]))))
 else([r],T)
def aN (nd:cu):Tab->List Rec->List Rec×Tab
 |T,[]=>([],T)
 |T,r::l=>((aJ nd T r).1++(aN nd (aJ nd T r).2 l).1,(aN nd (aJ nd T r).2 l).2)
theorem wS (nd:cu)(r:Rec): ∀(l:List Rec)(T:Tab),aN nd T (l++[r])=((aN nd T l).1++(aJ nd (aN nd T l).2 r).1,(aJ nd (aN nd T l).2 r).2)
 |[],T=>by simp[aN]
 |x::l,T=>by simp only[List.cons_append,aN,wS nd r l];simp
structure lZ (env:Env):Prop where
 key:aK env.key
 val:aK env.val
 acc:aK env.acc
theorem dQ:aK 0:=⟨by omega,by omega⟩
structure bg (r:Rec):Prop where
 pos:aK r.pos
 key:aK r.key
 val:aK r.val
theorem rM {r:Rec}(h:bg r):lZ (aC r):=⟨h.key,h.val,dQ⟩
def lM (b:Nat)(r:Rec):Rec:={r with pos:=wrap64 (wrap64 (8*r.pos)+(b:Int))}
def gQ:Nat->List (List Rec)->List (List Rec)
 |_,[]=>[]
 |b,L::LL=>L.map (lM b)::gQ (b+1) LL
def jH (kind:Int)(LL:List (List Rec)):List Rec:=dK (if kind=8 then gQ 0 LL else LL).flatten
theorem y8: ∀(b:Nat)(LL:List (List Rec)),(gQ b LL).length=LL.length
 |_,[]=>rfl
 |b,L::LL=>by simp[gQ,y8 (b+1) LL]
theorem ES: ∀(b:Nat)(LL:List (List Rec))(i:Nat),(gQ b LL)[i]?=LL[i]?.map (fun L=>L.map (lM (b+i)))
 |_,[],i=>by simp[gQ]
 |b,L::LL,0=>by simp[gQ]
 |b,L::LL,i+1=>by
  simp only[gQ,List.getElem?_cons_succ,ES (b+1) LL i]
  congr 2;funext L;congr 2;omega
theorem x9: ∀(b:Nat)(LL:List (List Rec)),(gQ b LL).flatten.length=LL.flatten.length
 |_,[]=>rfl
 |b,L::LL=>by simp[gQ,x9 (b+1) LL]
end
end Go.Proofs.YtopeleenlcnkkaaGreatDoor
