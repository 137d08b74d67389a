/- job: twice at strings, ContainsFunc with may's closure, the rules; expr: Same at none. -/
import Derived.Test.YtakhobfamnjnoaaGreatDoorB20
import Derived.Great.BuildSlice
set_option linter.unusedVariables false
set_option linter.unusedSimpArgs false
set_option maxHeartbeats 1000000
set_option maxRecDepth 100000
namespace Go.Proofs.YtakhobfamnjnoaaGreatDoor
section
open Go Go.RowKit
attribute [local irreducible] jm
theorem Rk (v:Value)(l:List ByteArray)(w:World)(h:Reads w 1 v (strs l)):Calls Tryz.prog 59 #[v] w (fun e w'=>e= .returned (.bool (!decide l.Nodup))/\w=w'):=by
 have hR:=h
 obtain⟨pa,ca,rfl,a1,a2,a3⟩:=h.atS
 have A3:=Lib.hid (And.intro a3 hR)
 clear a3 hR
 have hlen:l.length<=9223372036854775807:=by unfold maxLen at a2;omega
 go_enter Tryz.func59,Tryz.ntmps59
 go_wp2_with fail
 go_loopg [7] l.length (fun m vk wr=> ∃k:Nat,k<=l.length/\m=l.length-k/\vk= .int .i64 (k:Int)/\(l.take k).Nodup/\wr=w)
 case atStart=>exact⟨0,Nat.zero_le _,rfl,rfl,by simp,rfl⟩
 case round=>
  obtain⟨k,hk,hm,rfl,ht,rfl⟩:=hrel
  have HT:=Lib.hid (And.intro ht hm)
  clear ht hm
  by_cases hlt:k<l.length
  ·obtain⟨y,hy⟩: ∃y,l[k]?=some y:=⟨_,List.getElem?_eq_getElem hlt⟩
   obtain⟨b,off,rfl,hc⟩:=A3.out.1.resolve_left (fun h=>by rw[h]at hlt;simp at hlt)
   have y0:=hc k y hy
   have hsl:=zZ (P:=Tryz.prog) (w:=wr) (a:=some ⟨b,off,none⟩) (n:=l.length) (cap:=ca) (i:=k) Tryz.underlying115 (adx wr) (by omega) a1
   have hrd:=Reads.take A3.out.2 (i:=k) (by omega)
   have Nq:Reads wr 1 (.slice (some ⟨b,off,none⟩) k ca) (strs (l.take k)):=by
    have:(strs l).take (k*1)=strs (l.take k):=by rw[Nat.mul_one];unfold strs;rw[List.map_take]
    rwa[this]at hrd
   have cc:=JW _ (l.take k) y wr Nq
   have HY:=Lib.hid hy
   clear hc hy A3 hrd Nq
   by_cases hm:y∈l.take k
   ·have e1:decide (y∈l.take k)=true:=decide_eq_true hm
    rw[e1]at cc
    have F:=Lib.hid (Jf HY.out hm)
    clear hm e1
    go_wp2_with (go_at_call 104;refine cc.mono ?_;rintro e w' ⟨rfl,rfl⟩)
    go_ret
    exact⟨oG (by rw[decide_eq_false F.out];rfl),rfl⟩
   ·have e1:decide (y∈l.take k)=false:=decide_eq_false hm
    rw[e1]at cc
    have F:=Lib.hid ((EU HY.out).2 ⟨HT.out.1,hm⟩)
    clear hm e1
    go_wp2_with (go_at_call 104;refine cc.mono ?_;rintro e w' ⟨rfl,rfl⟩)
    go_roundg (l.length-(k+1))
    case rel=>exact⟨k+1,by omega,rfl,by go_num,F.out,rfl⟩
    case measure=>have:=HT.out.2;omega
  ·have e1:k=l.length:=by omega
   subst e1
   have F:=Lib.hid (show l.Nodup by have:=HT.out.1;rwa[List.take_length]at this)
   clear HT
   go_wp2_with fail
   go_ret
   exact⟨oG (by rw[decide_eq_true F.out];rfl),rfl⟩
theorem XZ (i n:Int)(B:Nat)(w:World)(hc:w.cell? ⟨B,0,none⟩=some (.int .i64 n)):Calls Tryz.prog 102 #[.int .i64 i, .pointer (some ⟨B,0,none⟩)] w (fun e w'=>e= .returned (.bool (!(decide (0<=i)&&decide (i<n))))/\w=w'):=by
 by_cases h0:i<0
 ·have e1:(!(decide (0<=i)&&decide (i<n)))=true:=by rw[decide_eq_false (by omega)];rfl
  rw[e1]
  go_enter Tryz.func102,Tryz.ntmps102
  go_wp2
  go_ret
  exact⟨rfl,rfl⟩
 ·have e1:(!(decide (0<=i)&&decide (i<n)))=decide (n<=i):=by
   rw[decide_eq_true (by omega),Bool.true_and,<-decide_not];exact decide_eq_decide.2 (by omega)
  rw[e1]
  go_enter Tryz.func102,Tryz.ntmps102
  go_wp2
  go_ret
  exact⟨rfl,rfl⟩
def qJ (n:Int)(i:Int):Bool:=!(decide (0<=i)&&decide (i<n))
theorem H6 (v:Value)(l:List Int)(n:Int)(B:Nat)(w:World)(h:Reads w 1 v (ints l))(hc:w.cell? ⟨B,0,none⟩=some (.int .i64 n)):
 Calls Tryz.prog 145 #[v, .func (.func 102) #[] #[.pointer (some ⟨B,0,none⟩)]] w (fun e w'=> ∃r:Int,e= .returned (.int .i64 r)/\(decide (0<=r)=l.any (qJ n))/\w=w'):=by
 obtain⟨pa,ca,rfl,a1,a2,a3⟩:=h.at
 unfold maxLen at a2
 have A3:=Lib.hid a3
 have HC:=Lib.hid hc
 clear h a3 hc
 go_enter Tryz.func145,Tryz.ntmps145
 go_wp2_with fail
 go_loopw [8] (fun i wr=> ∃k:Nat,k<=l.length/\i= .int .i64 (k:Int)/\(l.take k).any (qJ n)=false/\wr=w) (fun i _=>l.length-(intOf i).toNat)
 case atStart=>exact⟨0,by omega,rfl,by simp,rfl⟩
 case round=>
  obtain⟨k,hk,rfl,ht,rfl⟩:=hrel
  have HT:=Lib.hid ht
  clear ht
  by_cases hlt:k<l.length
  ·obtain⟨y,hy⟩: ∃y,l[k]?=some y:=⟨_,List.getElem?_eq_getElem hlt⟩
   obtain⟨b,off,rfl,hcc⟩:=A3.out.resolve_left (fun h=>by rw[h]at hlt;simp at hlt)
   have y0:=hcc k y hy
   have HY:=Lib.hid hy
   have cc:=XZ y n B wr HC.out
   change Calls Tryz.prog 102 #[.int .i64 y, .pointer (some ⟨B,0,none⟩)] wr (fun e w'=>e= .returned (.bool (qJ n y))/\wr=w')at cc
   clear hcc hy A3
   cases ho:qJ n y with
   |true=>
    rw[ho]at cc
    have F:=Lib.hid (show l.any (qJ n)=true by rw[List.any_eq_true];exact⟨y,List.mem_of_getElem? HY.out,ho⟩)
    clear ho
    go_wp2_with (go_at_call 102;refine cc.mono ?_;rintro e w' ⟨rfl,rfl⟩)
    go_ret
    exact⟨k,rfl,by rw[F.out,decide_eq_true (by omega)],rfl⟩
   |false=>
    rw[ho]at cc
    have F:=Lib.hid (CX HY.out HT.out ho)
    clear ho
    go_wp2_with (go_at_call 102;refine cc.mono ?_;rintro e w' ⟨rfl,rfl⟩)
    go_roundw
    case rel=>exact⟨k+1,by omega,by go_num,F.out,by first|trivial|rfl⟩
    case measure=>simp[intOf];omega
  ·have F:=Lib.hid (show l.any (qJ n)=false by have:=HT.out;rwa[List.take_of_length_le (by omega)]at this)
   have e1:k=l.length:=by omega
   subst e1
   go_wp2_with fail
   go_ret
   exact⟨-1,rfl,by rw[F.out];rfl,rfl⟩
theorem sS (v:Value)(l:List Int)(n:Int)(B:Nat)(w:World)(h:Reads w 1 v (ints l))(hc:w.cell? ⟨B,0,none⟩=some (.int .i64 n)):
 Calls Tryz.prog 101 #[v, .func (.func 102) #[] #[.pointer (some ⟨B,0,none⟩)]] w (fun e w'=>e= .returned (.bool (l.any (qJ n)))/\w=w'):=by
 have c:=H6 v l n B w h hc
 obtain⟨pa,ca,rfl,a1,a2,a3⟩:=h.at
 clear h a3 hc
 go_enter Tryz.func101,Tryz.ntmps101
 go_wp2_with fail
 refine c.mono ?_
 rintro e w2 ⟨r,rfl,hn,rfl⟩
 have F:=Lib.hid hn
 clear hn
 go_wp2_with fail
 go_ret
 exact⟨oG (by rw[<-F.out]),rfl⟩
theorem Ws (x:Ex):kM x=(x.op==0&&x.n==0&&decide (x.args.length=0)):=by
 unfold kM
 cases x.args<;>simp
theorem NQ (p:Option Addr)(n cap:Nat)(w:World):Calls Tryz.prog 108 #[.slice p n cap, .slice none 0 0, .func (.func 68) #[] #[]] w (fun e w'=>e= .returned (.bool (decide (n=0)))/\w=w'):=by
 go_enter Tryz.func108,Tryz.ntmps108
 by_cases h:n=0
 ·subst h
  go_wp2_with fail
  go_loopg [17] 1 (fun g vi wr=>vi= .int .i64 0/\wr=w)
  case atStart=>exact⟨rfl,rfl⟩
  case round=>
   obtain⟨rfl,rfl⟩:=hrel
   go_wp2_with fail
   go_ret
   exact⟨rfl,rfl⟩
 ·have e:((n:Int) !=0)=true:=by simp;omega
  rw[decide_eq_false h]
  clear h
  go_wp2_with fail
  go_ret
  exact⟨rfl,rfl⟩
theorem IL (x:Ex)(a:Array Value)(w:World)(h:bP w a x):Calls Tryz.prog 68 #[.agg a, .agg #[.int .u8 0, .int .i64 0, .slice none 0 0]] w (Gives w (.bool (kM x))):=by
 obtain⟨p,cap,rfl,h0,h1,h2,h3,h4,h5⟩:=h.parts
 have HX:=Lib.hid (Ws x)
 unfold maxLen at h4
 clear h h5
 go_enter Tryz.func68,Tryz.ntmps68
 by_cases b1:x.op=0
 ·have c1:(x.op==0)=true:=by simp[b1]
  rw[c1]at HX
  by_cases b2:x.n=0
  ·have c2:(x.n==0)=true:=by simp[b2]
   rw[c2]at HX
   by_cases b3:x.args.length=0
   ·have c3:decide (x.args.length=0)=true:=by simp[b3]
    rw[c3]at HX
    have cc:=fun w=>NQ p x.args.length cap w
    rw[c3]at cc
    clear b1 b2 b3 c3
    go_wp2_with fail
    refine(cc _).mono ?_
    rintro e w2 ⟨rfl,rfl⟩
    go_wp2_with fail
    go_ret
    exact⟨dS (by rw[HX.out];rfl),((Kept.refl _ _).alloc _).alloc _⟩
   ·have c3:decide (x.args.length=0)=false:=by simp[b3]
    rw[c3]at HX
    have cc:=fun w=>NQ p x.args.length cap w
    rw[c3]at cc
    clear b1 b2 b3 c3
    go_wp2_with fail
    refine(cc _).mono ?_
    rintro e w2 ⟨rfl,rfl⟩
    go_wp2_with fail
    go_ret
    exact⟨dS (by rw[HX.out];rfl),((Kept.refl _ _).alloc _).alloc _⟩
  ·have c2:(x.n==0)=false:=by simp[b2]
   rw[c2]at HX
   clear b1 b2
   go_wp2_with fail
   go_ret
   exact⟨dS (by rw[HX.out];rfl),((Kept.refl _ _).alloc _).alloc _⟩
 ·have c1:(x.op==0)=false:=by simp[b1]
  rw[c1]at HX
  clear b1
  go_wp2_with fail
  go_ret
  exact⟨dS (by rw[HX.out];rfl),((Kept.refl _ _).alloc _).alloc _⟩
end
section
open Go Go.RowKit
def gX (a b t:Int)(c:Bool)(n:Int):List Value:=[.int .i64 a, .int .i64 b, .int .u8 t, .bool c, .int .i64 n]
def oP:Array Value:=(gX 0 0 0 false 0++gX 0 0 0 false 0++gX 1 1 1 false 0++gX 1 1 2 false 0++gX 1 1 1 false 0++gX 1 1 1 false 0++gX 1 1 1 true 0++gX 1 1 0 false 16++gX 2 3 0 false 0++gX 1 1 0 false 0).toArray
theorem SX (w:World):Calls Tryz.prog 99 #[] w (fun e w'=>e= .returned (.agg oP)/\Kept none' w w'/\w'.heap.size=w.heap.size+1):=by
 go_enter Tryz.func99,Tryz.ntmps99
 apply wp_seq_k;intro K0 hK0
 have HK0:=Lib.hid hK0
 clear hK0
 go_wp2_with fail
 refine HK0.out _ _ ?_
 clear HK0
 obtain⟨W0,hW0⟩: ∃W0,(w.alloc (.cells #[.int .i64 0, .int .i64 0, .int .u8 0, .bool false, .int .i64 0, .int .i64 0, .int .i64 0, .int .u8 0, .bool false, .int .i64 0, .int .i64 0, .int .i64 0, .int .u8 0, .bool false, .int .i64 0, .int .i64 0, .int .i64 0, .int .u8 0, .bool false, .int .i64 0, .int .i64 0, .int .i64 0, .int .u8 0, .bool false, .int .i64 0, .int .i64 0, .int .i64 0, .int .u8 0, .bool false, .int .i64 0, .int .i64 0, .int .i64 0, .int .u8 0, .bool false, .int .i64 0, .int .i64 0, .int .i64 0, .int .u8 0, .bool false, .int .i64 0, .int .i64 0, .int .i64 0, .int .u8 0, .bool false, .int .i64 0, .int .i64 0, .int .i64 0, .int .u8 0, .bool false, .int .i64 0] 162))=W0:=⟨_,rfl⟩
 have hB: ∃old,W0.heap[w.heap.size]?=some (.cells old 162 (0,0))/\old.size=50:=by rw[<-hW0];exact⟨_,heap_alloc_new _ _,rfl⟩
 have hk:Kept none' w W0/\W0.heap.size=w.heap.size+1:=by rw[<-hW0];exact⟨(Kept.refl _ _).alloc _,by simp⟩
 rw[hW0]
 clear hW0
 obtain⟨old,hB,hold⟩:=hB
 apply wp_seq_k;intro K1 hK1
 apply wp_region_lit
 refine wpList_buildTo rfl 161 _ rfl (some 1) rfl (gX 0 0 0 false 0).toArray (by kernel_rfl) ?_
 refine wpList_buildTo rfl 161 _ rfl (some 2) rfl (gX 1 1 1 false 0).toArray (by kernel_rfl) ?_
 refine wpList_buildTo rfl 161 _ rfl (some 3) rfl (gX 1 1 2 false 0).toArray (by kernel_rfl) ?_
 refine wpList_buildTo rfl 161 _ rfl (some 4) rfl (gX 1 1 1 false 0).toArray (by kernel_rfl) ?_
 refine wpList_buildTo rfl 161 _ rfl (some 5) rfl (gX 1 1 1 false 0).toArray (by kernel_rfl) ?_
 refine wpList_buildTo rfl 161 _ rfl (some 6) rfl (gX 1 1 1 true 0).toArray (by kernel_rfl) ?_
 refine wpList_buildTo rfl 161 _ rfl (some 7) rfl (gX 1 1 0 false 16).toArray (by kernel_rfl) ?_
 refine wpList_buildTo rfl 161 _ rfl (some 8) rfl (gX 2 3 0 false 0).toArray (by kernel_rfl) ?_
 refine wpList_buildTo rfl 161 _ rfl (some 9) rfl (gX 1 1 0 false 0).toArray (by kernel_rfl) ?_
 refine wpList_buildTo rfl 162 _ rfl (some 10) rfl oP (by kernel_rfl) ?_
 refine wpList_store_rowTo rfl 162 _ _ rfl rfl w.heap.size oP (by as_aux_lemma=>kernel_rfl) (by as_aux_lemma=>kernel_rfl) 162 old hB (by kernel_rfl) hold (by kernel_rfl) ?_
 apply wpList_nil
 refine hK1 _ _ ?_
 have hset:=setRow_heap W0 w.heap.size old oP 162 (0,0) hB
 have hks:Kept none' w (W0.setRow w.heap.size oP)/\(W0.setRow w.heap.size oP).heap.size=w.heap.size+1:=by
  unfold World.setRow
  refine⟨⟨hk.1.os,hk.1.tape,hk.1.output,by simp[hk.2],fun k hkk hn=>?_⟩,by simp[hk.2]⟩
  rw[<-hk.1.block k hkk hn]
  simp only[Array.getElem?_modify]
  rw[if_neg (by omega)]
 have HS:=Lib.hid (And.intro hset hks)
 clear hset hks hk hB
 apply wp_ret
 refine bodyPost_ret (results_cell_row (p:=0) (ty:=162) rfl _ _ w.heap.size 162 oP (0,0) _ (by as_aux_lemma=>kernel_rfl) HS.out.1 Tryz.underlying162 rfl (by kernel_rfl)) rfl ⟨rfl,HS.out.2⟩
theorem xE {a b:Bool}(h:a=b):Ending.returned (.bool a)= .returned (.bool b):=by rw[h]
theorem OT (r:Nat):jI r=true↔(97<=(r:Int)/\(r:Int)<=122)\/(65<=(r:Int)/\(r:Int)<=90)\/(191<(r:Int)/\(r:Int)≠65533):=by
 unfold jI
 simp only[Bool.or_eq_true,Bool.and_eq_true,decide_eq_true_eq,bne_iff_ne,ne_eq]
 omega
theorem SK (r:Nat):mX r=true↔jI r=true\/(48<=(r:Int)/\(r:Int)<=57)\/(r:Int)=45:=by
 unfold mX
 simp only[Bool.or_eq_true,Bool.and_eq_true,decide_eq_true_eq,beq_iff_eq]
 have e:r=45↔(r:Int)=45:=by omega
 have e1:48<=r/\r<=57↔48<=(r:Int)/\(r:Int)<=57:=by omega
 rw[or_assoc,e,e1]
theorem XY {s:ByteArray}(hd: ∀q∈runes s,mX q.2=true)(hh: ∀q,(runes s).head?=some q->jI q.2=true):
 kH s=(decide (0<((runes s).length:Int))&&decide (((runes s).length:Int)<=24)):=by
 unfold kH
 cases e:runes s with
 |nil=>rfl
 |cons p l=>
  rw[e]at hd hh
  show(jI p.2&&(p::l).all (fun q=>mX q.2)&&decide ((p::l).length<=24))=_
  rw[hh p rfl,List.all_eq_true.2 hd,Bool.true_and,Bool.true_and,decide_eq_true (show 0<((p::l).length:Int) by simp),Bool.true_and]
  exact decide_eq_decide.2 (by omega)
theorem Hq {s:ByteArray}{done left:List (Nat×Nat)}{p:Nat×Nat}(h:runes s=done++p::left)(hp:(done=[]/\jI p.2=false)\/mX p.2=false):kH s=false:=by
 unfold kH
 rw[h]
 rcases hp with⟨rfl,hp⟩|hp
 ·rw[List.nil_append,E5,hp];rfl
 ·have: ∀l:List (Nat×Nat),p∈l->E5 l=false:=by
   intro l hl
   cases l with
   |nil=>rfl
   |cons q l=>
    have:(q::l).all (fun q=>mX q.2)=false:=List.all_eq_false.2 ⟨p,hl,by simp[hp]⟩
    rw[E5,this];simp
  exact this _ (by simp)
theorem Fp (r:Nat)(w:World):Calls Tryz.prog 143 #[.int .i32 (r:Int)] w fun e w'=>e= .returned (.bool (jI r))/\w=w':=by
 go_enter Tryz.func143,Tryz.ntmps143
 go_wp2
 all_goals
  go_ret
  refine⟨xE ?_,rfl⟩
  rw[Bool.eq_iff_iff,OT]
  simp only[Bool.or_eq_true,decide_eq_true_eq,bne_iff_ne,ne_eq,Bool.false_eq_true,true_iff,false_iff]
  omega
theorem VN (r:Nat)(w:World):Calls Tryz.prog 144 #[.int .i32 (r:Int)] w fun e w'=>e= .returned (.bool (mX r))/\w=w':=by
 have hr:=SK r
 go_enter Tryz.func144,Tryz.ntmps144
 go_wp2_with (go_at_call 143;refine(Fp _ _).mono ?_;rintro e w' ⟨rfl,rfl⟩)
 all_goals
  go_ret
  refine⟨xE ?_,rfl⟩
  rw[Bool.eq_iff_iff,hr]
  simp only[Bool.or_eq_true,decide_eq_true_eq,beq_iff_eq,Bool.false_eq_true,true_or,false_or,true_and, *]
  try omega
theorem name_any (s:ByteArray)(hs:s.size<=maxLen)(w:World):Calls Tryz.prog 98 #[.string s] w fun e w'=>e= .returned (.bool (kH s))/\Kept none' w w':=by
 obtain⟨w0,hrun,hit,hk0,hs0⟩:=JM (P:=Tryz.prog) w 9 s Tryz.underlying9
 have hlen:=zY s
 have H:=Lib.hid (And.intro hit (And.intro hk0 hs0))
 clear hit hk0 hs0
 unfold maxLen at hs
 go_enter Tryz.func98,Tryz.ntmps98
 go_wp2
 go_loopg [3] (runes s).length (fun k i wr=> ∃left done,rG wr w.heap.size s left/\runes s=done++left/\left.length=k/\i= .int .i64 ((done.length:Nat):Int)/\(∀q∈done,mX q.2=true)/\(∀q,done.head?=some q->jI q.2=true)/\Kept none' w wr)
 case atStart=>exact⟨runes s,[],H.out.1,rfl,rfl,rfl,by simp,by simp,H.out.2.1⟩
 case round=>
  obtain⟨left,done,hit,hall,hk,rfl,hd,hh,hk1⟩:=hrel
  have A:=Lib.hid (And.intro hall (And.intro hd (And.intro hh (And.intro hk hk1))))
  clear hall hd hh hk hk1
  rcases hit.next (P:=Tryz.prog) 0 with⟨rfl,hrun⟩|⟨p,left',w2,hp,hrun,hit2,hk2,hs2⟩
  ·clear hit
   obtain⟨h1,h2,h3,h4,h5⟩:=A.out
   rw[List.append_nil]at h1
   subst h1
   have F:=Lib.hid (XY h2 h3)
   clear h2 h3 A
   go_wp2
   all_goals
    go_ret
    refine⟨xE ?_,h5⟩
    rw[F.out,Bool.eq_iff_iff]
    simp only[Bool.and_eq_true,decide_eq_true_eq,Bool.false_eq_true,false_iff,iff_and_self, *]
    try omega
  ·clear hit
   have hk3:Kept none' w w2:=A.out.2.2.2.2.new hk2 (fun i hi e=>by unfold one at e;omega)
   have hl:runes s=done++p::left':=by rw[A.out.1,hp]
   have hstep:mX p.2=true->(done=[]->jI p.2=true)->(∀q∈done++[p],mX q.2=true)/\(∀q,(done++[p]).head?=some q->jI q.2=true):=fun g1 g2=>by
    refine⟨fun q hq=>?_,fun q hq=>?_⟩
    ·rcases List.mem_append.1 hq with hq|hq
     ·exact A.out.2.1 q hq
     ·rw[List.mem_singleton.1 hq];exact g1
    ·cases done with
     |nil=>simp at hq;subst hq;exact g2 rfl
     |cons x d=>exact A.out.2.2.1 q (by simpa using hq)
   have hm:left'.length<gk:=by have:=A.out.2.2.2.1;rw[hp]at this;simp at this;omega
   have G:=Lib.hid (And.intro hit2 (And.intro hk3 (And.intro hl (And.intro hstep hm))))
   clear hit2 hk3 hl hstep hm hp hk2 hs2 A H hlen
   go_wp2_with (first|(go_at_call 143;refine(Fp _ _).mono ?_;rintro e w' ⟨rfl,rfl⟩)|(go_at_call 144;refine(VN _ _).mono ?_;rintro e w' ⟨rfl,rfl⟩))
   ·rename_i h1 h2 h3
    go_ret
    exact⟨xE (Hq G.out.2.2.1 (.inr (by simpa using h3))).symm,G.out.2.1⟩
   ·rename_i h1 h2 h3
    go_roundg left'.length
    case rel=>
     obtain⟨g1,g2⟩:=G.out.2.2.2.1 (by simpa using h3) (fun _=>h2)
     exact⟨left',done++[p],G.out.1,by rw[G.out.2.2.1];simp,rfl,by subst h1;rfl,g1,g2,G.out.2.1⟩
    case measure=>exact G.out.2.2.2.2
   ·rename_i h1 h2
    go_ret
    exact⟨xE (Hq G.out.2.2.1 (.inl ⟨h1,by simpa using h2⟩)).symm,G.out.2.1⟩
   ·rename_i h1 h3
    go_ret
    exact⟨xE (Hq G.out.2.2.1 (.inr (by simpa using h3))).symm,G.out.2.1⟩
   ·rename_i h1 h3
    have hlt:done.length<9223372036854775807:=by
     have:=zY s
     rw[G.out.2.2.1]at this
     simp at this
     omega
    go_roundg left'.length
    case rel=>
     obtain⟨g1,g2⟩:=G.out.2.2.2.1 (by simpa using h3) (fun h=>absurd h h1)
     exact⟨left',done++[p],G.out.1,by rw[G.out.2.2.1];simp,rfl,by rw[show wrap64 ((done.length:Int)+1)=((done.length+1:Nat):Int) by unfold wrap64;omega,List.length_append];rfl,g1,g2,G.out.2.1⟩
    case measure=>exact G.out.2.2.2.2
end
section
open Go
section
variable {P:Program} {ops:Array Oper} {C:World->Prop} {Q:Act->World->Prop}
def JZ (ops:Array Oper)(listed:Array Bool):Option Nat:=
 (List.range ops.size).find? fun k=>y9 ops k&&(Region.ready .any ops listed).contains k&&Region.free .any ops listed k
def lX (P:Program)(ops:Array Oper)(C:World->Prop)(Q:Act->World->Prop):Nat->Array Bool->Act->World->Prop
 |0,listed,a,w=>C w/\(List.range ops.size).all (fun k=>listed.getD k true)=true/\Q a w
 |n+1,listed,a,w=>
  match JZ ops listed with
  |some k=>match ops[k]? with
   |none=>False
   |some o=> ∃v,(Region.wanted o (yielded ops a.tmps)=true/\(∀w',C w'->(execOp a.eval o).run P w'= .ok (.value v) w')\/Region.wanted o (yielded ops a.tmps)=false/\v=undef)/\lX P ops C Q n (listed.setIfInBounds k true) (a.put o.dst v) w
  |none=>Region.ready .any ops listed≠[]/\ ∀k∈Region.ready .any ops listed,∃o,ops[k]?=some o/\
    (if Region.wanted o (yielded ops a.tmps)=true then o.wp P a w (fun a' w'=>C w'/\lX P ops C Q n (listed.setIfInBounds k true) a' w') (jY Q)
     else lX P ops C Q n (listed.setIfInBounds k true) (a.put o.dst undef) w)
theorem qY (hs:Region.noSelect ops=true): ∀(n:Nat)(listed:Array Bool)(a:Act)(w:World),C w->lX P ops C Q n listed a w->xg P .any ops C false Q n listed a w
 |0,listed,a,w,hC,h=>by
  refine⟨fun _=>hC,fun k o hk=>?_,h.2.2⟩
  have:=h.2.1
  simp only[List.all_eq_true,List.mem_range]at this
  exact this k (Array.getElem?_eq_some_iff.1 hk).1
 |n+1,listed,a,w,hC,h=>by
  unfold lX at h
  split at h
  ·rename_i k hk
   have hk2:=List.find?_some hk
   simp only[Bool.and_eq_true]at hk2
   split at h
   ·exact h.elim
   ·rename_i o hok
    obtain⟨v,hv,hn⟩:=h
    have hr:k∈Region.ready .any ops listed:=by simpa using hk2.1.2
    exact uy hok (Region.noSelect_spec hs) n listed a w (Region.free_spec hok hk2.2) hC (fun hb=>by cases hb) hr hv (qY hs n _ _ w hC hn)
  ·refine⟨hC,fun h0=>absurd h0 h.1,fun k hk=>?_⟩
   obtain⟨o,hok,h2⟩:=h.2 k hk
   unfold wpOp
   simp only[hok]
   by_cases hw:Region.wanted o (yielded ops a.tmps)=true
   ·simp only[hw,if_true]at h2⊢
    exact .inl (Oper.wp_mono (fun a' w' h'=>qY hs n _ a' w' h'.1 h'.2) h2)
   ·simp only[hw]at h2⊢
    exact qY hs n _ _ w hC h2
theorem GH {id:Nat}{Q:Exit->Act->World->Prop}{a:Act}{w:World}(C:World->Prop)(hm:P.follows .mixedOrders=true)(hs:Region.noSelect ops=true)
 (hC:C w.drew) (h:lX P ops C (Q .normal) ops.size (Array.replicate ops.size false) a w.drew):(Code.region id ops true).wp P Q a w:=
 wp_region_any hm (yB (C:=C) (bar:=false) (Q:=Q .normal) (fun _ _ h=>h) _ _ _ _ (qY hs _ _ _ _ hC h))
theorem sU {n k:Nat}{listed:Array Bool}{a:Act}{w:World}{o:Oper}{v:Value}(hp:JZ ops listed=some k)(ho:ops[k]?=some o)(hw:Region.wanted o (yielded ops a.tmps)=true)
 (hv: ∀w',C w'->(execOp a.eval o).run P w'= .ok (.value v) w') (h:lX P ops C Q n (listed.setIfInBounds k true) (a.put o.dst v) w):lX P ops C Q (n+1) listed a w:=by
 unfold lX
 rw[hp]
 simp only[ho]
 exact⟨v, .inl ⟨hw,hv⟩,h⟩
theorem vM {n k:Nat}{listed:Array Bool}{a:Act}{w:World}{o:Oper}(hp:JZ ops listed=none)(hr:Region.ready .any ops listed=[k])(ho:ops[k]?=some o)(hw:Region.wanted o (yielded ops a.tmps)=true)
 (h: ∀K:Act->World->Prop,(∀a' w',C w'->lX P ops C Q n (listed.setIfInBounds k true) a' w'->K a' w')->o.wp P a w K (jY Q)):lX P ops C Q (n+1) listed a w:=by
 unfold lX
 rw[hp,hr]
 refine⟨by simp,fun j hj=>?_⟩
 obtain rfl:j=k:=by simpa using hj
 refine⟨o,ho,?_⟩
 rw[if_pos hw]
 exact h _ fun a' w' h1 h2=>⟨h1,h2⟩
theorem Xh {n i k:Nat}{listed:Array Bool}{a:Act}{w:World}{o o':Oper}(hp:JZ ops listed=none)(hr:Region.ready .any ops listed=[i,k])(ho:ops[i]?=some o)(hw:Region.wanted o (yielded ops a.tmps)=true)
 (ho':ops[k]?=some o') (hw':Region.wanted o' (yielded ops a.tmps)=true)
 (h: ∀K:Act->World->Prop,(∀a' w',C w'->lX P ops C Q n (listed.setIfInBounds i true) a' w'->K a' w')->o.wp P a w K (jY Q))
 (h': ∀K:Act->World->Prop,(∀a' w',C w'->lX P ops C Q n (listed.setIfInBounds k true) a' w'->K a' w')->o'.wp P a w K (jY Q)):lX P ops C Q (n+1) listed a w:=by
 unfold lX
 rw[hp,hr]
 refine⟨by simp,fun j hj=>?_⟩
 have hj:j=i\/j=k:=by simpa using hj
 rcases hj with rfl|rfl
 ·refine⟨o,ho,?_⟩
  rw[if_pos hw]
  exact h _ fun a' w' h1 h2=>⟨h1,h2⟩
 ·refine⟨o',ho',?_⟩
  rw[if_pos hw']
  exact h' _ fun a' w' h1 h2=>⟨h1,h2⟩
theorem KG {listed:Array Bool}{a:Act}{w:World}(hl:(List.range ops.size).all (fun k=>listed.getD k true)=true)(hC:C w)(h:Q a w):lX P ops C Q 0 listed a w:=⟨hC,hl,h⟩
end
end
end Go.Proofs.YtakhobfamnjnoaaGreatDoor
