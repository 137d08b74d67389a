/- job: twice at strings, ContainsFunc with may's closure, the rules; expr: Same at none. -/
import Derived.Test.YtglbkodmmogomaaGreatDoorM11
import Derived.Great.BuildSlice
set_option linter.unusedVariables false
set_option linter.unusedSimpArgs false
set_option maxHeartbeats 1000000
set_option maxRecDepth 100000
namespace Go.Proofs.YtglbkodmmogomaaGreatDoor
section
open Go Go.RowKit
attribute [local irreducible] bH
theorem JI (v:Value)(l:List ByteArray)(w:World)(h:Reads w 1 v (strs l)):Calls Tryz.prog 87 #[v] w (fun e w'=>e= .returned (.bool (!decide l.Nodup))/\w=w'):=by
 have hR:=h
 obtain⟨pa,ca,rfl,a1,a2,a3⟩:=h.GZ
 have A3:=Lib.hid (And.intro a3 hR)
 clear a3 hR
 have hlen:l.length<=9223372036854775807:=by unfold maxLen at a2;omega
 go_enter Tryz.func87,Tryz.ntmps87
 go_wp2_with fail
 go_loopg [7] l.length (fun m vk wr=> ∃k:Nat,k<=l.length/\m=l.length-k/\vk= .int .i64 (k:Int)/\(l.take k).Nodup/\wr=w)
 case atStart=>exact⟨0,Nat.zero_le _,rfl,rfl,by simp,rfl⟩
 case round=>
  obtain⟨k,hk,hm,rfl,ht,rfl⟩:=hrel
  have HT:=Lib.hid (And.intro ht hm)
  clear ht hm
  by_cases hlt:k<l.length
  ·obtain⟨y,hy⟩: ∃y,l[k]?=some y:=⟨_,List.getElem?_eq_getElem hlt⟩
   obtain⟨b,off,rfl,hc⟩:=A3.out.1.resolve_left (fun h=>by rw[h]at hlt;simp at hlt)
   have y0:=hc k y hy
   have hsl:=wQ (P:=Tryz.prog) (w:=wr) (a:=some ⟨b,off,none⟩) (n:=l.length) (cap:=ca) (i:=k) Tryz.underlying163 (Vt wr) (by omega) a1
   have hrd:=Reads.take A3.out.2 (i:=k) (by omega)
   have FV:Reads wr 1 (.slice (some ⟨b,off,none⟩) k ca) (strs (l.take k)):=by
    have:(strs l).take (k*1)=strs (l.take k):=by rw[Nat.mul_one];unfold strs;rw[List.map_take]
    rwa[this]at hrd
   have cc:=Eh _ (l.take k) y wr FV
   have HY:=Lib.hid hy
   clear hc hy A3 hrd FV
   by_cases hm:y∈l.take k
   ·have e1:decide (y∈l.take k)=true:=decide_eq_true hm
    rw[e1]at cc
    have F:=Lib.hid (Dn HY.out hm)
    clear hm e1
    go_wp2_with (go_at_call 133;refine cc.mono ?_;rintro e w' ⟨rfl,rfl⟩)
    go_ret
    exact⟨aX (by rw[decide_eq_false F.out];rfl),rfl⟩
   ·have e1:decide (y∈l.take k)=false:=decide_eq_false hm
    rw[e1]at cc
    have F:=Lib.hid ((zZ HY.out).2 ⟨HT.out.1,hm⟩)
    clear hm e1
    go_wp2_with (go_at_call 133;refine cc.mono ?_;rintro e w' ⟨rfl,rfl⟩)
    go_roundg (l.length-(k+1))
    case rel=>exact⟨k+1,by omega,rfl,by go_num,F.out,rfl⟩
    case measure=>have:=HT.out.2;omega
  ·have e1:k=l.length:=by omega
   subst e1
   have F:=Lib.hid (show l.Nodup by have:=HT.out.1;rwa[List.take_length]at this)
   clear HT
   go_wp2_with fail
   go_ret
   exact⟨aX (by rw[decide_eq_true F.out];rfl),rfl⟩
theorem O9 (i n:Int)(B:Nat)(w:World)(hc:w.cell? ⟨B,0,none⟩=some (.int .i64 n)):Calls Tryz.prog 130 #[.int .i64 i, .pointer (some ⟨B,0,none⟩)] w (fun e w'=>e= .returned (.bool (!(decide (0<=i)&&decide (i<n))))/\w=w'):=by
 by_cases h0:i<0
 ·have e1:(!(decide (0<=i)&&decide (i<n)))=true:=by rw[decide_eq_false (by omega)];rfl
  rw[e1]
  go_enter Tryz.func130,Tryz.ntmps130
  go_wp2
  go_ret
  exact⟨rfl,rfl⟩
 ·have e1:(!(decide (0<=i)&&decide (i<n)))=decide (n<=i):=by
   rw[decide_eq_true (by omega),Bool.true_and,<-decide_not];exact decide_eq_decide.2 (by omega)
  rw[e1]
  go_enter Tryz.func130,Tryz.ntmps130
  go_wp2
  go_ret
  exact⟨rfl,rfl⟩
def o9 (n:Int)(i:Int):Bool:=!(decide (0<=i)&&decide (i<n))
theorem BP (v:Value)(l:List Int)(n:Int)(B:Nat)(w:World)(h:Reads w 1 v (ints l))(hc:w.cell? ⟨B,0,none⟩=some (.int .i64 n)):
 Calls Tryz.prog 164 #[v, .func (.func 130) #[] #[.pointer (some ⟨B,0,none⟩)]] w (fun e w'=> ∃r:Int,e= .returned (.int .i64 r)/\(decide (0<=r)=l.any (o9 n))/\w=w'):=by
 obtain⟨pa,ca,rfl,a1,a2,a3⟩:=h.at
 unfold maxLen at a2
 have A3:=Lib.hid a3
 have HC:=Lib.hid hc
 clear h a3 hc
 go_enter Tryz.func164,Tryz.ntmps164
 go_wp2_with fail
 go_loopw [8] (fun i wr=> ∃k:Nat,k<=l.length/\i= .int .i64 (k:Int)/\(l.take k).any (o9 n)=false/\wr=w) (fun i _=>l.length-(intOf i).toNat)
 case atStart=>exact⟨0,by omega,rfl,by simp,rfl⟩
 case round=>
  obtain⟨k,hk,rfl,ht,rfl⟩:=hrel
  have HT:=Lib.hid ht
  clear ht
  by_cases hlt:k<l.length
  ·obtain⟨y,hy⟩: ∃y,l[k]?=some y:=⟨_,List.getElem?_eq_getElem hlt⟩
   obtain⟨b,off,rfl,hcc⟩:=A3.out.resolve_left (fun h=>by rw[h]at hlt;simp at hlt)
   have y0:=hcc k y hy
   have HY:=Lib.hid hy
   have cc:=O9 y n B wr HC.out
   change Calls Tryz.prog 130 #[.int .i64 y, .pointer (some ⟨B,0,none⟩)] wr (fun e w'=>e= .returned (.bool (o9 n y))/\wr=w')at cc
   clear hcc hy A3
   cases ho:o9 n y with
   |true=>
    rw[ho]at cc
    have F:=Lib.hid (show l.any (o9 n)=true by rw[List.any_eq_true];exact⟨y,List.mem_of_getElem? HY.out,ho⟩)
    clear ho
    go_wp2_with (go_at_call 130;refine cc.mono ?_;rintro e w' ⟨rfl,rfl⟩)
    go_ret
    exact⟨k,rfl,by rw[F.out,decide_eq_true (by omega)],rfl⟩
   |false=>
    rw[ho]at cc
    have F:=Lib.hid (uj HY.out HT.out ho)
    clear ho
    go_wp2_with (go_at_call 130;refine cc.mono ?_;rintro e w' ⟨rfl,rfl⟩)
    go_roundw
    case rel=>exact⟨k+1,by omega,by go_num,F.out,by first|trivial|rfl⟩
    case measure=>simp[intOf];omega
  ·have F:=Lib.hid (show l.any (o9 n)=false by have:=HT.out;rwa[List.take_of_length_le (by omega)]at this)
   have e1:k=l.length:=by omega
   subst e1
   go_wp2_with fail
   go_ret
   exact⟨-1,rfl,by rw[F.out];rfl,rfl⟩
theorem qL (v:Value)(l:List Int)(n:Int)(B:Nat)(w:World)(h:Reads w 1 v (ints l))(hc:w.cell? ⟨B,0,none⟩=some (.int .i64 n)):
 Calls Tryz.prog 129 #[v, .func (.func 130) #[] #[.pointer (some ⟨B,0,none⟩)]] w (fun e w'=>e= .returned (.bool (l.any (o9 n)))/\w=w'):=by
 have c:=BP v l n B w h hc
 obtain⟨pa,ca,rfl,a1,a2,a3⟩:=h.at
 clear h a3 hc
 go_enter Tryz.func129,Tryz.ntmps129
 go_wp2_with fail
 refine c.mono ?_
 rintro e w2 ⟨r,rfl,hn,rfl⟩
 have F:=Lib.hid hn
 clear hn
 go_wp2_with fail
 go_ret
 exact⟨aX (by rw[<-F.out]),rfl⟩
theorem Oa (x:Ex):iV x=(x.op==0&&x.n==0&&decide (x.args.length=0)):=by
 unfold iV
 cases x.args<;>simp
theorem GK (p:Option Addr)(n cap:Nat)(w:World):Calls Tryz.prog 165 #[.slice p n cap, .slice none 0 0, .func (.func 131) #[] #[]] w (fun e w'=>e= .returned (.bool (decide (n=0)))/\w=w'):=by
 go_enter Tryz.func165,Tryz.ntmps165
 by_cases h:n=0
 ·subst h
  go_wp2_with fail
  go_loopg [17] 1 (fun g vi wr=>vi= .int .i64 0/\wr=w)
  case atStart=>exact⟨rfl,rfl⟩
  case round=>
   obtain⟨rfl,rfl⟩:=hrel
   go_wp2_with fail
   go_ret
   exact⟨rfl,rfl⟩
 ·have e:((n:Int) !=0)=true:=by simp;omega
  rw[decide_eq_false h]
  clear h
  go_wp2_with fail
  go_ret
  exact⟨rfl,rfl⟩
theorem CP (x:Ex)(a:Array Value)(w:World)(h:aC w a x):Calls Tryz.prog 131 #[.agg a, .agg #[.int .u8 0, .int .i64 0, .slice none 0 0]] w (Gives w (.bool (iV x))):=by
 obtain⟨p,cap,rfl,h0,h1,h2,h3,h4,h5⟩:=h.parts
 have HX:=Lib.hid (Oa x)
 unfold maxLen at h4
 clear h h5
 go_enter Tryz.func131,Tryz.ntmps131
 by_cases b1:x.op=0
 ·have c1:(x.op==0)=true:=by simp[b1]
  rw[c1]at HX
  by_cases b2:x.n=0
  ·have c2:(x.n==0)=true:=by simp[b2]
   rw[c2]at HX
   by_cases b3:x.args.length=0
   ·have c3:decide (x.args.length=0)=true:=by simp[b3]
    rw[c3]at HX
    have cc:=fun w=>GK p x.args.length cap w
    rw[c3]at cc
    clear b1 b2 b3 c3
    go_wp2_with fail
    refine(cc _).mono ?_
    rintro e w2 ⟨rfl,rfl⟩
    go_wp2_with fail
    go_ret
    exact⟨aF (by rw[HX.out];rfl),((Kept.refl _ _).alloc _).alloc _⟩
   ·have c3:decide (x.args.length=0)=false:=by simp[b3]
    rw[c3]at HX
    have cc:=fun w=>GK p x.args.length cap w
    rw[c3]at cc
    clear b1 b2 b3 c3
    go_wp2_with fail
    refine(cc _).mono ?_
    rintro e w2 ⟨rfl,rfl⟩
    go_wp2_with fail
    go_ret
    exact⟨aF (by rw[HX.out];rfl),((Kept.refl _ _).alloc _).alloc _⟩
  ·have c2:(x.n==0)=false:=by simp[b2]
   rw[c2]at HX
   clear b1 b2
   go_wp2_with fail
   go_ret
   exact⟨aF (by rw[HX.out];rfl),((Kept.refl _ _).alloc _).alloc _⟩
 ·have c1:(x.op==0)=false:=by simp[b1]
  rw[c1]at HX
  clear b1
  go_wp2_with fail
  go_ret
  exact⟨aF (by rw[HX.out];rfl),((Kept.refl _ _).alloc _).alloc _⟩
end
section
open Go Go.RowKit
def gQ (a b t:Int)(c:Bool)(n:Int):List Value:=[.int .i64 a, .int .i64 b, .int .u8 t, .bool c, .int .i64 n]
def nS:Array Value:=(gQ 0 0 0 false 0++gQ 0 0 0 false 0++gQ 1 1 1 false 0++gQ 1 1 2 false 0++gQ 1 1 1 false 0++gQ 1 1 1 false 0++gQ 1 1 1 true 0++gQ 1 1 0 false 16++gQ 2 3 0 false 0++gQ 1 1 0 false 0).toArray
theorem KO (w:World):Calls Tryz.prog 127 #[] w (fun e w'=>e= .returned (.agg nS)/\Kept none' w w'/\w'.heap.size=w.heap.size+1):=by
 go_enter Tryz.func127,Tryz.ntmps127
 apply wp_seq_k;intro K0 hK0
 have JE:=Lib.hid hK0
 clear hK0
 go_wp2_with fail
 refine JE.out _ _ ?_
 clear JE
 obtain⟨W0,hW0⟩: ∃W0,(w.alloc (.cells #[.int .i64 0, .int .i64 0, .int .u8 0, .bool false, .int .i64 0, .int .i64 0, .int .i64 0, .int .u8 0, .bool false, .int .i64 0, .int .i64 0, .int .i64 0, .int .u8 0, .bool false, .int .i64 0, .int .i64 0, .int .i64 0, .int .u8 0, .bool false, .int .i64 0, .int .i64 0, .int .i64 0, .int .u8 0, .bool false, .int .i64 0, .int .i64 0, .int .i64 0, .int .u8 0, .bool false, .int .i64 0, .int .i64 0, .int .i64 0, .int .u8 0, .bool false, .int .i64 0, .int .i64 0, .int .i64 0, .int .u8 0, .bool false, .int .i64 0, .int .i64 0, .int .i64 0, .int .u8 0, .bool false, .int .i64 0, .int .i64 0, .int .i64 0, .int .u8 0, .bool false, .int .i64 0] 202))=W0:=⟨_,rfl⟩
 have hB: ∃old,W0.heap[w.heap.size]?=some (.cells old 202 (0,0))/\old.size=50:=by rw[<-hW0];exact⟨_,heap_alloc_new _ _,rfl⟩
 have hk:Kept none' w W0/\W0.heap.size=w.heap.size+1:=by rw[<-hW0];exact⟨(Kept.refl _ _).alloc _,by simp⟩
 rw[hW0]
 clear hW0
 obtain⟨old,hB,hold⟩:=hB
 apply wp_seq_k;intro K1 hK1
 apply wp_region_lit
 refine wpList_buildTo rfl 201 _ rfl (some 1) rfl (gQ 0 0 0 false 0).toArray (by kernel_rfl) ?_
 refine wpList_buildTo rfl 201 _ rfl (some 2) rfl (gQ 1 1 1 false 0).toArray (by kernel_rfl) ?_
 refine wpList_buildTo rfl 201 _ rfl (some 3) rfl (gQ 1 1 2 false 0).toArray (by kernel_rfl) ?_
 refine wpList_buildTo rfl 201 _ rfl (some 4) rfl (gQ 1 1 1 false 0).toArray (by kernel_rfl) ?_
 refine wpList_buildTo rfl 201 _ rfl (some 5) rfl (gQ 1 1 1 false 0).toArray (by kernel_rfl) ?_
 refine wpList_buildTo rfl 201 _ rfl (some 6) rfl (gQ 1 1 1 true 0).toArray (by kernel_rfl) ?_
 refine wpList_buildTo rfl 201 _ rfl (some 7) rfl (gQ 1 1 0 false 16).toArray (by kernel_rfl) ?_
 refine wpList_buildTo rfl 201 _ rfl (some 8) rfl (gQ 2 3 0 false 0).toArray (by kernel_rfl) ?_
 refine wpList_buildTo rfl 201 _ rfl (some 9) rfl (gQ 1 1 0 false 0).toArray (by kernel_rfl) ?_
 refine wpList_buildTo rfl 202 _ rfl (some 10) rfl nS (by kernel_rfl) ?_
 refine wpList_store_rowTo rfl 202 _ _ rfl rfl w.heap.size nS (by as_aux_lemma=>kernel_rfl) (by as_aux_lemma=>kernel_rfl) 202 old hB (by kernel_rfl) hold (by kernel_rfl) ?_
 apply wpList_nil
 refine hK1 _ _ ?_
 have hset:=setRow_heap W0 w.heap.size old nS 202 (0,0) hB
 have hks:Kept none' w (W0.setRow w.heap.size nS)/\(W0.setRow w.heap.size nS).heap.size=w.heap.size+1:=by
  unfold World.setRow
  refine⟨⟨hk.1.os,hk.1.tape,hk.1.output,by simp[hk.2],fun k hkk hn=>?_⟩,by simp[hk.2]⟩
  rw[<-hk.1.block k hkk hn]
  simp only[Array.getElem?_modify]
  rw[if_neg (by omega)]
 have HS:=Lib.hid (And.intro hset hks)
 clear hset hks hk hB
 apply wp_ret
 refine bodyPost_ret (results_cell_row (p:=0) (ty:=202) rfl _ _ w.heap.size 202 nS (0,0) _ (by as_aux_lemma=>kernel_rfl) HS.out.1 Tryz.underlying202 rfl (by kernel_rfl)) rfl ⟨rfl,HS.out.2⟩
end
end Go.Proofs.YtglbkodmmogomaaGreatDoor
