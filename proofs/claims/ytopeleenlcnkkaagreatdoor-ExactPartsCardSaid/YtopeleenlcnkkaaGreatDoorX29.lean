/- job: twice at strings, ContainsFunc with may's closure, the rules; expr: Same at none. -/
import Derived.Great.BuildSlice
import Derived.Test.YtopeleenlcnkkaaGreatDoorX21
set_option linter.unusedVariables false
set_option linter.unusedSimpArgs false
set_option maxHeartbeats 1000000
set_option maxRecDepth 100000
namespace Go.Proofs.YtopeleenlcnkkaaGreatDoor
section
open Go Go.RowKit
attribute [local irreducible] bU
theorem QF (v:Value)(l:List ByteArray)(w:World)(h:Reads w 1 v (strs l)):Calls Tryz.prog 67 #[v] w (fun e w'=>e= .returned (.bool (!decide l.Nodup))/\w=w'):=by
 have hR:=h
 obtain⟨pa,ca,rfl,a1,a2,a3⟩:=h.NY
 have A3:=Lib.hid (And.intro a3 hR)
 clear a3 hR
 have hlen:l.length<=9223372036854775807:=by unfold maxLen at a2;omega
 go_enter Tryz.func67,Tryz.ntmps67
 go_wp2_with fail
 go_loopg [7] l.length (fun m vk wr=> ∃k:Nat,k<=l.length/\m=l.length-k/\vk= .int .i64 (k:Int)/\(l.take k).Nodup/\wr=w)
 case atStart=>exact⟨0,Nat.zero_le _,rfl,rfl,by simp,rfl⟩
 case round=>
  obtain⟨k,hk,hm,rfl,ht,rfl⟩:=hrel
  have HT:=Lib.hid (And.intro ht hm)
  clear ht hm
  by_cases hlt:k<l.length
  ·obtain⟨y,hy⟩: ∃y,l[k]?=some y:=⟨_,List.getElem?_eq_getElem hlt⟩
   obtain⟨b,off,rfl,hc⟩:=A3.out.1.resolve_left (fun h=>by rw[h]at hlt;simp at hlt)
   have y0:=hc k y hy
   have hsl:=zT (P:=Tryz.prog) (w:=wr) (a:=some ⟨b,off,none⟩) (n:=l.length) (cap:=ca) (i:=k) Tryz.underlying137 (adC wr) (by omega) a1
   have hrd:=Reads.take A3.out.2 (i:=k) (by omega)
   have Na:Reads wr 1 (.slice (some ⟨b,off,none⟩) k ca) (strs (l.take k)):=by
    have:(strs l).take (k*1)=strs (l.take k):=by rw[Nat.mul_one];unfold strs;rw[List.map_take]
    rwa[this]at hrd
   have cc:=Hg _ (l.take k) y wr Na
   have HY:=Lib.hid hy
   clear hc hy A3 hrd Na
   by_cases hm:y∈l.take k
   ·have e1:decide (y∈l.take k)=true:=decide_eq_true hm
    rw[e1]at cc
    have F:=Lib.hid (Gu HY.out hm)
    clear hm e1
    go_wp2_with (go_at_call 108;refine cc.mono ?_;rintro e w' ⟨rfl,rfl⟩)
    go_ret
    exact⟨dZ (by rw[decide_eq_false F.out];rfl),rfl⟩
   ·have e1:decide (y∈l.take k)=false:=decide_eq_false hm
    rw[e1]at cc
    have F:=Lib.hid ((DX HY.out).2 ⟨HT.out.1,hm⟩)
    clear hm e1
    go_wp2_with (go_at_call 108;refine cc.mono ?_;rintro e w' ⟨rfl,rfl⟩)
    go_roundg (l.length-(k+1))
    case rel=>exact⟨k+1,by omega,rfl,by go_num,F.out,rfl⟩
    case measure=>have:=HT.out.2;omega
  ·have e1:k=l.length:=by omega
   subst e1
   have F:=Lib.hid (show l.Nodup by have:=HT.out.1;rwa[List.take_length]at this)
   clear HT
   go_wp2_with fail
   go_ret
   exact⟨dZ (by rw[decide_eq_true F.out];rfl),rfl⟩
theorem X9 (i n:Int)(B:Nat)(w:World)(hc:w.cell? ⟨B,0,none⟩=some (.int .i64 n)):Calls Tryz.prog 105 #[.int .i64 i, .pointer (some ⟨B,0,none⟩)] w (fun e w'=>e= .returned (.bool (!(decide (0<=i)&&decide (i<n))))/\w=w'):=by
 by_cases h0:i<0
 ·have e1:(!(decide (0<=i)&&decide (i<n)))=true:=by rw[decide_eq_false (by omega)];rfl
  rw[e1]
  go_enter Tryz.func105,Tryz.ntmps105
  go_wp2
  go_ret
  exact⟨rfl,rfl⟩
 ·have e1:(!(decide (0<=i)&&decide (i<n)))=decide (n<=i):=by
   rw[decide_eq_true (by omega),Bool.true_and,<-decide_not];exact decide_eq_decide.2 (by omega)
  rw[e1]
  go_enter Tryz.func105,Tryz.ntmps105
  go_wp2
  go_ret
  exact⟨rfl,rfl⟩
def qW (n:Int)(i:Int):Bool:=!(decide (0<=i)&&decide (i<n))
theorem Fq (v:Value)(l:List Int)(n:Int)(B:Nat)(w:World)(h:Reads w 1 v (ints l))(hc:w.cell? ⟨B,0,none⟩=some (.int .i64 n)):
 Calls Tryz.prog 126 #[v, .func (.func 105) #[] #[.pointer (some ⟨B,0,none⟩)]] w (fun e w'=> ∃r:Int,e= .returned (.int .i64 r)/\(decide (0<=r)=l.any (qW n))/\w=w'):=by
 obtain⟨pa,ca,rfl,a1,a2,a3⟩:=h.at
 unfold maxLen at a2
 have A3:=Lib.hid a3
 have HC:=Lib.hid hc
 clear h a3 hc
 go_enter Tryz.func126,Tryz.ntmps126
 go_wp2_with fail
 go_loopw [8] (fun i wr=> ∃k:Nat,k<=l.length/\i= .int .i64 (k:Int)/\(l.take k).any (qW n)=false/\wr=w) (fun i _=>l.length-(intOf i).toNat)
 case atStart=>exact⟨0,by omega,rfl,by simp,rfl⟩
 case round=>
  obtain⟨k,hk,rfl,ht,rfl⟩:=hrel
  have HT:=Lib.hid ht
  clear ht
  by_cases hlt:k<l.length
  ·obtain⟨y,hy⟩: ∃y,l[k]?=some y:=⟨_,List.getElem?_eq_getElem hlt⟩
   obtain⟨b,off,rfl,hcc⟩:=A3.out.resolve_left (fun h=>by rw[h]at hlt;simp at hlt)
   have y0:=hcc k y hy
   have HY:=Lib.hid hy
   have cc:=X9 y n B wr HC.out
   change Calls Tryz.prog 105 #[.int .i64 y, .pointer (some ⟨B,0,none⟩)] wr (fun e w'=>e= .returned (.bool (qW n y))/\wr=w')at cc
   clear hcc hy A3
   cases ho:qW n y with
   |true=>
    rw[ho]at cc
    have F:=Lib.hid (show l.any (qW n)=true by rw[List.any_eq_true];exact⟨y,List.mem_of_getElem? HY.out,ho⟩)
    clear ho
    go_wp2_with (go_at_call 105;refine cc.mono ?_;rintro e w' ⟨rfl,rfl⟩)
    go_ret
    exact⟨k,rfl,by rw[F.out,decide_eq_true (by omega)],rfl⟩
   |false=>
    rw[ho]at cc
    have F:=Lib.hid (CJ HY.out HT.out ho)
    clear ho
    go_wp2_with (go_at_call 105;refine cc.mono ?_;rintro e w' ⟨rfl,rfl⟩)
    go_roundw
    case rel=>exact⟨k+1,by omega,by go_num,F.out,by first|trivial|rfl⟩
    case measure=>simp[intOf];omega
  ·have F:=Lib.hid (show l.any (qW n)=false by have:=HT.out;rwa[List.take_of_length_le (by omega)]at this)
   have e1:k=l.length:=by omega
   subst e1
   go_wp2_with fail
   go_ret
   exact⟨-1,rfl,by rw[F.out];rfl,rfl⟩
theorem uf (v:Value)(l:List Int)(n:Int)(B:Nat)(w:World)(h:Reads w 1 v (ints l))(hc:w.cell? ⟨B,0,none⟩=some (.int .i64 n)):
 Calls Tryz.prog 104 #[v, .func (.func 105) #[] #[.pointer (some ⟨B,0,none⟩)]] w (fun e w'=>e= .returned (.bool (l.any (qW n)))/\w=w'):=by
 have c:=Fq v l n B w h hc
 obtain⟨pa,ca,rfl,a1,a2,a3⟩:=h.at
 clear h a3 hc
 go_enter Tryz.func104,Tryz.ntmps104
 go_wp2_with fail
 refine c.mono ?_
 rintro e w2 ⟨r,rfl,hn,rfl⟩
 have F:=Lib.hid hn
 clear hn
 go_wp2_with fail
 go_ret
 exact⟨dZ (by rw[<-F.out]),rfl⟩
theorem Ws (x:Ex):oh x=(x.op==0&&x.n==0&&decide (x.args.length=0)):=by
 unfold oh
 cases x.args<;>simp
theorem NQ (p:Option Addr)(n cap:Nat)(w:World):Calls Tryz.prog 127 #[.slice p n cap, .slice none 0 0, .func (.func 106) #[] #[]] w (fun e w'=>e= .returned (.bool (decide (n=0)))/\w=w'):=by
 go_enter Tryz.func127,Tryz.ntmps127
 by_cases h:n=0
 ·subst h
  go_wp2_with fail
  go_loopg [17] 1 (fun g vi wr=>vi= .int .i64 0/\wr=w)
  case atStart=>exact⟨rfl,rfl⟩
  case round=>
   obtain⟨rfl,rfl⟩:=hrel
   go_wp2_with fail
   go_ret
   exact⟨rfl,rfl⟩
 ·have e:((n:Int) !=0)=true:=by simp;omega
  rw[decide_eq_false h]
  clear h
  go_wp2_with fail
  go_ret
  exact⟨rfl,rfl⟩
theorem Gh (x:Ex)(a:Array Value)(w:World)(h:aC w a x):Calls Tryz.prog 106 #[.agg a, .agg #[.int .u8 0, .int .i64 0, .slice none 0 0]] w (Gives w (.bool (oh x))):=by
 obtain⟨p,cap,rfl,h0,h1,h2,h3,h4,h5⟩:=h.parts
 have HX:=Lib.hid (Ws x)
 unfold maxLen at h4
 clear h h5
 go_enter Tryz.func106,Tryz.ntmps106
 by_cases b1:x.op=0
 ·have c1:(x.op==0)=true:=by simp[b1]
  rw[c1]at HX
  by_cases b2:x.n=0
  ·have c2:(x.n==0)=true:=by simp[b2]
   rw[c2]at HX
   by_cases b3:x.args.length=0
   ·have c3:decide (x.args.length=0)=true:=by simp[b3]
    rw[c3]at HX
    have cc:=fun w=>NQ p x.args.length cap w
    rw[c3]at cc
    clear b1 b2 b3 c3
    go_wp2_with fail
    refine(cc _).mono ?_
    rintro e w2 ⟨rfl,rfl⟩
    go_wp2_with fail
    go_ret
    exact⟨dW (by rw[HX.out];rfl),((Kept.refl _ _).alloc _).alloc _⟩
   ·have c3:decide (x.args.length=0)=false:=by simp[b3]
    rw[c3]at HX
    have cc:=fun w=>NQ p x.args.length cap w
    rw[c3]at cc
    clear b1 b2 b3 c3
    go_wp2_with fail
    refine(cc _).mono ?_
    rintro e w2 ⟨rfl,rfl⟩
    go_wp2_with fail
    go_ret
    exact⟨dW (by rw[HX.out];rfl),((Kept.refl _ _).alloc _).alloc _⟩
  ·have c2:(x.n==0)=false:=by simp[b2]
   rw[c2]at HX
   clear b1 b2
   go_wp2_with fail
   go_ret
   exact⟨dW (by rw[HX.out];rfl),((Kept.refl _ _).alloc _).alloc _⟩
 ·have c1:(x.op==0)=false:=by simp[b1]
  rw[c1]at HX
  clear b1
  go_wp2_with fail
  go_ret
  exact⟨dW (by rw[HX.out];rfl),((Kept.refl _ _).alloc _).alloc _⟩
end
section
open Go Go.RowKit
def iT (a b t:Int)(c:Bool)(n:Int):List Value:=[.int .i64 a, .int .i64 b, .int .u8 t, .bool c, .int .i64 n]
def pV:Array Value:=(iT 0 0 0 false 0++iT 0 0 0 false 0++iT 1 1 1 false 0++iT 1 1 2 false 0++iT 1 1 1 false 0++iT 1 1 1 false 0++iT 1 1 1 true 0++iT 1 1 0 false 16++iT 2 3 0 false 0++iT 1 1 0 false 0).toArray
theorem RF (w:World):Calls Tryz.prog 102 #[] w (fun e w'=>e= .returned (.agg pV)/\Kept none' w w'/\w'.heap.size=w.heap.size+1):=by
 go_enter Tryz.func102,Tryz.ntmps102
 apply wp_seq_k;intro K0 hK0
 have HK0:=Lib.hid hK0
 clear hK0
 go_wp2_with fail
 refine HK0.out _ _ ?_
 clear HK0
 obtain⟨W0,hW0⟩: ∃W0,(w.alloc (.cells #[.int .i64 0, .int .i64 0, .int .u8 0, .bool false, .int .i64 0, .int .i64 0, .int .i64 0, .int .u8 0, .bool false, .int .i64 0, .int .i64 0, .int .i64 0, .int .u8 0, .bool false, .int .i64 0, .int .i64 0, .int .i64 0, .int .u8 0, .bool false, .int .i64 0, .int .i64 0, .int .i64 0, .int .u8 0, .bool false, .int .i64 0, .int .i64 0, .int .i64 0, .int .u8 0, .bool false, .int .i64 0, .int .i64 0, .int .i64 0, .int .u8 0, .bool false, .int .i64 0, .int .i64 0, .int .i64 0, .int .u8 0, .bool false, .int .i64 0, .int .i64 0, .int .i64 0, .int .u8 0, .bool false, .int .i64 0, .int .i64 0, .int .i64 0, .int .u8 0, .bool false, .int .i64 0] 175))=W0:=⟨_,rfl⟩
 have hB: ∃old,W0.heap[w.heap.size]?=some (.cells old 175 (0,0))/\old.size=50:=by rw[<-hW0];exact⟨_,heap_alloc_new _ _,rfl⟩
 have hk:Kept none' w W0/\W0.heap.size=w.heap.size+1:=by rw[<-hW0];exact⟨(Kept.refl _ _).alloc _,by simp⟩
 rw[hW0]
 clear hW0
 obtain⟨old,hB,hold⟩:=hB
 apply wp_seq_k;intro K1 hK1
 apply wp_region_lit
 refine wpList_buildTo rfl 174 _ rfl (some 1) rfl (iT 0 0 0 false 0).toArray (by kernel_rfl) ?_
 refine wpList_buildTo rfl 174 _ rfl (some 2) rfl (iT 1 1 1 false 0).toArray (by kernel_rfl) ?_
 refine wpList_buildTo rfl 174 _ rfl (some 3) rfl (iT 1 1 2 false 0).toArray (by kernel_rfl) ?_
 refine wpList_buildTo rfl 174 _ rfl (some 4) rfl (iT 1 1 1 false 0).toArray (by kernel_rfl) ?_
 refine wpList_buildTo rfl 174 _ rfl (some 5) rfl (iT 1 1 1 false 0).toArray (by kernel_rfl) ?_
 refine wpList_buildTo rfl 174 _ rfl (some 6) rfl (iT 1 1 1 true 0).toArray (by kernel_rfl) ?_
 refine wpList_buildTo rfl 174 _ rfl (some 7) rfl (iT 1 1 0 false 16).toArray (by kernel_rfl) ?_
 refine wpList_buildTo rfl 174 _ rfl (some 8) rfl (iT 2 3 0 false 0).toArray (by kernel_rfl) ?_
 refine wpList_buildTo rfl 174 _ rfl (some 9) rfl (iT 1 1 0 false 0).toArray (by kernel_rfl) ?_
 refine wpList_buildTo rfl 175 _ rfl (some 10) rfl pV (by kernel_rfl) ?_
 refine wpList_store_rowTo rfl 175 _ _ rfl rfl w.heap.size pV (by as_aux_lemma=>kernel_rfl) (by as_aux_lemma=>kernel_rfl) 175 old hB (by kernel_rfl) hold (by kernel_rfl) ?_
 apply wpList_nil
 refine hK1 _ _ ?_
 have hset:=setRow_heap W0 w.heap.size old pV 175 (0,0) hB
 have hks:Kept none' w (W0.setRow w.heap.size pV)/\(W0.setRow w.heap.size pV).heap.size=w.heap.size+1:=by
  unfold World.setRow
  refine⟨⟨hk.1.os,hk.1.tape,hk.1.output,by simp[hk.2],fun k hkk hn=>?_⟩,by simp[hk.2]⟩
  rw[<-hk.1.block k hkk hn]
  simp only[Array.getElem?_modify]
  rw[if_neg (by omega)]
 have HS:=Lib.hid (And.intro hset hks)
 clear hset hks hk hB
 apply wp_ret
 refine bodyPost_ret (results_cell_row (p:=0) (ty:=175) rfl _ _ w.heap.size 175 pV (0,0) _ (by as_aux_lemma=>kernel_rfl) HS.out.1 Tryz.underlying175 rfl (by kernel_rfl)) rfl ⟨rfl,HS.out.2⟩
end
section
open Go Go.RowKit
attribute [local irreducible] bU dL
theorem aaE (k:Int)(h1:1<=k)(h2:k<=9)(w:World):(Instr.index 175 (.agg pV) (.int .u8 k)).run Tryz.prog w= .ok (.agg (iT (jc k) (iG k) (sK k) (qF k) (jN k)).toArray) w:=by
 have hk:k=1\/k=2\/k=3\/k=4\/k=5\/k=6\/k=7\/k=8\/k=9:=by omega
 rcases hk with h|h|h|h|h|h|h|h|h
 all_goals(subst h;clear h1 h2;apply Eq.symm;apply Eq.symm;kernel_rfl)
structure oq (w:World)(B:Nat)(L M:Int)(t:Int)(c:Bool)(N:Int):Prop where
 r0:w.cell? ⟨B,0,none⟩=some (.int .i64 L)
 r1:w.cell? ⟨B,1,none⟩=some (.int .i64 M)
 r2:w.cell? ⟨B,2,none⟩=some (.int .u8 t)
 r3:w.cell? ⟨B,3,none⟩=some (.bool c)
 r4:w.cell? ⟨B,4,none⟩=some (.int .i64 N)
theorem oq.of {w:World}{B E:Nat}{L M t N:Int}{c:Bool}(h:w.heap[B]?=some (.cells #[.int .i64 L, .int .i64 M, .int .u8 t, .bool c, .int .i64 N] E (0,0))):oq w B L M t c N:=
 ⟨cells_at h rfl,cells_at h rfl,cells_at h rfl,cells_at h rfl,cells_at h rfl⟩
theorem oq.pure {w w':World}{B:Nat}{L M t N:Int}{c:Bool}(h:oq w B L M t c N)(hk:Kept none' w w'):oq w' B L M t c N:=
 ⟨hk.cell (fun h=>h) h.r0,hk.cell (fun h=>h) h.r1,hk.cell (fun h=>h) h.r2,hk.cell (fun h=>h) h.r3,hk.cell (fun h=>h) h.r4⟩
theorem afl {w:World}{B E:Nat}{a b c d e a' b' c' d' e':Value}(h:w.heap[B]?=some (.cells #[a,b,c,d,e] E (0,0))):
 (((((w.setCell ⟨B,0,none⟩ a').setCell ⟨B,1,none⟩ b').setCell ⟨B,2,none⟩ c').setCell ⟨B,3,none⟩ d').setCell ⟨B,4,none⟩ e').heap[B]?=some (.cells #[a',b',c',d',e'] E (0,0)):=by
 have h1:=aK h 0 a'
 have h2:=aK h1 1 b'
 have h3:=aK h2 2 c'
 have h4:=aK h3 3 d'
 have h5:=aK h4 4 e'
 simpa using h5
theorem adH {w0 w:World}{B:Nat}{a b c d e:Value}(h:Kept none' w0 w)(hB:w0.heap.size<=B):
 Kept none' w0 (((((w.setCell ⟨B,0,none⟩ a).setCell ⟨B,1,none⟩ b).setCell ⟨B,2,none⟩ c).setCell ⟨B,3,none⟩ d).setCell ⟨B,4,none⟩ e):=
 ((((h.setCell (p:=⟨B,0,none⟩) (.inr hB) _).setCell (p:=⟨B,1,none⟩) (.inr hB) _).setCell (p:=⟨B,2,none⟩) (.inr hB) _).setCell (p:=⟨B,3,none⟩) (.inr hB) _).setCell (p:=⟨B,4,none⟩) (.inr hB) _
theorem Ya (d:JN)(a:Array Value)(at_:Nat)(w:World)(h:nG w a d)(hat:at_<=1000):Calls Tryz.prog 66 #[.agg a, .int .i64 (at_:Int)] w (Gives w (.bool (dU at_ d))):=by
 have h0:=h
 obtain⟨pi,ci,p,cap,rfl,h1,h2,h3,h4,h5,h6,h7⟩:=h0
 have H:=Lib.hid (And.intro h1 (And.intro h2 h7))
 clear h1 h2 h3 h h7
 go_enter Tryz.func66,Tryz.ntmps66
 go_wp2_with fail
 obtain⟨W0,hW0⟩: ∃W0,(w.alloc (.cells (bF d pi ci p cap) 97)).alloc (.cells #[.int .i64 (at_:Int)] 3)=W0:=⟨_,rfl⟩
 have k0:Kept none' w W0:=by rw[<-hW0];exact((Kept.refl _ _).alloc _).alloc _
 have kA:Kept none' (w.alloc (.cells (bF d pi ci p cap) 97)) W0:=by rw[<-hW0];exact(Kept.refl _ _).alloc _
 have c0:W0.cell? ⟨w.heap.size,0,none⟩=some (.string d.uid):=kA.cell (fun h=>h) (by simp)
 have c1:W0.cell? ⟨w.heap.size,1,none⟩=some (.int .u8 d.kind):=kA.cell (fun h=>h) (by simp)
 have c2:W0.cell? ⟨w.heap.size,2,none⟩=some (.slice pi d.ins.length ci):=kA.cell (fun h=>h) (by simp)
 have c3:W0.cell? ⟨w.heap.size,3,none⟩=some (.int .u8 d.x.op):=kA.cell (fun h=>h) (by simp)
 have c4:W0.cell? ⟨w.heap.size,4,none⟩=some (.int .i64 d.x.n):=kA.cell (fun h=>h) (by simp)
 have c5:W0.cell? ⟨w.heap.size,5,none⟩=some (.slice p d.x.args.length cap):=kA.cell (fun h=>h) (by simp)
 have c6:W0.cell? ⟨w.heap.size,6,none⟩=some (.int .i64 d.n):=kA.cell (fun h=>h) (by simp)
 have e0:W0.cell? ⟨w.heap.size+1,0,none⟩=some (.int .i64 (at_:Int)):=by rw[<-hW0];simp
 rw[hW0]
 have K0:=Lib.hid k0
 clear hW0 k0 kA
 (with_reducible refine(name_any d.uid H.out.2.2 W0).mono ?_)
 rintro e W1 ⟨rfl,k1⟩
 have c0:=k1.cell (p:=⟨w.heap.size,0,none⟩) (fun h=>h) c0
 have c1:=k1.cell (p:=⟨w.heap.size,1,none⟩) (fun h=>h) c1
 have c2:=k1.cell (p:=⟨w.heap.size,2,none⟩) (fun h=>h) c2
 have c3:=k1.cell (p:=⟨w.heap.size,3,none⟩) (fun h=>h) c3
 have c4:=k1.cell (p:=⟨w.heap.size,4,none⟩) (fun h=>h) c4
 have c5:=k1.cell (p:=⟨w.heap.size,5,none⟩) (fun h=>h) c5
 have c6:=k1.cell (p:=⟨w.heap.size,6,none⟩) (fun h=>h) c6
 have e0:=k1.cell (p:=⟨w.heap.size+1,0,none⟩) (fun h=>h) e0
 have K1:=Lib.hid (K0.out.trans k1)
 clear k1
 have HM:=Lib.hid (show dU at_ d=Df (lN d.uid) d.kind d.ins.length (ji d.ins at_) (oh d.x) (fun acc ty=>xq d.x acc ty) d.n from rfl)
 cases hn:lN d.uid with
 |false=>
  rw[hn]at HM
  clear hn
  go_wp2_with fail
  go_ret
  exact⟨dW (by rw[HM.out];rfl),K1.out⟩
 |true=>
  rw[hn]at HM
  clear hn
  by_cases hk:d.kind<1\/9<d.kind
  ·have F:=Lib.hid (show dU at_ d=false by rw[HM.out];unfold Df;rw[if_pos (.inr hk)])
   rcases hk with hk|hk
   ·go_wp2_with fail
    go_ret
    exact⟨dW (by rw[F.out]),K1.out⟩
   ·go_wp2_with fail
    go_ret
    exact⟨dW (by rw[F.out]),K1.out⟩
  ·have hk1:1<=d.kind:=by omega
   have hk2:d.kind<=9:=by omega
   have hidx:=fun W=>aaE d.kind hk1 hk2 W
   clear hk
   have hrv:(iT (jc d.kind) (iG d.kind) (sK d.kind) (qF d.kind) (jN d.kind)).toArray= #[.int .i64 (jc d.kind:Int), .int .i64 (iG d.kind:Int), .int .u8 (sK d.kind), .bool (qF d.kind), .int .i64 (jN d.kind)]:=rfl
   rw[hrv]at hidx
   have hjr:=fun W=>RF W
   go_wp2_with fail
   refine qN (fun W=>Kept none' W1 W) (by kernel_rfl) (by kernel_rfl) (Kept.refl _ _).drew ?_
   refine aH (k:=1) (by kernel_rfl) rfl rfl (fun W hW=>by go_simp;rfl) ?_
   go_frame
   refine aH (k:=2) (by kernel_rfl) rfl rfl (fun W hW=>by have z1:=hW.cell (fun h=>h) c1;go_simp;rfl) ?_
   go_frame
   refine uy (i:=0) (k:=4) (by kernel_rfl) (by kernel_rfl) rfl rfl rfl rfl ?_ ?_
   ·intro K hK
    go_wp2_with fail
    refine(hjr _).mono ?_
    rintro e W2 ⟨rfl,k2,s2⟩
    go_wp2_with fail
    refine hK _ _ k2.aQ ?_
    clear hK
    refine aH (k:=3) (by kernel_rfl) rfl rfl (fun W hW=>by go_simp;rfl) ?_
    go_frame
    refine dX (k:=4) (by kernel_rfl) (by kernel_rfl) rfl rfl ?_
    intro K hK
    go_wp2_with fail
    refine hK _ _ (k2.aQ.alloc _) ?_
    clear hK
    refine dX (k:=5) (by kernel_rfl) (by kernel_rfl) rfl rfl ?_
    intro K hK
    go_wp2_with fail
    have kW:Kept none' W1 (W2.alloc (.cells #[.int .i64 (jc d.kind:Int), .int .i64 (iG d.kind:Int), .int .u8 (sK d.kind), .bool (qF d.kind), .int .i64 (jN d.kind)] 174)):=k2.aQ.alloc _
    have hR:=oq.of (heap_alloc_new W2 (.cells #[.int .i64 (jc d.kind:Int), .int .i64 (iG d.kind:Int), .int .u8 (sK d.kind), .bool (qF d.kind), .int .i64 (jN d.kind)] 174))
    have hs2:W2.heap.size=W1.heap.size+1:=s2
    rw[hs2]at hR
    refine hK _ _ kW ?_
    clear hK
    refine uz (by kernel_rfl) kW ?_
    generalize(W2.alloc (.cells #[.int .i64 (jc d.kind:Int), .int .i64 (iG d.kind:Int), .int .u8 (sK d.kind), .bool (qF d.kind), .int .i64 (jN d.kind)] 174))=W3 at*
    generalize W1.heap.size+1=B at*
    have K3:=Lib.hid (K1.out.trans kW)
    have c0:=kW.cell (p:=⟨w.heap.size,0,none⟩) (fun h=>h) c0
    have c1:=kW.cell (p:=⟨w.heap.size,1,none⟩) (fun h=>h) c1
    have c2:=kW.cell (p:=⟨w.heap.size,2,none⟩) (fun h=>h) c2
    have c3:=kW.cell (p:=⟨w.heap.size,3,none⟩) (fun h=>h) c3
    have c4:=kW.cell (p:=⟨w.heap.size,4,none⟩) (fun h=>h) c4
    have c5:=kW.cell (p:=⟨w.heap.size,5,none⟩) (fun h=>h) c5
    have c6:=kW.cell (p:=⟨w.heap.size,6,none⟩) (fun h=>h) c6
    have e0:=kW.cell (p:=⟨w.heap.size+1,0,none⟩) (fun h=>h) e0
    have jM:dU at_ d=(if d.ins.length<jc d.kind\/iG d.kind<d.ins.length\/ji d.ins at_=false then false else if d.n<min (jN d.kind) 1\/jN d.kind<d.n then false else if sK d.kind=0 then oh d.x else xq d.x (qF d.kind) (sK d.kind)):=by
     rw[HM.out];unfold Df;rw[if_neg (by simp;omega)]
    have jM:=Lib.hid jM
    generalize jc d.kind=L at*
    generalize iG d.kind=M at*
    generalize sK d.kind=ty at*
    generalize qF d.kind=ac at*
    generalize jN d.kind=N at*
    obtain⟨r0,r1,r2,r3,r4⟩:=hR
    clear kW hidx hrv hjr HM k2 s2
    by_cases b1:d.ins.length<L
    ·have F:=Lib.hid (show dU at_ d=false by rw[jM.out,if_pos (.inl b1)])
     clear jM
     go_wp2_with fail
     go_ret
     exact⟨dW (by rw[F.out]),K3.out⟩
    ·by_cases b2:M<d.ins.length
     ·have F:=Lib.hid (show dU at_ d=false by rw[jM.out,if_pos (.inr (.inl b2))])
      clear jM
      go_wp2_with fail
      go_ret
      exact⟨dW (by rw[F.out]),K3.out⟩
     ·have ct:=Dy _ d.ins W3 (H.out.2.1.pure K3.out)
      have cf:=uf _ d.ins (at_:Int) (w.heap.size+1) W3 (H.out.2.1.pure K3.out) e0
      have hg:ji d.ins at_=(decide d.ins.Nodup&&!(d.ins.any (qW (at_:Int)))):=by
       unfold ji
       rw[List.not_any_eq_all_not]
       congr 2
       funext k
       unfold qW
       simp
      have HG:=Lib.hid hg
      clear hg
      generalize decide d.ins.Nodup=bn at*
      generalize d.ins.any (qW (at_:Int))=bo at*
      cases bn with
      |false=>
       have F:=Lib.hid (show dU at_ d=false by rw[jM.out,if_pos (.inr (.inr (by rw[HG.out];rfl)))])
       clear jM
       go_wp2_with (go_at_call 103;refine ct.mono ?_;rintro e w' ⟨rfl,rfl⟩)
       go_ret
       exact⟨dW (by rw[F.out]),K3.out⟩
      |true=>
       cases bo with
       |true=>
        have F:=Lib.hid (show dU at_ d=false by rw[jM.out,if_pos (.inr (.inr (by rw[HG.out];rfl)))])
        clear jM
        go_wp2_with (first|(go_at_call 103;refine ct.mono ?_;rintro e w' ⟨rfl,rfl⟩)|(go_at_call 104;refine cf.mono ?_;rintro e w' ⟨rfl,rfl⟩))
        go_ret
        exact⟨dW (by rw[F.out]),K3.out⟩
       |false=>
        have tH:=Lib.hid (show dU at_ d=(if d.n<min N 1\/N<d.n then false else if ty=0 then oh d.x else xq d.x ac ty) by
         rw[jM.out,if_neg (by rw[HG.out];simp;omega)])
        clear jM HG
        by_cases b3:d.n<min N 1
        ·have F:=Lib.hid (show dU at_ d=false by rw[tH.out,if_pos (.inl b3)])
         clear tH
         go_wp2_with (first|(go_at_call 103;refine ct.mono ?_;rintro e w' ⟨rfl,rfl⟩)|(go_at_call 104;refine cf.mono ?_;rintro e w' ⟨rfl,rfl⟩))
         go_ret
         exact⟨dW (by rw[F.out]),K3.out⟩
        ·by_cases b4:N<d.n
         ·have F:=Lib.hid (show dU at_ d=false by rw[tH.out,if_pos (.inr b4)])
          clear tH
          go_wp2_with (first|(go_at_call 103;refine ct.mono ?_;rintro e w' ⟨rfl,rfl⟩)|(go_at_call 104;refine cf.mono ?_;rintro e w' ⟨rfl,rfl⟩))
          go_ret
          exact⟨dW (by rw[F.out]),K3.out⟩
         ·by_cases b5:ty=0
          ·subst b5
           have F:=Lib.hid (show dU at_ d=oh d.x by rw[tH.out,if_neg (by omega),if_pos rfl])
           have cs:=Gh d.x _ W3 (aC.pure K3.out H.out.1)
           clear tH
           go_wp2_with (first|(go_at_call 103;refine ct.mono ?_;rintro e w' ⟨rfl,rfl⟩)|(go_at_call 104;refine cf.mono ?_;rintro e w' ⟨rfl,rfl⟩))
           (with_reducible refine cs.mono ?_)
           rintro e W4 ⟨rfl,k4⟩
           have K4:=Lib.hid (K3.out.trans k4)
           clear k4
           go_wp2_with fail
           go_ret
           exact⟨dW (by rw[F.out]),K4.out⟩
          ·have F:=Lib.hid (show dU at_ d=xq d.x ac ty by rw[tH.out,if_neg (by omega),if_neg b5])
           have ci:=Vy d.x ac ty _ W3 (aC.pure K3.out H.out.1)
           have hb:(ty==0)=false:=by simp[b5]
           clear tH
           go_wp2_with (first|(go_at_call 103;refine ct.mono ?_;rintro e w' ⟨rfl,rfl⟩)|(go_at_call 104;refine cf.mono ?_;rintro e w' ⟨rfl,rfl⟩))
           (with_reducible refine ci.mono ?_)
           rintro e W4 ⟨rfl,k4⟩
           have K4:=Lib.hid (K3.out.trans k4)
           clear k4
           go_wp2_with fail
           go_ret
           exact⟨dW (by rw[F.out]),K4.out⟩
   ·intro K hK
    go_wp2_with fail
    refine hK _ _ ((Kept.refl _ _).drew.alloc _) ?_
    clear hK
    refine dX (k:=0) (by kernel_rfl) (by kernel_rfl) rfl rfl ?_
    intro K hK
    go_wp2_with fail
    refine(hjr _).mono ?_
    rintro e W2 ⟨rfl,k2,s2⟩
    go_wp2_with fail
    refine hK _ _ (((Kept.refl _ _).drew.alloc _).trans k2) ?_
    clear hK
    refine aH (k:=3) (by kernel_rfl) rfl rfl (fun W hW=>by go_simp;rfl) ?_
    go_frame
    have hB:W2.heap[W1.heap.size]?=some (.cells #[.int .i64 0, .int .i64 0, .int .u8 0, .bool false, .int .i64 0] 174 (0,0)):=k2.heap (heap_alloc_new W1.drew (.cells #[.int .i64 0, .int .i64 0, .int .u8 0, .bool false, .int .i64 0] 174)) (fun h=>h)
    have z0:W2.cell? ⟨W1.heap.size,0,none⟩=some (.int .i64 0):=cells_at hB rfl
    have z1:W2.cell? ⟨W1.heap.size,1,none⟩=some (.int .i64 0):=cells_at hB rfl
    have z2:W2.cell? ⟨W1.heap.size,2,none⟩=some (.int .u8 0):=cells_at hB rfl
    have z3:W2.cell? ⟨W1.heap.size,3,none⟩=some (.bool false):=cells_at hB rfl
    have z4:W2.cell? ⟨W1.heap.size,4,none⟩=some (.int .i64 0):=cells_at hB rfl
    have f0:=free_at hB 0
    have f1:=free_at hB 1
    have f2:=free_at hB 2
    have f3:=free_at hB 3
    have f4:=free_at hB 4
    have kW:=adH (a:= .int .i64 (jc d.kind:Int)) (b:= .int .i64 (iG d.kind:Int)) (c:= .int .u8 (sK d.kind)) (d:= .bool (qF d.kind)) (e:= .int .i64 (jN d.kind)) (((Kept.refl none' W1).drew.alloc (.cells #[.int .i64 0, .int .i64 0, .int .u8 0, .bool false, .int .i64 0] 174)).trans k2) (Nat.le_refl _)
    have hR:=oq.of (afl (a':= .int .i64 (jc d.kind:Int)) (b':= .int .i64 (iG d.kind:Int)) (c':= .int .u8 (sK d.kind)) (d':= .bool (qF d.kind)) (e':= .int .i64 (jN d.kind)) hB)
    have KW:=Lib.hid kW
    have HR:=Lib.hid hR
    clear kW hR hB
    refine dX (k:=5) (by kernel_rfl) (by kernel_rfl) rfl rfl ?_
    intro K hK
    go_wp2_with fail
    refine hK _ _ KW.out ?_
    clear hK
    refine uz (by kernel_rfl) KW.out ?_
    have kW:=KW.out
    have hR:=HR.out
    clear KW HR z0 z1 z2 z3 z4 f0 f1 f2 f3 f4
    generalize(((((W2.setCell ⟨W1.heap.size,0,none⟩ (.int .i64 (jc d.kind:Int))).setCell ⟨W1.heap.size,1,none⟩ (.int .i64 (iG d.kind:Int))).setCell ⟨W1.heap.size,2,none⟩ (.int .u8 (sK d.kind))).setCell ⟨W1.heap.size,3,none⟩ (.bool (qF d.kind))).setCell ⟨W1.heap.size,4,none⟩ (.int .i64 (jN d.kind)))=W3 at*
    have K3:=Lib.hid (K1.out.trans kW)
    have c0:=kW.cell (p:=⟨w.heap.size,0,none⟩) (fun h=>h) c0
    have c1:=kW.cell (p:=⟨w.heap.size,1,none⟩) (fun h=>h) c1
    have c2:=kW.cell (p:=⟨w.heap.size,2,none⟩) (fun h=>h) c2
    have c3:=kW.cell (p:=⟨w.heap.size,3,none⟩) (fun h=>h) c3
    have c4:=kW.cell (p:=⟨w.heap.size,4,none⟩) (fun h=>h) c4
    have c5:=kW.cell (p:=⟨w.heap.size,5,none⟩) (fun h=>h) c5
    have c6:=kW.cell (p:=⟨w.heap.size,6,none⟩) (fun h=>h) c6
    have e0:=kW.cell (p:=⟨w.heap.size+1,0,none⟩) (fun h=>h) e0
    have jM:dU at_ d=(if d.ins.length<jc d.kind\/iG d.kind<d.ins.length\/ji d.ins at_=false then false else if d.n<min (jN d.kind) 1\/jN d.kind<d.n then false else if sK d.kind=0 then oh d.x else xq d.x (qF d.kind) (sK d.kind)):=by
     rw[HM.out];unfold Df;rw[if_neg (by simp;omega)]
    have jM:=Lib.hid jM
    generalize jc d.kind=L at*
    generalize iG d.kind=M at*
    generalize sK d.kind=ty at*
    generalize qF d.kind=ac at*
    generalize jN d.kind=N at*
    obtain⟨r0,r1,r2,r3,r4⟩:=hR
    clear kW hidx hrv hjr HM k2 s2
    by_cases b1:d.ins.length<L
    ·have F:=Lib.hid (show dU at_ d=false by rw[jM.out,if_pos (.inl b1)])
     clear jM
     go_wp2_with fail
     go_ret
     exact⟨dW (by rw[F.out]),K3.out⟩
    ·by_cases b2:M<d.ins.length
     ·have F:=Lib.hid (show dU at_ d=false by rw[jM.out,if_pos (.inr (.inl b2))])
      clear jM
      go_wp2_with fail
      go_ret
      exact⟨dW (by rw[F.out]),K3.out⟩
     ·have ct:=Dy _ d.ins W3 (H.out.2.1.pure K3.out)
      have cf:=uf _ d.ins (at_:Int) (w.heap.size+1) W3 (H.out.2.1.pure K3.out) e0
      have hg:ji d.ins at_=(decide d.ins.Nodup&&!(d.ins.any (qW (at_:Int)))):=by
       unfold ji
       rw[List.not_any_eq_all_not]
       congr 2
       funext k
       unfold qW
       simp
      have HG:=Lib.hid hg
      clear hg
      generalize decide d.ins.Nodup=bn at*
      generalize d.ins.any (qW (at_:Int))=bo at*
      cases bn with
      |false=>
       have F:=Lib.hid (show dU at_ d=false by rw[jM.out,if_pos (.inr (.inr (by rw[HG.out];rfl)))])
       clear jM
       go_wp2_with (go_at_call 103;refine ct.mono ?_;rintro e w' ⟨rfl,rfl⟩)
       go_ret
       exact⟨dW (by rw[F.out]),K3.out⟩
      |true=>
       cases bo with
       |true=>
        have F:=Lib.hid (show dU at_ d=false by rw[jM.out,if_pos (.inr (.inr (by rw[HG.out];rfl)))])
        clear jM
        go_wp2_with (first|(go_at_call 103;refine ct.mono ?_;rintro e w' ⟨rfl,rfl⟩)|(go_at_call 104;refine cf.mono ?_;rintro e w' ⟨rfl,rfl⟩))
        go_ret
        exact⟨dW (by rw[F.out]),K3.out⟩
       |false=>
        have tH:=Lib.hid (show dU at_ d=(if d.n<min N 1\/N<d.n then false else if ty=0 then oh d.x else xq d.x ac ty) by
         rw[jM.out,if_neg (by rw[HG.out];simp;omega)])
        clear jM HG
        by_cases b3:d.n<min N 1
        ·have F:=Lib.hid (show dU at_ d=false by rw[tH.out,if_pos (.inl b3)])
         clear tH
         go_wp2_with (first|(go_at_call 103;refine ct.mono ?_;rintro e w' ⟨rfl,rfl⟩)|(go_at_call 104;refine cf.mono ?_;rintro e w' ⟨rfl,rfl⟩))
         go_ret
         exact⟨dW (by rw[F.out]),K3.out⟩
        ·by_cases b4:N<d.n
         ·have F:=Lib.hid (show dU at_ d=false by rw[tH.out,if_pos (.inr b4)])
          clear tH
          go_wp2_with (first|(go_at_call 103;refine ct.mono ?_;rintro e w' ⟨rfl,rfl⟩)|(go_at_call 104;refine cf.mono ?_;rintro e w' ⟨rfl,rfl⟩))
          go_ret
          exact⟨dW (by rw[F.out]),K3.out⟩
         ·by_cases b5:ty=0
          ·subst b5
           have F:=Lib.hid (show dU at_ d=oh d.x by rw[tH.out,if_neg (by omega),if_pos rfl])
           have cs:=Gh d.x _ W3 (aC.pure K3.out H.out.1)
           clear tH
           go_wp2_with (first|(go_at_call 103;refine ct.mono ?_;rintro e w' ⟨rfl,rfl⟩)|(go_at_call 104;refine cf.mono ?_;rintro e w' ⟨rfl,rfl⟩))
           (with_reducible refine cs.mono ?_)
           rintro e W4 ⟨rfl,k4⟩
           have K4:=Lib.hid (K3.out.trans k4)
           clear k4
           go_wp2_with fail
           go_ret
           exact⟨dW (by rw[F.out]),K4.out⟩
          ·have F:=Lib.hid (show dU at_ d=xq d.x ac ty by rw[tH.out,if_neg (by omega),if_neg b5])
           have ci:=Vy d.x ac ty _ W3 (aC.pure K3.out H.out.1)
           have hb:(ty==0)=false:=by simp[b5]
           clear tH
           go_wp2_with (first|(go_at_call 103;refine ct.mono ?_;rintro e w' ⟨rfl,rfl⟩)|(go_at_call 104;refine cf.mono ?_;rintro e w' ⟨rfl,rfl⟩))
           (with_reducible refine ci.mono ?_)
           rintro e W4 ⟨rfl,k4⟩
           have K4:=Lib.hid (K3.out.trans k4)
           clear k4
           go_wp2_with fail
           go_ret
           exact⟨dW (by rw[F.out]),K4.out⟩
end
end Go.Proofs.YtopeleenlcnkkaaGreatDoor
