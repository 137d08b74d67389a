/- Feed's memory: tables beside a row that is being made. -/
import Derived.Test.YtopeleenlcnkkaaGreatDoorM30
import Derived.Great.BuildSlice
set_option linter.unusedVariables false
set_option linter.unusedSimpArgs false
set_option maxHeartbeats 1000000
set_option maxRecDepth 100000
namespace Go.Proofs.YtopeleenlcnkkaaGreatDoor
section
open Go Go.RowKit
def jg (Ts:Tabs)(pm:Nat->Nat×Nat):Nat->Prop:=fun k=> ∃(i:Nat)(T:Tab),Ts[i]?=some (some T)/\(pm i).2=k
theorem aY.OH {w:World}{m:Nat}{Ts:Tabs}{pm:Nat->Nat×Nat}(h:aY w m Ts pm){k:Nat}(hk:jg Ts pm k):k<w.heap.size:=by
 obtain⟨i,T,hT,rfl⟩:=hk
 exact(h.tab i T hT).1.lt.1
theorem aY.pX {w:World}{m:Nat}{Ts:Tabs}{pm:Nat->Nat×Nat}(h:aY w m Ts pm){k:Nat}(hk:jg Ts pm k): ∀c E f,w.heap[k]?≠some (.cells c E f):=by
 obtain⟨i,T,hT,rfl⟩:=hk
 exact(h.tab i T hT).1.jy
def iP (w:World)(mb n:Nat)(M:List (List Rec)):Prop:=
 ∃cs,w.ownsRow mb 42 1 (.slice (some ⟨mb,0,none⟩) n n) n cs/\ ∀(i:Nat)(L:List Rec),M[i]?=some L-> ∃v,cs[i]?=some v/\Reads w 3 v (recs L)/\ ∀b,Value.blk v=some b->mb<b
theorem iP.gU {S:Nat->Prop}{w w':World}{mb n:Nat}{M:List (List Rec)}(h:iP w mb n M)(hk:Kept S w w')(hS: ∀k,S k->k<mb):iP w' mb n M:=by
 obtain⟨cs,h1,h2⟩:=h
 refine⟨cs,hk.owns h1 (fun k hk hs=>?_),fun i L hL=>?_⟩
 ·have:mb=k:=by simpa[Value.ownBlock]using hk
  have:=hS k hs
  omega
 ·obtain⟨v,g1,g2,g3⟩:=h2 i L hL
  exact⟨v,g1,g2.kept hk (fun b hb hs=>by have:=g3 b hb;have:=hS b hs;omega),g3⟩
theorem iP.pure {w w':World}{mb n:Nat}{M:List (List Rec)}(h:iP w mb n M)(hk:Kept none' w w'):iP w' mb n M:=h.gU hk (fun _ h=>h.elim)
theorem iP.cell {w:World}{mb n:Nat}{M:List (List Rec)}(h:iP w mb n M)(hM:M.length<=n){i:Nat}{L:List Rec}(hL:M[i]?=some L):
 ∃v,w.cell? ⟨mb,i,none⟩=some v/\Reads w 3 v (recs L)/\ ∀b,Value.blk v=some b->mb<b:=by
 obtain⟨cs,h1,h2⟩:=h
 obtain⟨v,g1,g2,g3⟩:=h2 i L hL
 have hi:i<M.length:=(List.getElem?_eq_some_iff.1 hL).1
 exact⟨v,by rw[h1.cellAt i (by omega)];exact g1,g2,g3⟩
theorem iP.free {w:World}{mb n:Nat}{M:List (List Rec)}(h:iP w mb n M){i:Nat}(hi:i<n):(∃v,w.cell? ⟨mb,i,none⟩=some v)/\w.frozen? ⟨mb,i,none⟩=false:=by
 obtain⟨cs,h1,_⟩:=h
 refine⟨?_,h1.frozenAt i⟩
 have hl:cs.length=n*1:=h1.1
 have hc:=h1.cellAt i (by omega)
 exact⟨_,hc.trans (List.getElem?_eq_getElem (by omega))⟩
theorem iP.lt {w:World}{mb n:Nat}{M:List (List Rec)}(h:iP w mb n M):mb<w.heap.size:=by
 obtain⟨cs,h1,_⟩:=h
 exact(h1.lt mb rfl).2
theorem iP.store {w:World}{mb n:Nat}{M:List (List Rec)}(h:iP w mb n M)(hM:M.length<n){v:Value}{L:List Rec}(hv:Reads w 3 v (recs L))(hb: ∀b,Value.blk v=some b->mb<b):
 iP (w.setCell ⟨mb,M.length,none⟩ v) mb n (M++[L])/\Kept (one mb) w (w.setCell ⟨mb,M.length,none⟩ v):=by
 obtain⟨cs,h1,h2⟩:=h
 have hl:cs.length=n*1:=h1.1
 have hk:Kept (one mb) w (w.setCell ⟨mb,M.length,none⟩ v):=Kept.setCell (p:=⟨mb,M.length,none⟩) (Kept.refl (one mb) _) (.inl rfl) _
 refine⟨⟨cs.set M.length v,(h1.stored M.length v).1,fun i U hU=>?_⟩,hk⟩
 by_cases hi:i<M.length
 ·rw[List.getElem?_append_left hi]at hU
  obtain⟨u,g1,g2,g3⟩:=h2 i U hU
  exact⟨u,by rw[List.getElem?_set_ne (by omega)];exact g1,g2.kept hk (fun b hb hs=>by have:=g3 b hb;unfold one at hs;omega),g3⟩
 ·have hi2:i=M.length:=by
   have:=(List.getElem?_eq_some_iff.1 hU).1
   simp at this;omega
  subst hi2
  rw[List.getElem?_append_right (Nat.le_refl _),Nat.sub_self]at hU
  cases hU
  exact⟨v,List.getElem?_set_self (by omega),hv.kept hk (fun b hb' hs=>by have:=hb b hb';unfold one at hs;omega),hb⟩
theorem Wu (w:World)(n:Nat)(hn:n<=1000): ∃w',(Instr.makeSlice 105 (.int .i64 (n:Int)) (.int .i64 (n:Int))).run Tryz.prog w= .ok (.slice (some ⟨w.heap.size,0,none⟩) n n) w'/\iP w' w.heap.size n []/\Kept none' w w':=by
 obtain⟨i,z,hi,hz,hs,hb,hzc⟩:=Tryz.info42
 obtain⟨w',h1,h2,h3⟩:=run_make_full (P:=Tryz.prog) w w.heap.size 105 42 i z 1 Tryz.underlying105 hi hz hs .i64 .i64 n (by rw[hb];omega) (by unfold maxLen;omega) (Nat.le_refl _)
 exact⟨w',h1,⟨_,h2,fun i L hL=>by simp at hL⟩,Kept.grown h3 (fun k hk=>by cases hk)⟩
theorem WI {w:World}{base n:Nat}{va:Value}{l:List Value}(h:w.ownsRow base 42 1 va n l){u:Value}(hu:u.oneCell'=true)(hb:base<=w.heap.size)(hn:n<=100000):
 ∃fF w',(Builtin.append_ #[105,105] 105 #[va, .slice (some ⟨w.heap.size,0,none⟩) 1 1]).run Tryz.prog (w.alloc (.cells #[u] 42))= .ok fF w'/\w'.ownsRow base 42 1 fF (n+1) (l++[u])/\Kept (fun j=>base<=j) w w':=by
 obtain⟨i,z,hi,hz,hs,hby,hzs⟩:=Tryz.info42
 exact Qb Tryz.underlying105 hi hz hs hby hzs hu h hn (by omega) hb 105
theorem mV.lI {w:World}{a:Array Value}{d:JN}(h:mV w a d):dS w a d.lI:=by
 obtain⟨pi,ci,p,cap,h1,h2,h3,h4,h5,h6,h7,h8⟩:=h
 exact⟨d.uid,_,p,cap,h1,h2,h5,h6,h7⟩
theorem Reads.slice_form {w:World}{v:Value}{L:List Rec}(h:Reads w 3 v (recs L)): ∃a cap,v= .slice a L.length cap:=by
 obtain⟨a,cap,h1,_⟩:=h.len
 exact⟨a,cap,h1⟩
theorem aY.look1 {S:Nat->Prop}{w w':World}{m:Nat}{Ts:Tabs}{pm:Nat->Nat×Nat}(h:aY w m Ts pm)(hk:Kept S w w')(hm: ¬S m)(i:Nat)(hi:i<Ts.length):
 (Instr.lookup 99 (.map (some m)) (.int .i64 (i:Int)) false).run Tryz.prog w'= .ok ((iG pm i (Ts.getD i none)).getD (.pointer none)) w':=by
 obtain⟨⟨l,h1,h2,_⟩,_,_⟩:=h
 have:=(h1.kept hk hm).xG (P:=Tryz.prog) Tryz.underlying99 Tryz.underlying3 (i:Int) (Tryz.zeroValue61 w')
 rwa[h2 i hi]at this
theorem Reads.acH {w:World}{a:Option Addr}{n cap:Nat}{l:List Int}(h:Reads w 1 (.slice a n cap) (ints l)):l=[]\/ ∃b off,a=some ⟨b,off,none⟩/\ ∀(i:Nat)(x:Int),l[i]?=some x->w.cell? ⟨b,off+i,none⟩=some (.int .i64 x):=by
 obtain⟨a',n',cap',e,h1,h2,h3,h4⟩:=h
 cases e
 rcases h4 with h4|⟨b,off,hb,h4⟩
 ·left;unfold ints at h4;simpa using h4
 ·right
  exact⟨b,off,hb,fun i x hx=>h4 i _ (by unfold ints;rw[List.getElem?_map,hx];rfl)⟩
def QV (w:World)(b m:Nat)(j:Jb)(Ts:Tabs)(pm:Nat->Nat×Nat)(key val:Int)(e:Ending)(w':World):Prop:=
 ∃v,e= .returned v/\Reads w' 3 v (recs (iU j.nodes Ts key val).1)/\(∀q,Value.blk v=some q->w.heap.size<=q)/\bK w' b m j (iU j.nodes Ts key val).2 pm/\Kept (jg Ts pm) w w'
def Zf (M:Nat->Prop)(w:World)(b m:Nat)(j:Jb)(Ts:Tabs)(pm:Nat->Nat×Nat)(key val:Int)(e:Ending)(w':World):Prop:=
 ∃v,e= .returned v/\Reads w' 3 v (recs (iU j.nodes Ts key val).1)/\(∀q,Value.blk v=some q->w.heap.size<=q)/\bK w' b m j (iU j.nodes Ts key val).2 pm/\Kept (jg Ts pm) w w'/\
  bZ w' (fun k=>M k\/w.heap.size<=k) m (iU j.nodes Ts key val).2 pm
end
section
open Go Go.RowKit
attribute [local irreducible] bU
theorem Px (v:Value)(l:List ByteArray)(w:World)(h:Reads w 1 v (strs l)):Calls Tryz.prog 67 #[v] w (fun e w'=>e= .returned (.bool (!decide l.Nodup))/\w=w'):=by
 have hR:=h
 obtain⟨pa,ca,rfl,a1,a2,a3⟩:=h.MI
 have A3:=Lib.hid (And.intro a3 hR)
 clear a3 hR
 have hlen:l.length<=9223372036854775807:=by unfold maxLen at a2;omega
 go_enter Tryz.func67,Tryz.ntmps67
 go_wp2_with fail
 go_loopg [7] l.length (fun m vk wr=> ∃k:Nat,k<=l.length/\m=l.length-k/\vk= .int .i64 (k:Int)/\(l.take k).Nodup/\wr=w)
 case atStart=>exact⟨0,Nat.zero_le _,rfl,rfl,by simp,rfl⟩
 case round=>
  obtain⟨k,hk,hm,rfl,ht,rfl⟩:=hrel
  have HT:=Lib.hid (And.intro ht hm)
  clear ht hm
  by_cases hlt:k<l.length
  ·obtain⟨y,hy⟩: ∃y,l[k]?=some y:=⟨_,List.getElem?_eq_getElem hlt⟩
   obtain⟨b,off,rfl,hc⟩:=A3.out.1.resolve_left (fun h=>by rw[h]at hlt;simp at hlt)
   have y0:=hc k y hy
   have hsl:=zn (P:=Tryz.prog) (w:=wr) (a:=some ⟨b,off,none⟩) (n:=l.length) (cap:=ca) (i:=k) Tryz.underlying137 (acA wr) (by omega) a1
   have hrd:=Reads.take A3.out.2 (i:=k) (by omega)
   have Lj:Reads wr 1 (.slice (some ⟨b,off,none⟩) k ca) (strs (l.take k)):=by
    have:(strs l).take (k*1)=strs (l.take k):=by rw[Nat.mul_one];unfold strs;rw[List.map_take]
    rwa[this]at hrd
   have cc:=Gt _ (l.take k) y wr Lj
   have HY:=Lib.hid hy
   clear hc hy A3 hrd Lj
   by_cases hm:y∈l.take k
   ·have e1:decide (y∈l.take k)=true:=decide_eq_true hm
    rw[e1]at cc
    have F:=Lib.hid (FK HY.out hm)
    clear hm e1
    go_wp2_with (go_at_call 108;refine cc.mono ?_;rintro e w' ⟨rfl,rfl⟩)
    go_ret
    exact⟨dF (by rw[decide_eq_false F.out];rfl),rfl⟩
   ·have e1:decide (y∈l.take k)=false:=decide_eq_false hm
    rw[e1]at cc
    have F:=Lib.hid ((Dh HY.out).2 ⟨HT.out.1,hm⟩)
    clear hm e1
    go_wp2_with (go_at_call 108;refine cc.mono ?_;rintro e w' ⟨rfl,rfl⟩)
    go_roundg (l.length-(k+1))
    case rel=>exact⟨k+1,by omega,rfl,by go_num,F.out,rfl⟩
    case measure=>have:=HT.out.2;omega
  ·have e1:k=l.length:=by omega
   subst e1
   have F:=Lib.hid (show l.Nodup by have:=HT.out.1;rwa[List.take_length]at this)
   clear HT
   go_wp2_with fail
   go_ret
   exact⟨dF (by rw[decide_eq_true F.out];rfl),rfl⟩
theorem WX (i n:Int)(B:Nat)(w:World)(hc:w.cell? ⟨B,0,none⟩=some (.int .i64 n)):Calls Tryz.prog 105 #[.int .i64 i, .pointer (some ⟨B,0,none⟩)] w (fun e w'=>e= .returned (.bool (!(decide (0<=i)&&decide (i<n))))/\w=w'):=by
 by_cases h0:i<0
 ·have e1:(!(decide (0<=i)&&decide (i<n)))=true:=by rw[decide_eq_false (by omega)];rfl
  rw[e1]
  go_enter Tryz.func105,Tryz.ntmps105
  go_wp2
  go_ret
  exact⟨rfl,rfl⟩
 ·have e1:(!(decide (0<=i)&&decide (i<n)))=decide (n<=i):=by
   rw[decide_eq_true (by omega),Bool.true_and,<-decide_not];exact decide_eq_decide.2 (by omega)
  rw[e1]
  go_enter Tryz.func105,Tryz.ntmps105
  go_wp2
  go_ret
  exact⟨rfl,rfl⟩
def rH (n:Int)(i:Int):Bool:=!(decide (0<=i)&&decide (i<n))
theorem EH (v:Value)(l:List Int)(n:Int)(B:Nat)(w:World)(h:Reads w 1 v (ints l))(hc:w.cell? ⟨B,0,none⟩=some (.int .i64 n)):
 Calls Tryz.prog 126 #[v, .func (.func 105) #[] #[.pointer (some ⟨B,0,none⟩)]] w (fun e w'=> ∃r:Int,e= .returned (.int .i64 r)/\(decide (0<=r)=l.any (rH n))/\w=w'):=by
 obtain⟨pa,ca,rfl,a1,a2,a3⟩:=h.at
 unfold maxLen at a2
 have A3:=Lib.hid a3
 have HC:=Lib.hid hc
 clear h a3 hc
 go_enter Tryz.func126,Tryz.ntmps126
 go_wp2_with fail
 go_loopw [8] (fun i wr=> ∃k:Nat,k<=l.length/\i= .int .i64 (k:Int)/\(l.take k).any (rH n)=false/\wr=w) (fun i _=>l.length-(intOf i).toNat)
 case atStart=>exact⟨0,by omega,rfl,by simp,rfl⟩
 case round=>
  obtain⟨k,hk,rfl,ht,rfl⟩:=hrel
  have HT:=Lib.hid ht
  clear ht
  by_cases hlt:k<l.length
  ·obtain⟨y,hy⟩: ∃y,l[k]?=some y:=⟨_,List.getElem?_eq_getElem hlt⟩
   obtain⟨b,off,rfl,hcc⟩:=A3.out.resolve_left (fun h=>by rw[h]at hlt;simp at hlt)
   have y0:=hcc k y hy
   have HY:=Lib.hid hy
   have cc:=WX y n B wr HC.out
   change Calls Tryz.prog 105 #[.int .i64 y, .pointer (some ⟨B,0,none⟩)] wr (fun e w'=>e= .returned (.bool (rH n y))/\wr=w')at cc
   clear hcc hy A3
   cases ho:rH n y with
   |true=>
    rw[ho]at cc
    have F:=Lib.hid (show l.any (rH n)=true by rw[List.any_eq_true];exact⟨y,List.mem_of_getElem? HY.out,ho⟩)
    clear ho
    go_wp2_with (go_at_call 105;refine cc.mono ?_;rintro e w' ⟨rfl,rfl⟩)
    go_ret
    exact⟨k,rfl,by rw[F.out,decide_eq_true (by omega)],rfl⟩
   |false=>
    rw[ho]at cc
    have F:=Lib.hid (Bl HY.out HT.out ho)
    clear ho
    go_wp2_with (go_at_call 105;refine cc.mono ?_;rintro e w' ⟨rfl,rfl⟩)
    go_roundw
    case rel=>exact⟨k+1,by omega,by go_num,F.out,by first|trivial|rfl⟩
    case measure=>simp[intOf];omega
  ·have F:=Lib.hid (show l.any (rH n)=false by have:=HT.out;rwa[List.take_of_length_le (by omega)]at this)
   have e1:k=l.length:=by omega
   subst e1
   go_wp2_with fail
   go_ret
   exact⟨-1,rfl,by rw[F.out];rfl,rfl⟩
theorem uj (v:Value)(l:List Int)(n:Int)(B:Nat)(w:World)(h:Reads w 1 v (ints l))(hc:w.cell? ⟨B,0,none⟩=some (.int .i64 n)):
 Calls Tryz.prog 104 #[v, .func (.func 105) #[] #[.pointer (some ⟨B,0,none⟩)]] w (fun e w'=>e= .returned (.bool (l.any (rH n)))/\w=w'):=by
 have c:=EH v l n B w h hc
 obtain⟨pa,ca,rfl,a1,a2,a3⟩:=h.at
 clear h a3 hc
 go_enter Tryz.func104,Tryz.ntmps104
 go_wp2_with fail
 refine c.mono ?_
 rintro e w2 ⟨r,rfl,hn,rfl⟩
 have F:=Lib.hid hn
 clear hn
 go_wp2_with fail
 go_ret
 exact⟨dF (by rw[<-F.out]),rfl⟩
theorem U9 (x:Ex):nO x=(x.op==0&&x.n==0&&decide (x.args.length=0)):=by
 unfold nO
 cases x.args<;>simp
theorem L9 (p:Option Addr)(n cap:Nat)(w:World):Calls Tryz.prog 127 #[.slice p n cap, .slice none 0 0, .func (.func 106) #[] #[]] w (fun e w'=>e= .returned (.bool (decide (n=0)))/\w=w'):=by
 go_enter Tryz.func127,Tryz.ntmps127
 by_cases h:n=0
 ·subst h
  go_wp2_with fail
  go_loopg [17] 1 (fun g vi wr=>vi= .int .i64 0/\wr=w)
  case atStart=>exact⟨rfl,rfl⟩
  case round=>
   obtain⟨rfl,rfl⟩:=hrel
   go_wp2_with fail
   go_ret
   exact⟨rfl,rfl⟩
 ·have e:((n:Int) !=0)=true:=by simp;omega
  rw[decide_eq_false h]
  clear h
  go_wp2_with fail
  go_ret
  exact⟨rfl,rfl⟩
theorem Fh (x:Ex)(a:Array Value)(w:World)(h:aF w a x):Calls Tryz.prog 106 #[.agg a, .agg #[.int .u8 0, .int .i64 0, .slice none 0 0]] w (Gives w (.bool (nO x))):=by
 obtain⟨p,cap,rfl,h0,h1,h2,h3,h4,h5⟩:=h.parts
 have HX:=Lib.hid (U9 x)
 unfold maxLen at h4
 clear h h5
 go_enter Tryz.func106,Tryz.ntmps106
 by_cases b1:x.op=0
 ·have c1:(x.op==0)=true:=by simp[b1]
  rw[c1]at HX
  by_cases b2:x.n=0
  ·have c2:(x.n==0)=true:=by simp[b2]
   rw[c2]at HX
   by_cases b3:x.args.length=0
   ·have c3:decide (x.args.length=0)=true:=by simp[b3]
    rw[c3]at HX
    have cc:=fun w=>L9 p x.args.length cap w
    rw[c3]at cc
    clear b1 b2 b3 c3
    go_wp2_with fail
    refine(cc _).mono ?_
    rintro e w2 ⟨rfl,rfl⟩
    go_wp2_with fail
    go_ret
    exact⟨dO (by rw[HX.out];rfl),((Kept.refl _ _).alloc _).alloc _⟩
   ·have c3:decide (x.args.length=0)=false:=by simp[b3]
    rw[c3]at HX
    have cc:=fun w=>L9 p x.args.length cap w
    rw[c3]at cc
    clear b1 b2 b3 c3
    go_wp2_with fail
    refine(cc _).mono ?_
    rintro e w2 ⟨rfl,rfl⟩
    go_wp2_with fail
    go_ret
    exact⟨dO (by rw[HX.out];rfl),((Kept.refl _ _).alloc _).alloc _⟩
  ·have c2:(x.n==0)=false:=by simp[b2]
   rw[c2]at HX
   clear b1 b2
   go_wp2_with fail
   go_ret
   exact⟨dO (by rw[HX.out];rfl),((Kept.refl _ _).alloc _).alloc _⟩
 ·have c1:(x.op==0)=false:=by simp[b1]
  rw[c1]at HX
  clear b1
  go_wp2_with fail
  go_ret
  exact⟨dO (by rw[HX.out];rfl),((Kept.refl _ _).alloc _).alloc _⟩
end
section
open Go Go.RowKit
def iF (a b t:Int)(c:Bool)(n:Int):List Value:=[.int .i64 a, .int .i64 b, .int .u8 t, .bool c, .int .i64 n]
def qc:Array Value:=(iF 0 0 0 false 0++iF 0 0 0 false 0++iF 1 1 1 false 0++iF 1 1 2 false 0++iF 1 1 1 false 0++iF 1 1 1 false 0++iF 1 1 1 true 0++iF 1 1 0 false 16++iF 2 3 0 false 0++iF 1 1 0 false 0).toArray
theorem Qq (w:World):Calls Tryz.prog 102 #[] w (fun e w'=>e= .returned (.agg qc)/\Kept none' w w'/\w'.heap.size=w.heap.size+1):=by
 go_enter Tryz.func102,Tryz.ntmps102
 apply wp_seq_k;intro K0 hK0
 have HK0:=Lib.hid hK0
 clear hK0
 go_wp2_with fail
 refine HK0.out _ _ ?_
 clear HK0
 obtain⟨W0,hW0⟩: ∃W0,(w.alloc (.cells #[.int .i64 0, .int .i64 0, .int .u8 0, .bool false, .int .i64 0, .int .i64 0, .int .i64 0, .int .u8 0, .bool false, .int .i64 0, .int .i64 0, .int .i64 0, .int .u8 0, .bool false, .int .i64 0, .int .i64 0, .int .i64 0, .int .u8 0, .bool false, .int .i64 0, .int .i64 0, .int .i64 0, .int .u8 0, .bool false, .int .i64 0, .int .i64 0, .int .i64 0, .int .u8 0, .bool false, .int .i64 0, .int .i64 0, .int .i64 0, .int .u8 0, .bool false, .int .i64 0, .int .i64 0, .int .i64 0, .int .u8 0, .bool false, .int .i64 0, .int .i64 0, .int .i64 0, .int .u8 0, .bool false, .int .i64 0, .int .i64 0, .int .i64 0, .int .u8 0, .bool false, .int .i64 0] 175))=W0:=⟨_,rfl⟩
 have hB: ∃old,W0.heap[w.heap.size]?=some (.cells old 175 (0,0))/\old.size=50:=by rw[<-hW0];exact⟨_,heap_alloc_new _ _,rfl⟩
 have hk:Kept none' w W0/\W0.heap.size=w.heap.size+1:=by rw[<-hW0];exact⟨(Kept.refl _ _).alloc _,by simp⟩
 rw[hW0]
 clear hW0
 obtain⟨old,hB,hold⟩:=hB
 apply wp_seq_k;intro K1 hK1
 apply wp_region_lit
 refine wpList_buildTo rfl 174 _ rfl (some 1) rfl (iF 0 0 0 false 0).toArray (by kernel_rfl) ?_
 refine wpList_buildTo rfl 174 _ rfl (some 2) rfl (iF 1 1 1 false 0).toArray (by kernel_rfl) ?_
 refine wpList_buildTo rfl 174 _ rfl (some 3) rfl (iF 1 1 2 false 0).toArray (by kernel_rfl) ?_
 refine wpList_buildTo rfl 174 _ rfl (some 4) rfl (iF 1 1 1 false 0).toArray (by kernel_rfl) ?_
 refine wpList_buildTo rfl 174 _ rfl (some 5) rfl (iF 1 1 1 false 0).toArray (by kernel_rfl) ?_
 refine wpList_buildTo rfl 174 _ rfl (some 6) rfl (iF 1 1 1 true 0).toArray (by kernel_rfl) ?_
 refine wpList_buildTo rfl 174 _ rfl (some 7) rfl (iF 1 1 0 false 16).toArray (by kernel_rfl) ?_
 refine wpList_buildTo rfl 174 _ rfl (some 8) rfl (iF 2 3 0 false 0).toArray (by kernel_rfl) ?_
 refine wpList_buildTo rfl 174 _ rfl (some 9) rfl (iF 1 1 0 false 0).toArray (by kernel_rfl) ?_
 refine wpList_buildTo rfl 175 _ rfl (some 10) rfl qc (by kernel_rfl) ?_
 refine wpList_store_rowTo rfl 175 _ _ rfl rfl w.heap.size qc (by as_aux_lemma=>kernel_rfl) (by as_aux_lemma=>kernel_rfl) 175 old hB (by kernel_rfl) hold (by kernel_rfl) ?_
 apply wpList_nil
 refine hK1 _ _ ?_
 have hset:=setRow_heap W0 w.heap.size old qc 175 (0,0) hB
 have hks:Kept none' w (W0.setRow w.heap.size qc)/\(W0.setRow w.heap.size qc).heap.size=w.heap.size+1:=by
  unfold World.setRow
  refine⟨⟨hk.1.os,hk.1.tape,hk.1.output,by simp[hk.2],fun k hkk hn=>?_⟩,by simp[hk.2]⟩
  rw[<-hk.1.block k hkk hn]
  simp only[Array.getElem?_modify]
  rw[if_neg (by omega)]
 have HS:=Lib.hid (And.intro hset hks)
 clear hset hks hk hB
 apply wp_ret
 refine bodyPost_ret (results_cell_row (p:=0) (ty:=175) rfl _ _ w.heap.size 175 qc (0,0) _ (by as_aux_lemma=>kernel_rfl) HS.out.1 Tryz.underlying175 rfl (by kernel_rfl)) rfl ⟨rfl,HS.out.2⟩
end
section
open Go
section
variable {P:Program} {ops:Array Oper} {C:World->Prop} {Q:Act->World->Prop}
def C9 (ops:Array Oper)(listed:Array Bool):Option Nat:=
 (List.range ops.size).find? fun k=>uZ ops k&&(Region.ready .any ops listed).contains k&&Region.free .any ops listed k
def dW (P:Program)(ops:Array Oper)(C:World->Prop)(Q:Act->World->Prop):Nat->Array Bool->Act->World->Prop
 |0,listed,a,w=>C w/\(List.range ops.size).all (fun k=>listed.getD k true)=true/\Q a w
 |n+1,listed,a,w=>
  match C9 ops listed with
  |some k=>match ops[k]? with
   |none=>False
   |some o=> ∃v,(Region.wanted o (yielded ops a.tmps)=true/\(∀w',C w'->(execOp a.eval o).run P w'= .ok (.value v) w')\/Region.wanted o (yielded ops a.tmps)=false/\v=undef)/\dW P ops C Q n (listed.setIfInBounds k true) (a.put o.dst v) w
  |none=>Region.ready .any ops listed≠[]/\ ∀k∈Region.ready .any ops listed,∃o,ops[k]?=some o/\
    (if Region.wanted o (yielded ops a.tmps)=true then o.wp P a w (fun a' w'=>C w'/\dW P ops C Q n (listed.setIfInBounds k true) a' w') (iH Q)
     else dW P ops C Q n (listed.setIfInBounds k true) (a.put o.dst undef) w)
theorem rV (hs:Region.noSelect ops=true): ∀(n:Nat)(listed:Array Bool)(a:Act)(w:World),C w->dW P ops C Q n listed a w->wZ P .any ops C false Q n listed a w
 |0,listed,a,w,hC,h=>by
  refine⟨fun _=>hC,fun k o hk=>?_,h.2.2⟩
  have:=h.2.1
  simp only[List.all_eq_true,List.mem_range]at this
  exact this k (Array.getElem?_eq_some_iff.1 hk).1
 |n+1,listed,a,w,hC,h=>by
  unfold dW at h
  split at h
  ·rename_i k hk
   have hk2:=List.find?_some hk
   simp only[Bool.and_eq_true]at hk2
   split at h
   ·exact h.elim
   ·rename_i o hok
    obtain⟨v,hv,hn⟩:=h
    have hr:k∈Region.ready .any ops listed:=by simpa using hk2.1.2
    exact uK hok (Region.noSelect_spec hs) n listed a w (Region.free_spec hok hk2.2) hC (fun hb=>by cases hb) hr hv (rV hs n _ _ w hC hn)
  ·refine⟨hC,fun h0=>absurd h0 h.1,fun k hk=>?_⟩
   obtain⟨o,hok,h2⟩:=h.2 k hk
   unfold wpOp
   simp only[hok]
   by_cases hw:Region.wanted o (yielded ops a.tmps)=true
   ·simp only[hw,if_true]at h2⊢
    exact .inl (Oper.wp_mono (fun a' w' h'=>rV hs n _ a' w' h'.1 h'.2) h2)
   ·simp only[hw]at h2⊢
    exact rV hs n _ _ w hC h2
theorem qV {id:Nat}{Q:Exit->Act->World->Prop}{a:Act}{w:World}(C:World->Prop)(hm:P.follows .mixedOrders=true)(hs:Region.noSelect ops=true)
 (hC:C w.drew) (h:dW P ops C (Q .normal) ops.size (Array.replicate ops.size false) a w.drew):(Code.region id ops true).wp P Q a w:=
 wp_region_any hm (xZ (C:=C) (bar:=false) (Q:=Q .normal) (fun _ _ h=>h) _ _ _ _ (rV hs _ _ _ _ hC h))
theorem aH {n k:Nat}{listed:Array Bool}{a:Act}{w:World}{o:Oper}{v:Value}(hp:C9 ops listed=some k)(ho:ops[k]?=some o)(hw:Region.wanted o (yielded ops a.tmps)=true)
 (hv: ∀w',C w'->(execOp a.eval o).run P w'= .ok (.value v) w') (h:dW P ops C Q n (listed.setIfInBounds k true) (a.put o.dst v) w):dW P ops C Q (n+1) listed a w:=by
 unfold dW
 rw[hp]
 simp only[ho]
 exact⟨v, .inl ⟨hw,hv⟩,h⟩
theorem dP {n k:Nat}{listed:Array Bool}{a:Act}{w:World}{o:Oper}(hp:C9 ops listed=none)(hr:Region.ready .any ops listed=[k])(ho:ops[k]?=some o)(hw:Region.wanted o (yielded ops a.tmps)=true)
 (h: ∀K:Act->World->Prop,(∀a' w',C w'->dW P ops C Q n (listed.setIfInBounds k true) a' w'->K a' w')->o.wp P a w K (iH Q)):dW P ops C Q (n+1) listed a w:=by
 unfold dW
 rw[hp,hr]
 refine⟨by simp,fun j hj=>?_⟩
 obtain rfl:j=k:=by simpa using hj
 refine⟨o,ho,?_⟩
 rw[if_pos hw]
 exact h _ fun a' w' h1 h2=>⟨h1,h2⟩
theorem uH {n i k:Nat}{listed:Array Bool}{a:Act}{w:World}{o o':Oper}(hp:C9 ops listed=none)(hr:Region.ready .any ops listed=[i,k])(ho:ops[i]?=some o)(hw:Region.wanted o (yielded ops a.tmps)=true)
 (ho':ops[k]?=some o') (hw':Region.wanted o' (yielded ops a.tmps)=true)
 (h: ∀K:Act->World->Prop,(∀a' w',C w'->dW P ops C Q n (listed.setIfInBounds i true) a' w'->K a' w')->o.wp P a w K (iH Q))
 (h': ∀K:Act->World->Prop,(∀a' w',C w'->dW P ops C Q n (listed.setIfInBounds k true) a' w'->K a' w')->o'.wp P a w K (iH Q)):dW P ops C Q (n+1) listed a w:=by
 unfold dW
 rw[hp,hr]
 refine⟨by simp,fun j hj=>?_⟩
 have hj:j=i\/j=k:=by simpa using hj
 rcases hj with rfl|rfl
 ·refine⟨o,ho,?_⟩
  rw[if_pos hw]
  exact h _ fun a' w' h1 h2=>⟨h1,h2⟩
 ·refine⟨o',ho',?_⟩
  rw[if_pos hw']
  exact h' _ fun a' w' h1 h2=>⟨h1,h2⟩
theorem uI {listed:Array Bool}{a:Act}{w:World}(hl:(List.range ops.size).all (fun k=>listed.getD k true)=true)(hC:C w)(h:Q a w):dW P ops C Q 0 listed a w:=⟨hC,hl,h⟩
end
end
end Go.Proofs.YtopeleenlcnkkaaGreatDoor
