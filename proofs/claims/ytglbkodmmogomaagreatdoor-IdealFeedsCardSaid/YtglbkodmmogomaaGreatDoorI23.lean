/- job: twice at strings, ContainsFunc with may's closure, the rules; expr: Same at none. -/
import Derived.Great.BuildSlice
import Derived.Test.YtglbkodmmogomaaGreatDoorI17
set_option linter.unusedVariables false
set_option linter.unusedSimpArgs false
set_option maxHeartbeats 1000000
set_option maxRecDepth 100000
namespace Go.Proofs.YtglbkodmmogomaaGreatDoor
section
open Go Go.RowKit
attribute [local irreducible] cZ
theorem Uy (v:Value)(l:List ByteArray)(w:World)(h:Reads w 1 v (strs l)):Calls Tryz.prog 87 #[v] w (fun e w'=>e= .returned (.bool (!decide l.Nodup))/\w=w'):=by
 have hR:=h;obtain⟨pa,ca,rfl,a1,a2,a3⟩:=h.QG;have A3:=γ (θ a3 hR);clear a3 hR;have hlen:l.length<=9223372036854775807:=(by unfold maxLen at a2;omega);go_enter Tryz.func87,Tryz.ntmps87;go_wp2_with fail;go_loopg [7] l.length (fun m vk wr=> ∃k:Nat,k<=l.length/\m=l.length-k/\vk= .int .i64 (k:Int)/\(l.take k).Nodup/\wr=w)
 case atStart=>exact⟨0,Nat.zero_le _,rfl,rfl,by simp,rfl⟩
 case round=>
  obtain⟨k,hk,hm,rfl,ht,rfl⟩:=hrel;have HT:=γ (θ ht hm);clear ht hm;by_cases hlt:k<l.length
  ·obtain⟨y,hy⟩: ∃y,l[k]?=some y:=⟨_,ι hlt⟩
   obtain⟨b,off,rfl,hc⟩:=A3.o.1.resolve_left (fun h=>by rw[h]at hlt;simp at hlt);have y0:=hc k y hy;have hsl:=BF (P:=Tryz.prog) (w:=wr) (a:=some ⟨b,off,none⟩) (n:=l.length) (cap:=ca) (i:=k) Tryz.underlying163 (afz wr) (by omega) a1;have hrd:=Reads.take A3.o.2 (i:=k) (by omega);have PU:Reads wr 1 (.slice (some ⟨b,off,none⟩) k ca) (strs (l.take k)):=(by have:(strs l).take (k*1)=strs (l.take k):=(by rw[Nat.mul_one];unfold strs;rw[List.map_take]);rwa[this]at hrd);have cc:=J9 _ (l.take k) y wr PU;have HY:=γ hy;clear hc hy A3 hrd PU;by_cases hm:y∈l.take k
   ·have e1:decide (y∈l.take k)=true:=decide_eq_true hm
    rw[e1]at cc;have F:=γ (Jk HY.o hm);clear hm e1;go_wp2_with (go_at_call 133;refine cc.mono ?_;rintro e w' ⟨rfl,rfl⟩);go_ret;exact⟨bK (by rw[decide_eq_false F.o];rfl),rfl⟩
   ·have e1:decide (y∈l.take k)=false:=decide_eq_false hm
    rw[e1]at cc;have F:=γ ((FV HY.o).2 ⟨HT.o.1,hm⟩);clear hm e1;go_wp2_with (go_at_call 133;refine cc.mono ?_;rintro e w' ⟨rfl,rfl⟩);go_roundg (l.length-(k+1))
    case rel=>exact⟨k+1,by omega,rfl,by go_num,F.o,rfl⟩
    case measure=>have:=HT.o.2;omega
  ·have e1:k=l.length:=by omega
   subst e1;have F:=γ (show l.Nodup by have:=HT.o.1;rwa[List.take_length]at this);clear HT;go_wp2_with fail;go_ret;exact⟨bK (by rw[decide_eq_true F.o];rfl),rfl⟩
theorem aaC (i n:Int)(B:Nat)(w:World)(hc:w.cell? ⟨B,0,none⟩=some (.int .i64 n)):Calls Tryz.prog 130 #[.int .i64 i,.pointer (some ⟨B,0,none⟩)] w (fun e w'=>e= .returned (.bool (!(decide (0<=i)&&decide (i<n))))/\w=w'):=by
 by_cases h0:i<0
 ·have e1:(!(decide (0<=i)&&decide (i<n)))=true:=by rw[decide_eq_false (by omega)];rfl
  rw[e1];go_enter Tryz.func130,Tryz.ntmps130;go_wp2;go_ret;exact⟨rfl,rfl⟩
 ·have e1:(!(decide (0<=i)&&decide (i<n)))=decide (n<=i):=by
   rw[decide_eq_true (by omega),Bool.true_and,<-decide_not];exact decide_eq_decide.2 (by omega)
  rw[e1];go_enter Tryz.func130,Tryz.ntmps130;go_wp2;go_ret;exact⟨rfl,rfl⟩
def uI (n:Int)(i:Int):Bool:=!(decide (0<=i)&&decide (i<n))
theorem Ii (v:Value)(l:List Int)(n:Int)(B:Nat)(w:World)(h:Reads w 1 v (ints l))(hc:w.cell? ⟨B,0,none⟩=some (.int .i64 n)):
 Calls Tryz.prog 164 #[v,.func (.func 130) #[] #[.pointer (some ⟨B,0,none⟩)]] w (fun e w'=> ∃r:Int,e= .returned (.int .i64 r)/\(decide (0<=r)=l.any (uI n))/\w=w'):=by
 obtain⟨pa,ca,rfl,a1,a2,a3⟩:=h.at;unfold maxLen at a2;have A3:=γ a3;have HC:=γ hc;clear h a3 hc;go_enter Tryz.func164,Tryz.ntmps164;go_wp2_with fail
 go_loopw [8] (fun i wr=> ∃k:Nat,k<=l.length/\i= .int .i64 (k:Int)/\(l.take k).any (uI n)=false/\wr=w) (fun i _=>l.length-(intOf i).toNat)
 case atStart=>exact⟨0,by omega,rfl,by simp,rfl⟩
 case round=>
  obtain⟨k,hk,rfl,ht,rfl⟩:=hrel;have HT:=γ ht;clear ht;by_cases hlt:k<l.length
  ·obtain⟨y,hy⟩: ∃y,l[k]?=some y:=⟨_,ι hlt⟩
   obtain⟨b,off,rfl,hcc⟩:=A3.o.resolve_left (fun h=>by rw[h]at hlt;simp at hlt);have y0:=hcc k y hy;have HY:=γ hy;have cc:=aaC y n B wr HC.o;change Calls Tryz.prog 130 #[.int .i64 y,.pointer (some ⟨B,0,none⟩)] wr (fun e w'=>e= .returned (.bool (uI n y))/\wr=w')at cc;clear hcc hy A3
   cases ho:uI n y with
   |true=>rw[ho]at cc;have F:=γ (show l.any (uI n)=true by rw[List.any_eq_true];exact⟨y,ς HY.o,ho⟩);clear ho;go_wp2_with (go_at_call 130;refine cc.mono ?_;rintro e w' ⟨rfl,rfl⟩);go_ret;exact⟨k,rfl,by rw[F.o,decide_eq_true (by omega)],rfl⟩
   |false=>
    rw[ho]at cc;have F:=γ (yT HY.o HT.o ho);clear ho;go_wp2_with (go_at_call 130;refine cc.mono ?_;rintro e w' ⟨rfl,rfl⟩)
    go_roundw
    case rel=>exact⟨k+1,by omega,by go_num,F.o,by first|trivial|rfl⟩
    case measure=>simp[intOf];omega
  ·have F:=γ (show l.any (uI n)=false by have:=HT.o;rwa[χ (by omega)]at this)
   have e1:k=l.length:=(by omega);subst e1;go_wp2_with fail;go_ret;exact⟨-1,rfl,by rw[F.o];rfl,rfl⟩
theorem wE (v:Value)(l:List Int)(n:Int)(B:Nat)(w:World)(h:Reads w 1 v (ints l))(hc:w.cell? ⟨B,0,none⟩=some (.int .i64 n)):
 Calls Tryz.prog 129 #[v,.func (.func 130) #[] #[.pointer (some ⟨B,0,none⟩)]] w (fun e w'=>e= .returned (.bool (l.any (uI n)))/\w=w'):=by
 have c:=Ii v l n B w h hc;obtain⟨pa,ca,rfl,a1,a2,a3⟩:=h.at;clear h a3 hc;go_enter Tryz.func129,Tryz.ntmps129;go_wp2_with fail;refine c.mono ?_;rintro e w2 ⟨r,rfl,hn,rfl⟩;have F:=γ hn;clear hn;go_wp2_with fail;go_ret;exact⟨bK (by rw[<-F.o]),rfl⟩
theorem Zl (x:Ex):kX x=(x.op==0&&x.n==0&&decide (x.args.length=0)):=by unfold kX;cases x.args<;>simp
theorem Qv (p:Option Addr)(n cap:Nat)(w:World):Calls Tryz.prog 165 #[.slice p n cap,.slice none 0 0,.func (.func 131) #[] #[]] w (fun e w'=>e= .returned (.bool (decide (n=0)))/\w=w'):=by
 go_enter Tryz.func165,Tryz.ntmps165;by_cases h:n=0
 ·subst h
  go_wp2_with fail;go_loopg [17] 1 (fun g vi wr=>vi= .int .i64 0/\wr=w)
  case atStart=>exact⟨rfl,rfl⟩
  case round=>obtain⟨rfl,rfl⟩:=hrel;go_wp2_with fail;go_ret;exact⟨rfl,rfl⟩
 ·have e:((n:Int) !=0)=true:=by simp;omega
  rw[decide_eq_false h];clear h;go_wp2_with fail;go_ret;exact⟨rfl,rfl⟩
theorem IU (x:Ex)(a:Array Value)(w:World)(h:aC w a x):Calls Tryz.prog 131 #[.agg a,.agg #[.int .u8 0,.int .i64 0,.slice none 0 0]] w (Gives w (.bool (kX x))):=by
 obtain⟨p,cap,rfl,h0,h1,h2,h3,h4,h5⟩:=h.parts;have HX:=γ (Zl x);unfold maxLen at h4;clear h h5;go_enter Tryz.func131,Tryz.ntmps131;by_cases b1:x.op=0
 ·have c1:(x.op==0)=true:=by simp[b1]
  rw[c1]at HX;by_cases b2:x.n=0
  ·have c2:(x.n==0)=true:=by simp[b2]
   rw[c2]at HX;by_cases b3:x.args.length=0
   ·have c3:decide (x.args.length=0)=true:=by simp[b3]
    rw[c3]at HX;have cc:=fun w=>Qv p x.args.length cap w;rw[c3]at cc;clear b1 b2 b3 c3;go_wp2_with fail;refine(cc _).mono ?_;rintro e w2 ⟨rfl,rfl⟩;go_wp2_with fail;go_ret;exact⟨aP (by rw[HX.o];rfl),(δ.alloc _).alloc _⟩
   ·have c3:decide (x.args.length=0)=false:=by simp[b3]
    rw[c3]at HX;have cc:=fun w=>Qv p x.args.length cap w;rw[c3]at cc;clear b1 b2 b3 c3;go_wp2_with fail;refine(cc _).mono ?_;rintro e w2 ⟨rfl,rfl⟩;go_wp2_with fail;go_ret;exact⟨aP (by rw[HX.o];rfl),(δ.alloc _).alloc _⟩
  ·have c2:(x.n==0)=false:=by simp[b2]
   rw[c2]at HX;clear b1 b2;go_wp2_with fail;go_ret;exact⟨aP (by rw[HX.o];rfl),(δ.alloc _).alloc _⟩
 ·have c1:(x.op==0)=false:=by simp[b1]
  rw[c1]at HX;clear b1;go_wp2_with fail;go_ret;exact⟨aP (by rw[HX.o];rfl),(δ.alloc _).alloc _⟩
end
section
open Go Go.RowKit
def jA (a b t:Int)(c:Bool)(n:Int):List Value:=[.int .i64 a,.int .i64 b,.int .u8 t,.bool c,.int .i64 n]
def rX:Array Value:=(jA 0 0 0 false 0++jA 0 0 0 false 0++jA 1 1 1 false 0++jA 1 1 2 false 0++jA 1 1 1 false 0++jA 1 1 1 false 0++jA 1 1 1 true 0++jA 1 1 0 false 16++jA 2 3 0 false 0++jA 1 1 0 false 0).toArray
theorem Vk (w:World):Calls Tryz.prog 127 #[] w (fun e w'=>e= .returned (.agg rX)/\ε η w w'/\w'.heap.size=w.heap.size+1):=by go_enter Tryz.func127,Tryz.ntmps127;apply wp_seq_k;intro K0 hK0;have QZ:=γ hK0;clear hK0;go_wp2_with fail;refine QZ.o _ _ ?_;clear QZ;obtain⟨W0,hW0⟩:=acf ((w.alloc (.cells #[.int .i64 0,.int .i64 0,.int .u8 0,.bool false,.int .i64 0,.int .i64 0,.int .i64 0,.int .u8 0,.bool false,.int .i64 0,.int .i64 0,.int .i64 0,.int .u8 0,.bool false,.int .i64 0,.int .i64 0,.int .i64 0,.int .u8 0,.bool false,.int .i64 0,.int .i64 0,.int .i64 0,.int .u8 0,.bool false,.int .i64 0,.int .i64 0,.int .i64 0,.int .u8 0,.bool false,.int .i64 0,.int .i64 0,.int .i64 0,.int .u8 0,.bool false,.int .i64 0,.int .i64 0,.int .i64 0,.int .u8 0,.bool false,.int .i64 0,.int .i64 0,.int .i64 0,.int .u8 0,.bool false,.int .i64 0,.int .i64 0,.int .i64 0,.int .u8 0,.bool false,.int .i64 0] 202)));have hB: ∃old,W0.heap[w.heap.size]?=some (.cells old 202 (0,0))/\old.size=50:=(by rw[<-hW0];exact⟨_,heap_alloc_new _ _,rfl⟩);have hk:ε η w W0/\W0.heap.size=w.heap.size+1:=(by rw[<-hW0];exact⟨δ.alloc _,by simp⟩);rw[hW0];clear hW0;obtain⟨old,hB,hold⟩:=hB;apply wp_seq_k;intro K1 hK1;apply wp_region_lit;refine wpList_buildTo rfl 201 _ rfl (some 1) rfl (jA 0 0 0 false 0).toArray (by kernel_rfl) ?_;refine wpList_buildTo rfl 201 _ rfl (some 2) rfl (jA 1 1 1 false 0).toArray (by kernel_rfl) ?_;refine wpList_buildTo rfl 201 _ rfl (some 3) rfl (jA 1 1 2 false 0).toArray (by kernel_rfl) ?_;refine wpList_buildTo rfl 201 _ rfl (some 4) rfl (jA 1 1 1 false 0).toArray (by kernel_rfl) ?_;refine wpList_buildTo rfl 201 _ rfl (some 5) rfl (jA 1 1 1 false 0).toArray (by kernel_rfl) ?_;refine wpList_buildTo rfl 201 _ rfl (some 6) rfl (jA 1 1 1 true 0).toArray (by kernel_rfl) ?_;refine wpList_buildTo rfl 201 _ rfl (some 7) rfl (jA 1 1 0 false 16).toArray (by kernel_rfl) ?_;refine wpList_buildTo rfl 201 _ rfl (some 8) rfl (jA 2 3 0 false 0).toArray (by kernel_rfl) ?_;refine wpList_buildTo rfl 201 _ rfl (some 9) rfl (jA 1 1 0 false 0).toArray (by kernel_rfl) ?_;refine wpList_buildTo rfl 202 _ rfl (some 10) rfl rX (by kernel_rfl) ?_;refine wpList_store_rowTo rfl 202 _ _ rfl rfl w.heap.size rX (by as_aux_lemma=>kernel_rfl) (by as_aux_lemma=>kernel_rfl) 202 old hB (by kernel_rfl) hold (by kernel_rfl) ?_;apply wpList_nil;refine hK1 _ _ ?_;have hset:=setRow_heap W0 w.heap.size old rX 202 (0,0) hB;have hks:ε η w (W0.setRow w.heap.size rX)/\(W0.setRow w.heap.size rX).heap.size=w.heap.size+1:=(by unfold World.setRow;refine⟨⟨hk.1.os,hk.1.tape,hk.1.output,by simp[hk.2],fun k hkk hn=>?_⟩,by simp[hk.2]⟩;rw[<-hk.1.block k hkk hn];simp only[Array.getElem?_modify];rw[if_neg (by omega)]);have HS:=γ (θ hset hks);clear hset hks hk hB;apply wp_ret;refine bodyPost_ret (results_cell_row (p:=0) (ty:=202) rfl _ _ w.heap.size 202 rX (0,0) _ (by as_aux_lemma=>kernel_rfl) HS.o.1 Tryz.underlying202 rfl (by kernel_rfl)) rfl ⟨rfl,HS.o.2⟩
end
section
open Go Go.RowKit
attribute [local irreducible] cZ iC
theorem acR (k:Int)(h1:1<=k)(h2:k<=9)(w:World):(Instr.index 202 (.agg rX) (.int .u8 k)).run Tryz.prog w= .ok (.agg (jA (jI k) (jh k) (vT k) (tK k) (jN k)).toArray) w:=by
 have hk:k=1\/k=2\/k=3\/k=4\/k=5\/k=6\/k=7\/k=8\/k=9:=by omega
 rcases hk with h|h|h|h|h|h|h|h|h
 all_goals(subst h;clear h1 h2;apply Eq.symm;apply Eq.symm;kernel_rfl)
structure yF (w:World)(B:Nat)(L M:Int)(t:Int)(c:Bool)(N:Int):Prop where
 r0:w.cell? ⟨B,0,none⟩=some (.int .i64 L)
 r1:w.cell? ⟨B,1,none⟩=some (.int .i64 M)
 r2:w.cell? ⟨B,2,none⟩=some (.int .u8 t)
 r3:w.cell? ⟨B,3,none⟩=some (.bool c)
 r4:w.cell? ⟨B,4,none⟩=some (.int .i64 N)
theorem yF.of {w:World}{B E:Nat}{L M t N:Int}{c:Bool}(h:w.heap[B]?=some (.cells #[.int .i64 L,.int .i64 M,.int .u8 t,.bool c,.int .i64 N] E (0,0))):yF w B L M t c N:=
 ⟨ζ h rfl,ζ h rfl,ζ h rfl,ζ h rfl,ζ h rfl⟩
theorem ahw {w:World}{B E:Nat}{a b c d e a' b' c' d' e':Value}(h:w.heap[B]?=some (.cells #[a,b,c,d,e] E (0,0))):
 (((((w.setCell ⟨B,0,none⟩ a').setCell ⟨B,1,none⟩ b').setCell ⟨B,2,none⟩ c').setCell ⟨B,3,none⟩ d').setCell ⟨B,4,none⟩ e').heap[B]?=some (.cells #[a',b',c',d',e'] E (0,0)):=by
 have h1:=bD h 0 a';have h2:=bD h1 1 b';have h3:=bD h2 2 c';have h4:=bD h3 3 d';have h5:=bD h4 4 e';simpa using h5
theorem afF {w0 w:World}{B:Nat}{a b c d e:Value}(h:ε η w0 w)(hB:w0.heap.size<=B):
 ε η w0 (((((w.setCell ⟨B,0,none⟩ a).setCell ⟨B,1,none⟩ b).setCell ⟨B,2,none⟩ c).setCell ⟨B,3,none⟩ d).setCell ⟨B,4,none⟩ e):=
 ((((h.setCell (p:=⟨B,0,none⟩) (.inr hB) _).setCell (p:=⟨B,1,none⟩) (.inr hB) _).setCell (p:=⟨B,2,none⟩) (.inr hB) _).setCell (p:=⟨B,3,none⟩) (.inr hB) _).setCell (p:=⟨B,4,none⟩) (.inr hB) _
theorem aaD (d:JN)(a:Array Value)(at_:Nat)(w:World)(h:nO w a d)(hat:at_<=1000):Calls Tryz.prog 86 #[.agg a,.int .i64 (at_:Int)] w (Gives w (.bool (aX at_ d))):=by
 have h0:=h;obtain⟨pi,ci,p,cap,rfl,h1,h2,h3,h4,h5,h6,h7⟩:=h0;have H:=γ (θ h1 (θ h2 h7));clear h1 h2 h3 h h7;go_enter Tryz.func86,Tryz.ntmps86;go_wp2_with fail;obtain⟨W0,hW0⟩:=acf ((w.alloc (.cells (bG d pi ci p cap) 42)).alloc (.cells #[.int .i64 (at_:Int)] 3));have k0:ε η w W0:=(by rw[<-hW0];exact(δ.alloc _).alloc _);have kA:ε η (w.alloc (.cells (bG d pi ci p cap) 42)) W0:=(by rw[<-hW0];exact δ.alloc _);have c0:W0.cell? ⟨w.heap.size,0,none⟩=some (.string d.uid):=kA.cell id (by simp);have c1:W0.cell? ⟨w.heap.size,1,none⟩=some (.int .u8 d.kind):=kA.cell id (by simp);have c2:W0.cell? ⟨w.heap.size,2,none⟩=some (.slice pi d.ins.length ci):=kA.cell id (by simp);have c3:W0.cell? ⟨w.heap.size,3,none⟩=some (.int .u8 d.x.op):=kA.cell id (by simp);have c4:W0.cell? ⟨w.heap.size,4,none⟩=some (.int .i64 d.x.n):=kA.cell id (by simp);have c5:W0.cell? ⟨w.heap.size,5,none⟩=some (.slice p d.x.args.length cap):=kA.cell id (by simp);have c6:W0.cell? ⟨w.heap.size,6,none⟩=some (.int .i64 d.n):=kA.cell id (by simp);have e0:W0.cell? ⟨w.heap.size+1,0,none⟩=some (.int .i64 (at_:Int)):=(by rw[<-hW0];simp);rw[hW0];have K0:=γ k0;clear hW0 k0 kA;(with_reducible refine(name_any d.uid H.o.2.2 W0).mono ?_);rintro e W1 ⟨rfl,k1⟩;have c0:=k1.cell (p:=⟨w.heap.size,0,none⟩) id c0;have c1:=k1.cell (p:=⟨w.heap.size,1,none⟩) id c1;have c2:=k1.cell (p:=⟨w.heap.size,2,none⟩) id c2;have c3:=k1.cell (p:=⟨w.heap.size,3,none⟩) id c3;have c4:=k1.cell (p:=⟨w.heap.size,4,none⟩) id c4;have c5:=k1.cell (p:=⟨w.heap.size,5,none⟩) id c5;have c6:=k1.cell (p:=⟨w.heap.size,6,none⟩) id c6;have e0:=k1.cell (p:=⟨w.heap.size+1,0,none⟩) id e0;have K1:=γ (K0.o.trans k1);clear k1;have HM:=γ (show aX at_ d=zT (fB d.uid) d.kind d.ins.length (fE d.ins at_) (kX d.x) (fun acc ty=>mX d.x acc ty) d.n from rfl)
 cases hn:fB d.uid with
 |false=>rw[hn]at HM;clear hn;go_wp2_with fail;go_ret;exact⟨aP (by rw[HM.o];rfl),K1.o⟩
 |true=>
  rw[hn]at HM;clear hn;by_cases hk:d.kind<1\/9<d.kind
  ·have F:=γ (show aX at_ d=false by rw[HM.o];unfold zT;rw[if_pos (.inr hk)])
   rcases hk with hk|hk
   ·go_wp2_with fail
    go_ret;exact⟨aP (by rw[F.o]),K1.o⟩
   ·go_wp2_with fail
    go_ret;exact⟨aP (by rw[F.o]),K1.o⟩
  ·have hk1:1<=d.kind:=by omega
   have hk2:d.kind<=9:=(by omega);have hidx:=fun W=>acR d.kind hk1 hk2 W;clear hk;have hrv:(jA (jI d.kind) (jh d.kind) (vT d.kind) (tK d.kind) (jN d.kind)).toArray= #[.int .i64 (jI d.kind:Int),.int .i64 (jh d.kind:Int),.int .u8 (vT d.kind),.bool (tK d.kind),.int .i64 (jN d.kind)]:=rfl;rw[hrv]at hidx;have hjr:=fun W=>Vk W;go_wp2_with fail;refine uq (fun W=>ε η W1 W) (by kernel_rfl) (by kernel_rfl) δ.drew ?_;refine bZ (k:=1) (by kernel_rfl) rfl rfl (fun W hW=>by go_simp;rfl) ?_;go_frame;refine bZ (k:=2) (by kernel_rfl) rfl rfl (fun W hW=>by have z1:=hW.cell id c1;go_simp;rfl) ?_;go_frame;refine zB (i:=0) (k:=4) (by kernel_rfl) (by kernel_rfl) rfl rfl rfl rfl ?_ ?_
   ·intro K hK
    go_wp2_with fail;refine(hjr _).mono ?_;rintro e W2 ⟨rfl,k2,s2⟩;go_wp2_with fail;refine hK _ _ k2.aZ ?_;clear hK;refine bZ (k:=3) (by kernel_rfl) rfl rfl (fun W hW=>by go_simp;rfl) ?_;go_frame;refine fK (k:=4) (by kernel_rfl) (by kernel_rfl) rfl rfl ?_;intro K hK;go_wp2_with fail;refine hK _ _ (k2.aZ.alloc _) ?_;clear hK;refine fK (k:=5) (by kernel_rfl) (by kernel_rfl) rfl rfl ?_;intro K hK;go_wp2_with fail;have kW:ε η W1 (W2.alloc (.cells #[.int .i64 (jI d.kind:Int),.int .i64 (jh d.kind:Int),.int .u8 (vT d.kind),.bool (tK d.kind),.int .i64 (jN d.kind)] 201)):=k2.aZ.alloc _;have hR:=yF.of (heap_alloc_new W2 (.cells #[.int .i64 (jI d.kind:Int),.int .i64 (jh d.kind:Int),.int .u8 (vT d.kind),.bool (tK d.kind),.int .i64 (jN d.kind)] 201));have hs2:W2.heap.size=W1.heap.size+1:=s2;rw[hs2]at hR;refine hK _ _ kW ?_;clear hK;refine wQ (by kernel_rfl) kW ?_;generalize(W2.alloc (.cells #[.int .i64 (jI d.kind:Int),.int .i64 (jh d.kind:Int),.int .u8 (vT d.kind),.bool (tK d.kind),.int .i64 (jN d.kind)] 201))=W3 at*;generalize W1.heap.size+1=B at*;have K3:=γ (K1.o.trans kW);have c0:=kW.cell (p:=⟨w.heap.size,0,none⟩) id c0;have c1:=kW.cell (p:=⟨w.heap.size,1,none⟩) id c1;have c2:=kW.cell (p:=⟨w.heap.size,2,none⟩) id c2;have c3:=kW.cell (p:=⟨w.heap.size,3,none⟩) id c3;have c4:=kW.cell (p:=⟨w.heap.size,4,none⟩) id c4;have c5:=kW.cell (p:=⟨w.heap.size,5,none⟩) id c5;have c6:=kW.cell (p:=⟨w.heap.size,6,none⟩) id c6;have e0:=kW.cell (p:=⟨w.heap.size+1,0,none⟩) id e0;have kZ:aX at_ d=(if d.ins.length<jI d.kind\/jh d.kind<d.ins.length\/fE d.ins at_=false then false else if d.n<min (jN d.kind) 1\/jN d.kind<d.n then false else if vT d.kind=0 then kX d.x else mX d.x (tK d.kind) (vT d.kind)):=(by rw[HM.o];unfold zT;rw[if_neg (by simp;omega)]);have kZ:=γ kZ;generalize jI d.kind=L at*;generalize jh d.kind=M at*;generalize vT d.kind=ty at*;generalize tK d.kind=ac at*;generalize jN d.kind=N at*;obtain⟨r0,r1,r2,r3,r4⟩:=hR;clear kW hidx hrv hjr HM k2 s2;by_cases b1:d.ins.length<L
    ·have F:=γ (show aX at_ d=false by rw[kZ.o,if_pos (.inl b1)])
     clear kZ;go_wp2_with fail;go_ret;exact⟨aP (by rw[F.o]),K3.o⟩
    ·by_cases b2:M<d.ins.length
     ·have F:=γ (show aX at_ d=false by rw[kZ.o,if_pos (.inr (.inl b2))])
      clear kZ;go_wp2_with fail;go_ret;exact⟨aP (by rw[F.o]),K3.o⟩
     ·have ct:=Fh _ d.ins W3 (H.o.2.1.pure K3.o)
      have cf:=wE _ d.ins (at_:Int) (w.heap.size+1) W3 (H.o.2.1.pure K3.o) e0;have hg:fE d.ins at_=(decide d.ins.Nodup&&!(d.ins.any (uI (at_:Int)))):=by
       unfold fE;rw[List.not_any_eq_all_not]
       congr 2
       funext k
       unfold uI;simp
      have HG:=γ hg;clear hg;generalize decide d.ins.Nodup=bn at*;generalize d.ins.any (uI (at_:Int))=bo at*
      cases bn with
      |false=>have F:=γ (show aX at_ d=false by rw[kZ.o,if_pos (.inr (.inr (by rw[HG.o];rfl)))]);clear kZ;go_wp2_with (go_at_call 128;refine ct.mono ?_;rintro e w' ⟨rfl,rfl⟩);go_ret;exact⟨aP (by rw[F.o]),K3.o⟩
      |true=>
       cases bo with
       |true=>have F:=γ (show aX at_ d=false by rw[kZ.o,if_pos (.inr (.inr (by rw[HG.o];rfl)))]);clear kZ;go_wp2_with (first|(go_at_call 128;refine ct.mono ?_;rintro e w' ⟨rfl,rfl⟩)|(go_at_call 129;refine cf.mono ?_;rintro e w' ⟨rfl,rfl⟩));go_ret;exact⟨aP (by rw[F.o]),K3.o⟩
       |false=>
        have wu:=γ (show aX at_ d=(if d.n<min N 1\/N<d.n then false else if ty=0 then kX d.x else mX d.x ac ty) by
         rw[kZ.o,if_neg (by rw[HG.o];simp;omega)])
        clear kZ HG;by_cases b3:d.n<min N 1
        ·have F:=γ (show aX at_ d=false by rw[wu.o,if_pos (.inl b3)])
         clear wu;go_wp2_with (first|(go_at_call 128;refine ct.mono ?_;rintro e w' ⟨rfl,rfl⟩)|(go_at_call 129;refine cf.mono ?_;rintro e w' ⟨rfl,rfl⟩));go_ret;exact⟨aP (by rw[F.o]),K3.o⟩
        ·by_cases b4:N<d.n
         ·have F:=γ (show aX at_ d=false by rw[wu.o,if_pos (.inr b4)])
          clear wu;go_wp2_with (first|(go_at_call 128;refine ct.mono ?_;rintro e w' ⟨rfl,rfl⟩)|(go_at_call 129;refine cf.mono ?_;rintro e w' ⟨rfl,rfl⟩));go_ret;exact⟨aP (by rw[F.o]),K3.o⟩
         ·by_cases b5:ty=0
          ·subst b5
           have F:=γ (show aX at_ d=kX d.x by rw[wu.o,if_neg (by omega),if_pos rfl]);have cs:=IU d.x _ W3 (aC.pure K3.o H.o.1);clear wu;go_wp2_with (first|(go_at_call 128;refine ct.mono ?_;rintro e w' ⟨rfl,rfl⟩)|(go_at_call 129;refine cf.mono ?_;rintro e w' ⟨rfl,rfl⟩));(with_reducible refine cs.mono ?_);rintro e W4 ⟨rfl,k4⟩;have K4:=γ (K3.o.trans k4);clear k4;go_wp2_with fail;go_ret;exact⟨aP (by rw[F.o]),K4.o⟩
          ·have F:=γ (show aX at_ d=mX d.x ac ty by rw[wu.o,if_neg (by omega),if_neg b5])
           have ci:=YK d.x ac ty _ W3 (aC.pure K3.o H.o.1);have hb:(ty==0)=false:=(by simp[b5]);clear wu;go_wp2_with (first|(go_at_call 128;refine ct.mono ?_;rintro e w' ⟨rfl,rfl⟩)|(go_at_call 129;refine cf.mono ?_;rintro e w' ⟨rfl,rfl⟩));(with_reducible refine ci.mono ?_);rintro e W4 ⟨rfl,k4⟩;have K4:=γ (K3.o.trans k4);clear k4;go_wp2_with fail;go_ret;exact⟨aP (by rw[F.o]),K4.o⟩
   ·intro K hK
    go_wp2_with fail;refine hK _ _ (δ.drew.alloc _) ?_;clear hK;refine fK (k:=0) (by kernel_rfl) (by kernel_rfl) rfl rfl ?_;intro K hK;go_wp2_with fail;refine(hjr _).mono ?_;rintro e W2 ⟨rfl,k2,s2⟩;go_wp2_with fail;refine hK _ _ ((δ.drew.alloc _).trans k2) ?_;clear hK;refine bZ (k:=3) (by kernel_rfl) rfl rfl (fun W hW=>by go_simp;rfl) ?_;go_frame;have hB:W2.heap[W1.heap.size]?=some (.cells #[.int .i64 0,.int .i64 0,.int .u8 0,.bool false,.int .i64 0] 201 (0,0)):=k2.heap (heap_alloc_new W1.drew (.cells #[.int .i64 0,.int .i64 0,.int .u8 0,.bool false,.int .i64 0] 201)) id;have z0:W2.cell? ⟨W1.heap.size,0,none⟩=some (.int .i64 0):=ζ hB rfl;have z1:W2.cell? ⟨W1.heap.size,1,none⟩=some (.int .i64 0):=ζ hB rfl;have z2:W2.cell? ⟨W1.heap.size,2,none⟩=some (.int .u8 0):=ζ hB rfl;have z3:W2.cell? ⟨W1.heap.size,3,none⟩=some (.bool false):=ζ hB rfl;have z4:W2.cell? ⟨W1.heap.size,4,none⟩=some (.int .i64 0):=ζ hB rfl;have f0:=free_at hB 0;have f1:=free_at hB 1;have f2:=free_at hB 2;have f3:=free_at hB 3;have f4:=free_at hB 4;have kW:=afF (a:= .int .i64 (jI d.kind:Int)) (b:= .int .i64 (jh d.kind:Int)) (c:= .int .u8 (vT d.kind)) (d:= .bool (tK d.kind)) (e:= .int .i64 (jN d.kind)) (((ε.refl η W1).drew.alloc (.cells #[.int .i64 0,.int .i64 0,.int .u8 0,.bool false,.int .i64 0] 201)).trans k2) (ξ _);have hR:=yF.of (ahw (a':= .int .i64 (jI d.kind:Int)) (b':= .int .i64 (jh d.kind:Int)) (c':= .int .u8 (vT d.kind)) (d':= .bool (tK d.kind)) (e':= .int .i64 (jN d.kind)) hB);have KW:=γ kW;have HR:=γ hR;clear kW hR hB;refine fK (k:=5) (by kernel_rfl) (by kernel_rfl) rfl rfl ?_;intro K hK;go_wp2_with fail;refine hK _ _ KW.o ?_;clear hK;refine wQ (by kernel_rfl) KW.o ?_;have kW:=KW.o;have hR:=HR.o;clear KW HR z0 z1 z2 z3 z4 f0 f1 f2 f3 f4;generalize(((((W2.setCell ⟨W1.heap.size,0,none⟩ (.int .i64 (jI d.kind:Int))).setCell ⟨W1.heap.size,1,none⟩ (.int .i64 (jh d.kind:Int))).setCell ⟨W1.heap.size,2,none⟩ (.int .u8 (vT d.kind))).setCell ⟨W1.heap.size,3,none⟩ (.bool (tK d.kind))).setCell ⟨W1.heap.size,4,none⟩ (.int .i64 (jN d.kind)))=W3 at*;have K3:=γ (K1.o.trans kW);have c0:=kW.cell (p:=⟨w.heap.size,0,none⟩) id c0;have c1:=kW.cell (p:=⟨w.heap.size,1,none⟩) id c1;have c2:=kW.cell (p:=⟨w.heap.size,2,none⟩) id c2;have c3:=kW.cell (p:=⟨w.heap.size,3,none⟩) id c3;have c4:=kW.cell (p:=⟨w.heap.size,4,none⟩) id c4;have c5:=kW.cell (p:=⟨w.heap.size,5,none⟩) id c5;have c6:=kW.cell (p:=⟨w.heap.size,6,none⟩) id c6;have e0:=kW.cell (p:=⟨w.heap.size+1,0,none⟩) id e0;have kZ:aX at_ d=(if d.ins.length<jI d.kind\/jh d.kind<d.ins.length\/fE d.ins at_=false then false else if d.n<min (jN d.kind) 1\/jN d.kind<d.n then false else if vT d.kind=0 then kX d.x else mX d.x (tK d.kind) (vT d.kind)):=(by rw[HM.o];unfold zT;rw[if_neg (by simp;omega)]);have kZ:=γ kZ;generalize jI d.kind=L at*;generalize jh d.kind=M at*;generalize vT d.kind=ty at*;generalize tK d.kind=ac at*;generalize jN d.kind=N at*;obtain⟨r0,r1,r2,r3,r4⟩:=hR;clear kW hidx hrv hjr HM k2 s2;by_cases b1:d.ins.length<L
    ·have F:=γ (show aX at_ d=false by rw[kZ.o,if_pos (.inl b1)])
     clear kZ;go_wp2_with fail;go_ret;exact⟨aP (by rw[F.o]),K3.o⟩
    ·by_cases b2:M<d.ins.length
     ·have F:=γ (show aX at_ d=false by rw[kZ.o,if_pos (.inr (.inl b2))])
      clear kZ;go_wp2_with fail;go_ret;exact⟨aP (by rw[F.o]),K3.o⟩
     ·have ct:=Fh _ d.ins W3 (H.o.2.1.pure K3.o)
      have cf:=wE _ d.ins (at_:Int) (w.heap.size+1) W3 (H.o.2.1.pure K3.o) e0;have hg:fE d.ins at_=(decide d.ins.Nodup&&!(d.ins.any (uI (at_:Int)))):=by
       unfold fE;rw[List.not_any_eq_all_not]
       congr 2
       funext k
       unfold uI;simp
      have HG:=γ hg;clear hg;generalize decide d.ins.Nodup=bn at*;generalize d.ins.any (uI (at_:Int))=bo at*
      cases bn with
      |false=>have F:=γ (show aX at_ d=false by rw[kZ.o,if_pos (.inr (.inr (by rw[HG.o];rfl)))]);clear kZ;go_wp2_with (go_at_call 128;refine ct.mono ?_;rintro e w' ⟨rfl,rfl⟩);go_ret;exact⟨aP (by rw[F.o]),K3.o⟩
      |true=>
       cases bo with
       |true=>have F:=γ (show aX at_ d=false by rw[kZ.o,if_pos (.inr (.inr (by rw[HG.o];rfl)))]);clear kZ;go_wp2_with (first|(go_at_call 128;refine ct.mono ?_;rintro e w' ⟨rfl,rfl⟩)|(go_at_call 129;refine cf.mono ?_;rintro e w' ⟨rfl,rfl⟩));go_ret;exact⟨aP (by rw[F.o]),K3.o⟩
       |false=>
        have wu:=γ (show aX at_ d=(if d.n<min N 1\/N<d.n then false else if ty=0 then kX d.x else mX d.x ac ty) by
         rw[kZ.o,if_neg (by rw[HG.o];simp;omega)])
        clear kZ HG;by_cases b3:d.n<min N 1
        ·have F:=γ (show aX at_ d=false by rw[wu.o,if_pos (.inl b3)])
         clear wu;go_wp2_with (first|(go_at_call 128;refine ct.mono ?_;rintro e w' ⟨rfl,rfl⟩)|(go_at_call 129;refine cf.mono ?_;rintro e w' ⟨rfl,rfl⟩));go_ret;exact⟨aP (by rw[F.o]),K3.o⟩
        ·by_cases b4:N<d.n
         ·have F:=γ (show aX at_ d=false by rw[wu.o,if_pos (.inr b4)])
          clear wu;go_wp2_with (first|(go_at_call 128;refine ct.mono ?_;rintro e w' ⟨rfl,rfl⟩)|(go_at_call 129;refine cf.mono ?_;rintro e w' ⟨rfl,rfl⟩));go_ret;exact⟨aP (by rw[F.o]),K3.o⟩
         ·by_cases b5:ty=0
          ·subst b5
           have F:=γ (show aX at_ d=kX d.x by rw[wu.o,if_neg (by omega),if_pos rfl]);have cs:=IU d.x _ W3 (aC.pure K3.o H.o.1);clear wu;go_wp2_with (first|(go_at_call 128;refine ct.mono ?_;rintro e w' ⟨rfl,rfl⟩)|(go_at_call 129;refine cf.mono ?_;rintro e w' ⟨rfl,rfl⟩));(with_reducible refine cs.mono ?_);rintro e W4 ⟨rfl,k4⟩;have K4:=γ (K3.o.trans k4);clear k4;go_wp2_with fail;go_ret;exact⟨aP (by rw[F.o]),K4.o⟩
          ·have F:=γ (show aX at_ d=mX d.x ac ty by rw[wu.o,if_neg (by omega),if_neg b5])
           have ci:=YK d.x ac ty _ W3 (aC.pure K3.o H.o.1);have hb:(ty==0)=false:=(by simp[b5]);clear wu;go_wp2_with (first|(go_at_call 128;refine ct.mono ?_;rintro e w' ⟨rfl,rfl⟩)|(go_at_call 129;refine cf.mono ?_;rintro e w' ⟨rfl,rfl⟩));(with_reducible refine ci.mono ?_);rintro e W4 ⟨rfl,k4⟩;have K4:=γ (K3.o.trans k4);clear k4;go_wp2_with fail;go_ret;exact⟨aP (by rw[F.o]),K4.o⟩
end
