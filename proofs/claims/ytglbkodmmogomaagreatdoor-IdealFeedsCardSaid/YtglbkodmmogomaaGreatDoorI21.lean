/- script: words of kinds; the index of a text; a node by the words of its line. -/
import Derived.Test.YtglbkodmmogomaaGreatDoorI20
set_option linter.unusedVariables false
set_option linter.unusedSimpArgs false
set_option maxHeartbeats 4000000
set_option maxRecDepth 100000
namespace Go.Proofs.YtglbkodmmogomaaGreatDoor
section
open Go Go.RowKit
attribute [local irreducible] cZ iC
def afW (w:World)(l:List ByteArray)(g:ByteArray)(e:Ending)(w':World):Prop:= ∃n:Nat,e= .returned (.int .i64 (n:Int))/\l[n]?=some g/\w=w'
theorem D8 (v:Value)(l:List ByteArray)(g:ByteArray)(hg:g∈l)(w:World)(h:Reads w 1 v (strs l)):Calls Tryz.prog 167 #[v,.string g] w (afW w l g):=by
 obtain⟨pa,ca,rfl,a1,a2,a3⟩:=h.QG;unfold maxLen at a2;have A3:=γ a3;have HM:=γ hg;clear h a3 hg;go_enter Tryz.func167,Tryz.ntmps167;go_wp2_with fail
 go_loopw [8] (fun i wr=> ∃k:Nat,k<=l.length/\i= .int .i64 (k:Int)/\g∉l.take k/\wr=w) (fun i _=>l.length-(intOf i).toNat)
 case atStart=>exact⟨0,by omega,rfl,by simp,rfl⟩
 case round=>
  obtain⟨k,hk,rfl,ht,rfl⟩:=hrel;have HT:=γ ht;clear ht;by_cases hlt:k<l.length
  ·obtain⟨y,hy⟩: ∃y,l[k]?=some y:=⟨_,ι hlt⟩
   obtain⟨b,off,rfl,hc⟩:=A3.o.resolve_left (fun h=>by rw[h]at hlt;simp at hlt);have y0:=hc k y hy;have HY:=γ hy;clear hc hy A3;by_cases he:g=y
   ·subst he
    have hse:(g.toList==g.toList)=true:=(by simp);go_wp2_with fail;go_ret;exact⟨k,rfl,HY.o,rfl⟩
   ·have hse:(g.toList==y.toList)=false:=by rw[str_eq,decide_eq_false he]
    go_wp2_with fail
    go_roundw
    case rel=>refine⟨k+1,by omega,by go_num,?_,by first|trivial|rfl⟩;rw[ψ,HY.o];simp[HT.o,he]
    case measure=>simp[intOf];omega
  ·have hE:g∉l:=by have:=HT.o;rwa[χ (by omega)]at this
   exact absurd HM.o hE
def oC:List ByteArray:=[⟨#[]⟩,⟨#[115,111,117,114,99,101]⟩,⟨#[109,97,112]⟩,⟨#[102,105,108,116,101,114]⟩,⟨#[102,108,97,116]⟩,⟨#[107,101,121]⟩,⟨#[114,101,100,117,99,101]⟩,⟨#[119,105,110,100,111,119]⟩,⟨#[117,110,105,111,110]⟩,⟨#[115,105,110,107]⟩]
theorem Vj (w:World):Calls Tryz.prog 191 #[] w fun e w'=>e= .returned (.agg #[.string ⟨#[]⟩,.string ⟨#[115,111,117,114,99,101]⟩,.string ⟨#[109,97,112]⟩,.string ⟨#[102,105,108,116,101,114]⟩,.string ⟨#[102,108,97,116]⟩,.string ⟨#[107,101,121]⟩,.string ⟨#[114,101,100,117,99,101]⟩,.string ⟨#[119,105,110,100,111,119]⟩,.string ⟨#[117,110,105,111,110]⟩,.string ⟨#[115,105,110,107]⟩])/\ε η w w':=by go_enter Tryz.func191,Tryz.ntmps191;go_wp2_with fail;refine bodyPost_ret (v:= .agg #[.string ⟨#[]⟩,.string ⟨#[115,111,117,114,99,101]⟩,.string ⟨#[109,97,112]⟩,.string ⟨#[102,105,108,116,101,114]⟩,.string ⟨#[102,108,97,116]⟩,.string ⟨#[107,101,121]⟩,.string ⟨#[114,101,100,117,99,101]⟩,.string ⟨#[119,105,110,100,111,119]⟩,.string ⟨#[117,110,105,111,110]⟩,.string ⟨#[115,105,110,107]⟩]) (by simp[results,Tryz.results191,go_sem]) rfl ⟨rfl,?_⟩;exact δ.alloc _
def ny (w:World)(D:Nat->Prop)(a:Array Value)(d:JN):Prop:= ∀(S:Nat->Prop)(w':World),ε S w w'->(∀k,D k-> ¬S k)->nO w' a d
theorem ny.at {w:World}{D:Nat->Prop}{a:Array Value}{d:JN}(h:ny w D a d):nO w a d:=h η w δ (fun _ _ h=>h)
theorem ny.kept {w w':World}{S D:Nat->Prop}{a:Array Value}{d:JN}(h:ny w D a d)(hk:ε S w w')(hS: ∀k,D k-> ¬S k):ny w' D a d:=fun S2 w2 h2 hd=>
 h (fun k=>S k\/S2 k) w2 ((hk.mono (fun _ _ h=> .inl h)).trans (h2.mono (fun _ _ h=> .inr h))) (fun k hk=>by rintro(h|h);exact hS k hk h;exact hd k hk h)
theorem adF {w:World}{base n:Nat}{va:Value}{l:List Int}(h:w.ownsRow base 3 1 va n (ints l))(x:Int)(hb:base<=w.heap.size)(hn:n<=100000):
 ∃iw w',(Builtin.append_ #[37,37] 37 #[va,.slice (some ⟨w.heap.size,0,none⟩) 1 1]).run Tryz.prog (w.alloc (.cells #[.int .i64 x] 3))= .ok iw w'/\w'.ownsRow base 3 1 iw (n+1) (ints (l++[x]))/\ε (fun j=>base<=j) w w':=by
 have h3:(Tryz.prog.info? 3).map (fun i=>(i.zero,i.size,i.bytes))=some (some (.int .i64 0),1,8):=(by kernel_rfl);obtain⟨i,hi,hzz⟩:=abP.1 h3;simp only[Prod.mk.injEq]at hzz;have:=U9 Tryz.underlying37 hi hzz.1 hzz.2.1 hzz.2.2 rfl (x:= .int .i64 x) rfl h hn (by omega) hb 37;rwa[show ints (l++[x])=ints l++[.int .i64 x] by unfold ints;rw[abM];rfl]
theorem ady {w:World}{b E:Nat}{x0 x1 x2 x3 x4 x5 x6:Value}(h:w.heap[b]?=some (.cells #[x0,x1,x2,x3,x4,x5,x6] E (0,0)))(y0 y1 y2 y3 y4 y5 y6:Value):
 (((((((w.setCell ⟨b,0,none⟩ y0).setCell ⟨b,1,none⟩ y1).setCell ⟨b,2,none⟩ y2).setCell ⟨b,3,none⟩ y3).setCell ⟨b,4,none⟩ y4).setCell ⟨b,5,none⟩ y5).setCell ⟨b,6,none⟩ y6).heap[b]?=some (.cells #[y0,y1,y2,y3,y4,y5,y6] E (0,0))/\
   ε (one b) w (((((((w.setCell ⟨b,0,none⟩ y0).setCell ⟨b,1,none⟩ y1).setCell ⟨b,2,none⟩ y2).setCell ⟨b,3,none⟩ y3).setCell ⟨b,4,none⟩ y4).setCell ⟨b,5,none⟩ y5).setCell ⟨b,6,none⟩ y6):=by
 refine⟨?_,?_⟩
 ·have:=bD (bD (bD (bD (bD (bD (bD h 0 y0) 1 y1) 2 y2) 3 y3) 4 y4) 5 y5) 6 y6
  simpa using this
 ·have k0:ε (one b) w (w.setCell ⟨b,0,none⟩ y0):=ε.setCell (p:=⟨b,0,none⟩) (ε.refl (one b) w) (.inl rfl) y0
  have k1:=k0.setCell (p:=⟨b,1,none⟩) (.inl rfl) y1;have k2:=k1.setCell (p:=⟨b,2,none⟩) (.inl rfl) y2;have k3:=k2.setCell (p:=⟨b,3,none⟩) (.inl rfl) y3;have k4:=k3.setCell (p:=⟨b,4,none⟩) (.inl rfl) y4;have k5:=k4.setCell (p:=⟨b,5,none⟩) (.inl rfl) y5;exact k5.setCell (p:=⟨b,6,none⟩) (.inl rfl) y6
def Aw (w:World)(d:JN)(e:Ending)(w':World):Prop:=
 ∃pi ci p c D,e= .returned (.tuple #[.agg (bG d pi ci p c),.bool true])/\ny w' D (bG d pi ci p c) d/\(∀k,D k->w.heap.size<=k/\k<w'.heap.size)/\ε η w w'
theorem Aw.drew {w w':World}{d:JN}{e:Ending}(h:Aw w d e w'):Aw w d e w'.drew:=by obtain⟨pi,ci,p,c,D,h1,h2,h3,h4⟩:=h;have hk:ε η w' w'.drew:=δ.drew;exact⟨pi,ci,p,c,D,h1,h2.kept hk (fun _ _ h=>h),h3,h4.trans hk⟩
theorem Zc (nodes:List JN)(hn:nodes.length<=1000)(x:ByteArray):aH (bP nodes x):=by
 rcases vJ nodes x with⟨h,_⟩|⟨i,d,h,hd,_⟩
 ·rw[h];exact .small (by omega) (by omega)
 ·rw[h]
  have:=(μ.1 hd).1;exact⟨by omega,by omega⟩
theorem O8 (j:Jb)(a:Array Value)(uid kw:ByteArray)(ins:List ByteArray)(k:Nat)(v:Value)(w:World)(hJ:lK w a j)(hv:Reads w 1 v (strs (uid::kw::ins)))(hk:oC[k]?=some kw)(hk1:1<=k)(D9:k≠7)
 (hins: ∀x∈ins,0<=bP j.nodes x) (hu:uid.size<=maxLen) (hil:ins.length<=1000) (hnl:j.nodes.length<=1000):
 Calls Tryz.prog 158 #[.agg a,v] w (Aw w ⟨uid,(k:Int),ins.map (bP j.nodes),.mk 0 0 [],0⟩):=by
 have hk9:k<=9:=(by have:=(μ.1 hk).1;have h10:oC.length=10:=rfl;omega);obtain⟨jv,rfl,hn,hp⟩:=hJ;obtain⟨na,Vf,rfl,n1,n2,n3⟩:=hn.at;obtain⟨pa,ca,rfl,a1,a2,a3⟩:=hv.QG;obtain⟨lb,Ie,rfl,hl⟩:=a3.resolve_left (by simp);have l0:=hl 0 uid rfl;rw[Nat.add_zero]at l0;have l1:=hl 1 kw rfl;have hdr:=hv.drop (i:=2) (by simp)
 have hsl: ∀W,(Instr.slice 163 (.slice (some ⟨lb,Ie,none⟩) (uid::kw::ins).length ca) (some (.int .i64 2)) none none).run Tryz.prog W= .ok (.slice (if ca=2 then some ⟨lb,Ie,none⟩else(some (⟨lb,Ie,none⟩:Addr)).map (·.add (2*1))) ((uid::kw::ins).length-2) (ca-2)) W:=fun W=>
  Hu (P:=Tryz.prog) (w:=W) (k:=1) (i:=2) Tryz.underlying163 (Tryz.sizeOf9 W) (by simp) a1
 have hcap2:ca-2<=9223372036854775807:=(by unfold maxLen at a2;omega);generalize(if ca=2 then some (⟨lb,Ie,none⟩:Addr)else(some (⟨lb,Ie,none⟩:Addr)).map (·.add (2*1)))=sa at hsl hdr;have hsd:(strs (uid::kw::ins)).drop (2*1)=strs ins:=rfl;have hls:(uid::kw::ins).length-2=ins.length:=(by simp);rw[hsd,hls]at hdr;rw[hls]at hsl;have hlen2:(uid::kw::ins).length=ins.length+2:=rfl;rw[hlen2]at a1 hsl⊢;obtain⟨sa',sc',e,d1,d2,d3⟩:=hdr.QG;simp only[Value.slice.injEq,true_and]at e;obtain⟨rfl,rfl⟩:=e;have hkw:kw∈oC:=ς hk;have hu8:IntKind.u8.wrap (k:Int)=(k:Int):=(by rw[IntKind.wrap_u8];omega);unfold maxLen at n2 a2;have hlb:lb<w.heap.size:=(by have:=block_lt_of_cell l0;simpa using this);have HW:=fun W=>Vj W;have H:=γ (θ hn (θ hp (θ hk (θ hins (θ hu (θ d3 n3))))));clear hn hp hk hins hu d3 n3 hl hdr hv a3;go_enter Tryz.func158,Tryz.ntmps158;go_wp2_with fail;(with_reducible refine(HW _).mono ?_);rintro e W2 ⟨rfl,k2⟩;have tJ:ε η w W2:=(((ε.refl η w).alloc _).alloc _).trans k2;have bj2:W2.heap[w.heap.size]?=some (.cells #[.int .i64 j.par,.slice na j.nodes.length Vf] 24 (0,0)):=k2.heap (((ε.refl η _).alloc _).heap (heap_alloc_new w (.cells #[.int .i64 j.par,.slice na j.nodes.length Vf] 24)) id) id;have br2:W2.heap[w.heap.size+1]?=some (.cells #[.string ⟨#[]⟩,.int .u8 0,.slice none 0 0,.int .u8 0,.int .i64 0,.slice none 0 0,.int .i64 0] 42 (0,0)):=(by have:=heap_alloc_new (w.alloc (.cells #[.int .i64 j.par,.slice na j.nodes.length Vf] 24)) (.cells #[.string ⟨#[]⟩,.int .u8 0,.slice none 0 0,.int .u8 0,.int .i64 0,.slice none 0 0,.int .i64 0] 42);rw[World.size_alloc]at this;exact k2.heap this id);obtain⟨W3,hW3⟩: ∃W3,W2.alloc (.cells (strs oC).toArray 267)=W3:=⟨_,rfl⟩;have aeM:W2.alloc (.cells #[.string ⟨#[]⟩,.string ⟨#[115,111,117,114,99,101]⟩,.string ⟨#[109,97,112]⟩,.string ⟨#[102,105,108,116,101,114]⟩,.string ⟨#[102,108,97,116]⟩,.string ⟨#[107,101,121]⟩,.string ⟨#[114,101,100,117,99,101]⟩,.string ⟨#[119,105,110,100,111,119]⟩,.string ⟨#[117,110,105,111,110]⟩,.string ⟨#[115,105,110,107]⟩] 267)=W3:=hW3;have D7:ε η W2 W3:=(by rw[<-hW3];exact δ.alloc _);have rd3:Reads W3 1 (.slice (some ⟨W2.heap.size,0,none⟩) 10 10) (strs oC):=(by rw[<-hW3];exact Reads.lit W2 (strs oC) 267 1 10 rfl (by unfold maxLen;omega));have l0:=(tJ.trans D7).cell id l0;have l1:=(tJ.trans D7).cell id l1;have hsz3:W3.heap.size=W2.heap.size+1:=(by rw[<-hW3];simp);have K3:=γ (θ (tJ.trans D7) (θ (D7.heap bj2 id) (θ (D7.heap br2 id) rd3)));have HW3:=γ aeM;have hlb3:lb<W3.heap.size:=Pe hlb (tJ.trans D7).size;have hA3:W2.heap.size<W3.heap.size:=(by omega);have hr3:w.heap.size+1<W3.heap.size:=(κ.1 K3.o.2.2.1).1;clear tJ bj2 br2 hW3 aeM D7 rd3 k2 HW;go_wp2_with fail;rw[HW3.o];have kD:ε η W3 W3.drew:=δ.drew;have hkk: ∀n:Nat,oC[n]?=some kw->n=k:=fun n h=>(by have h1:=(μ.1 h).1;exact(List.getElem?_inj h1 (by decide)).1 (h.trans H.o.2.2.1.symm));have HKK:=γ (θ hkk hkw);have e0:max (k:Int) 0=(k:Int):=(by omega);have e1: ¬(k:Int)=7:=(by omega);have e2:((k:Int)==7)=false:=(by simpa using e1);have KD:=γ kD;have i0:(0:Int)<(ins.length:Int)+2:=(by omega);have i1:(1:Int)<(ins.length:Int)+2:=(by omega);clear kD hkk hkw;refine uq (fun W=>ε η W3 W) (by kernel_rfl) (by kernel_rfl) KD.o ?_;refine bZ (k:=0) (by kernel_rfl) rfl rfl (fun W hW=>by go_simp;rfl) ?_;go_frame;refine bZ (k:=1) (by kernel_rfl) rfl rfl (fun W hW=>by go_simp;rfl) ?_;go_frame;refine bZ (k:=2) (by kernel_rfl) rfl rfl (fun W hW=>by have z:=hW.cell id l0;go_simp;rfl) ?_;go_frame;refine bZ (k:=3) (by kernel_rfl) rfl rfl (fun W hW=>by go_simp;rfl) ?_;go_frame;refine bZ (k:=4) (by kernel_rfl) rfl rfl (fun W hW=>by go_simp;rfl) ?_;go_frame;refine bZ (k:=5) (by kernel_rfl) rfl rfl (fun W hW=>by go_simp;rfl) ?_;go_frame;refine bZ (k:=6) (by kernel_rfl) rfl rfl (fun W hW=>by have z:=hW.cell id l1;go_simp;rfl) ?_;go_frame;refine zB (i:=7) (k:=11) (by kernel_rfl) (by kernel_rfl) rfl rfl rfl rfl ?brA ?brB
 case' brA=>intro K hK;go_wp2_with fail;(with_reducible refine(D8 _ oC kw HKK.o.2 W3.drew (K3.o.2.2.2.pure KD.o)).mono ?_);rintro e w5 ⟨n,rfl,hn,rfl⟩;rw[HKK.o.1 n hn];go_wp2_with fail;refine hK _ _ KD.o ?_;clear hK hn;refine bZ (k:=8) (by kernel_rfl) rfl rfl (fun W hW=>by go_simp;rfl) ?_;go_frame;refine bZ (k:=9) (by kernel_rfl) rfl rfl (fun W hW=>by go_simp;rfl) ?_;go_frame;refine bZ (k:=10) (by kernel_rfl) rfl rfl (fun W hW=>by go_simp;rfl) ?_;go_frame;refine fK (k:=11) (by kernel_rfl) (by kernel_rfl) rfl rfl ?_;intro K hK;go_wp2_with fail;refine hK _ _ (KD.o.alloc _) ?_;clear hK;refine fK (k:=12) (by kernel_rfl) (by kernel_rfl) rfl rfl ?_;intro K hK;go_wp2_with fail;refine hK _ _ (KD.o.alloc _) ?_;clear hK;refine wQ (by kernel_rfl) (KD.o.alloc _) ?_
 case' brB=>intro K hK;go_wp2_with fail;refine hK _ _ (KD.o.alloc _) ?_;clear hK;refine fK (k:=7) (by kernel_rfl) (by kernel_rfl) rfl rfl ?_;intro K hK;go_wp2_with fail;(with_reducible refine(D8 _ oC kw HKK.o.2 _ (K3.o.2.2.2.pure (((ε.refl η W3).alloc _).drew))).mono ?_);rintro e w5 ⟨n,rfl,hn,rfl⟩;rw[HKK.o.1 n hn];go_wp2_with fail;refine hK _ _ (KD.o.alloc _) ?_;clear hK hn;refine bZ (k:=8) (by kernel_rfl) rfl rfl (fun W hW=>by go_simp;rfl) ?_;go_frame;refine bZ (k:=9) (by kernel_rfl) rfl rfl (fun W hW=>by go_simp;rfl) ?_;go_frame;refine bZ (k:=10) (by kernel_rfl) rfl rfl (fun W hW=>by go_simp;rfl) ?_;go_frame;refine fK (k:=12) (by kernel_rfl) (by kernel_rfl) rfl rfl ?_;intro K hK;go_wp2_with fail;refine hK _ _ (KD.o.alloc _) ?_;clear hK;refine wQ (by kernel_rfl) (KD.o.alloc _) ?_
 all_goals
  obtain⟨W4,mY⟩: ∃W4,W3.drew.alloc (.cells #[.string uid,.int .u8 (k:Int),.slice none 0 0,.int .u8 0,.int .i64 0,.slice none 0 0,.int .i64 0] 42)=W4:=⟨_,rfl⟩;have aeL:(W3.alloc (.cells #[.string uid,.int .u8 (k:Int),.slice none 0 0,.int .u8 0,.int .i64 0,.slice none 0 0,.int .i64 0] 42)).drew=W4:=mY;first|rw[mY]|rw[aeL]
  have k34:ε η W3 W4:=(by rw[<-mY];exact KD.o.alloc _);have bn4:W4.heap[W2.heap.size+1]?=some (.cells #[.string uid,.int .u8 (k:Int),.slice none 0 0,.int .u8 0,.int .i64 0,.slice none 0 0,.int .i64 0] 42 (0,0)):=(by rw[<-hsz3,<-mY];exact heap_alloc_new W3.drew _);have aea:W4.heap.size=W2.heap.size+2:=(by rw[<-mY];show(W3.heap.push _).size=_;rw[Array.size_push,hsz3]);have HSL:=hsl W4;have nb1:=ζ bn4 (j:=1) rfl;have K4:=γ (θ (K3.o.1.trans k34) (θ (k34.heap K3.o.2.1 id) (θ (k34.heap K3.o.2.2.1 id) bn4)));have hn4:W2.heap.size+1<W4.heap.size:=(by omega);have Cc:w.heap.size+1<W2.heap.size+1:=(by omega);clear mY aeL k34 bn4 hsl l0 l1 hA3 hsz3 HW3 hr3;go_wp2_with fail;clear HSL nb1
  go_loopg [60] ins.length (fun g vi wr=> ∃(q:Nat)(vo:Value),q<=ins.length/\vi= .int .i64 (q:Int)/\ins.length-q<=g/\wr.heap[W2.heap.size+1]?=some (.cells #[.string uid,.int .u8 (k:Int),vo,.int .u8 0,.int .i64 0,.slice none 0 0,.int .i64 0] 42 (0,0))/\
   wr.ownsRow (W2.heap.size+2) 3 1 vo q (ints ((ins.take q).map (bP j.nodes)))/\ε (fun z=>z=W2.heap.size+1\/W2.heap.size+2<=z) W4 wr)
  case atStart=>exact⟨0,.slice none 0 0,by omega,rfl,by omega,K4.o.2.2.2,World.ownsRow_nil _ _ _ _,ε.refl _ _⟩
  case round=>
   obtain⟨q,vo,hql,rfl,hg,hnb,hown,hkp⟩:=hrel;obtain⟨wo,rfl⟩: ∃wo:World,wo=wr:=⟨_,rfl⟩;obtain⟨va,vc,rfl⟩:=au hown;have kw:=K4.o.1.new hkp (fun i hi hs=>by omega);have bj:=hkp.heap K4.o.2.1 (by omega);have br:=hkp.heap K4.o.2.2.1 (by omega);by_cases hlt:q<ins.length
   ·obtain⟨x,hx⟩: ∃x,ins[q]?=some x:=⟨_,ι hlt⟩
    obtain⟨sb,soff,rfl,hsc⟩:=H.o.2.2.2.2.2.1.resolve_left (fun h=>by rw[h]at hx;cases hx);have x0:=kw.cell id (hsc q x hx);have p0:=ζ bj (j:=0) rfl;have p1:=ζ bj (j:=1) rfl;have hin:=H.o.2.2.2.1 x (ς hx);have cf:=Qo j #[.int .i64 j.par,.slice na j.nodes.length Vf] x wo ⟨_,rfl,H.o.1.pure kw,H.o.2.1⟩;have hjw:w.heap.size<wo.heap.size:=(κ.1 bj).1;obtain⟨f,hf⟩: ∃f,bP j.nodes x=f:=⟨_,rfl⟩;rw[hf]at cf hin;have hf0: ¬f<0:=(by omega);have G:=γ (θ hg (θ hnb (θ hown (θ hkp (θ hx hf)))));clear hg hnb hown hkp hx hf bj br hsc kw hin;go_wp2_with fail;(with_reducible refine cf.mono ?_);clear cf;rintro e w5 ⟨rfl,k5⟩;have nb5:=k5.heap G.o.2.1 id;have y2:=ζ nb5 (j:=2) rfl;have afG:W2.heap.size+2<=w5.heap.size:=(by have:=G.o.2.2.2.1.size;have:=k5.size;omega);obtain⟨iw,w6,g1,g2,g3⟩:=adF (k5.owns G.o.2.2.1 (fun _ _ h=>h)) f afG (by omega);obtain⟨a2',c2',rfl⟩:=au g2;have nb6:=g3.heap nb5 (by omega);have z2:=ζ nb6 (j:=2) rfl;have fz:=free_at nb6 2;have hs6:=g3.size;have hb6:W2.heap.size+1<w6.heap.size:=(by omega);have hb5:W2.heap.size+1<w5.heap.size:=(by omega);have nb7:=bD nb6 2 (Value.slice a2' (q+1) c2');have k7:ε (one (W2.heap.size+1)) w6 (w6.setCell ⟨W2.heap.size+1,2,none⟩ (Value.slice a2' (q+1) c2')):=ε.setCell (p:=⟨W2.heap.size+1,2,none⟩) (ε.refl (one (W2.heap.size+1)) _) (.inl rfl) _;have htk:(ins.take (q+1)).map (bP j.nodes)=(ins.take q).map (bP j.nodes)++[f]:=by rw[ψ,G.o.2.2.2.2.1];simp[G.o.2.2.2.2.2]
    have Z:=γ (θ g1 (θ (show(w6.setCell ⟨W2.heap.size+1,2,none⟩ (Value.slice a2' (q+1) c2')).heap[W2.heap.size+1]?=some (.cells #[.string uid,.int .u8 (k:Int),(Value.slice a2' (q+1) c2'),.int .u8 0,.int .i64 0,.slice none 0 0,.int .i64 0] 42 (0,0)) by simpa using nb7)
     (θ (show(w6.setCell ⟨W2.heap.size+1,2,none⟩ (Value.slice a2' (q+1) c2')).ownsRow (W2.heap.size+2) 3 1 (Value.slice a2' (q+1) c2') (q+1) (ints ((ins.take (q+1)).map (bP j.nodes))) by
       rw[htk]
       exact k7.owns g2 (fun z hz hs=>by have:=(g2.lt z hz).1;unfold one at hs;omega))
     (((G.o.2.2.2.1.new k5 (fun _ _ h=>h.elim)).new g3 (fun i hi hs=> .inr hs)).new k7 (fun i hi hs=> .inl hs)))))
    clear g1 g2 g3 nb5 nb6 nb7 k7 k5;go_wp2_with (at_builtin;refine jy rfl (.tmp 71) (.tmp 73) 37 rfl _ _ _ rfl rfl Z.o.1 ?_);go_roundg (ins.length-(q+1))
    case rel=>exact⟨q+1,_,by omega,by go_num,ξ _,Z.o.2.1,Z.o.2.2.1,Z.o.2.2.2⟩
    case measure=>have:=G.o.1;omega
   ·have hqe:q=ins.length:=by omega
    subst hqe;rw[χ (ξ _)]at hown;have hBr:w.heap.size+1<wo.heap.size:=(κ.1 br).1;have hBn:W2.heap.size+1<wo.heap.size:=(κ.1 hnb).1;have f0:=free_at br 0;have f1:=free_at br 1;have f2:=free_at br 2;have f3:=free_at br 3;have f4:=free_at br 4;have f5:=free_at br 5;have f6:=free_at br 6;have z0:=ζ br (j:=0) rfl;have z1:=ζ br (j:=1) rfl;have z2:=ζ br (j:=2) rfl;have z3:=ζ br (j:=3) rfl;have z4:=ζ br (j:=4) rfl;have z5:=ζ br (j:=5) rfl;have z6:=ζ br (j:=6) rfl;obtain⟨s8,k8⟩:=ady br (.string uid) (.int .u8 (k:Int)) (.slice va ins.length vc) (.int .u8 0) (.int .i64 0) (.slice none 0 0) (.int .i64 0);have F:Aw w ⟨uid,(k:Int),ins.map (bP j.nodes),.mk 0 0 [],0⟩ (.returned (.tuple #[.agg #[.string uid,.int .u8 (k:Int),.slice va ins.length vc,.int .u8 0,.int .i64 0,.slice none 0 0,.int .i64 0],.bool true])) (((((((wo.setCell ⟨w.heap.size+1,0,none⟩ (.string uid)).setCell ⟨w.heap.size+1,1,none⟩ (.int .u8 (k:Int))).setCell ⟨w.heap.size+1,2,none⟩ (.slice va ins.length vc)).setCell ⟨w.heap.size+1,3,none⟩ (.int .u8 0)).setCell ⟨w.heap.size+1,4,none⟩ (.int .i64 0)).setCell ⟨w.heap.size+1,5,none⟩ (.slice none 0 0)).setCell ⟨w.heap.size+1,6,none⟩ (.int .i64 0)):=by
     have h8:=k8.size;have hlm:(ins.map (bP j.nodes)).length=ins.length:=(by rw[List.length_map]);refine⟨va,vc,none,0,fun z=>(Value.slice va ins.length vc).ownBlock=some z,by rw[show bG ⟨uid,(k:Int),ins.map (bP j.nodes),.mk 0 0 [],0⟩ va vc none 0= #[.string uid,.int .u8 (k:Int),.slice va ins.length vc,.int .u8 0,.int .i64 0,.slice none 0 0,.int .i64 0] by simp[bG,Ex.op,Ex.n,Ex.args]],?_,fun z hz=>?_,kw.new k8 (fun i hi hs=>by unfold one at hs;omega)⟩
     ·intro S w' hk hS
      have afI:=hk.owns (k8.owns hown (fun z hz hs=>by have:=(hown.lt z hz).1;unfold one at hs;omega)) (fun z hz=>hS z hz);refine⟨va,vc,none,0,rfl,.mk (show(0:Int)<=0 by decide) (show(0:Int)<=255 by decide) eX (Reads.nil w' 3) rfl (by simp),?_,?_,(show(0:Int)<=(k:Int) by omega),(show(k:Int)<=255 by omega),eX,H.o.2.2.2.2.1⟩
      ·have:=Reads.aN afI
       simp only[List.length_map];exact this
      ·intro z hz
       obtain⟨x,_,rfl⟩:=abK.1 hz;exact Zc j.nodes hnl x
     ·have:=hown.lt z hz
      omega
    have FF:=γ (θ F s8);have HNB:=γ hnb;have K8:=γ k8;have hk0: ¬((k:Int)=0):=(by omega);have gk0:((k:Int)==0)=false:=(by simpa using hk0);clear F s8 k8 hown hkp kw bj br hg hnb;go_wp2_with fail;refine ak [0,1,2,3,4,5] (fun W=>ε (one (w.heap.size+1)) wo W) (by kernel_rfl) (by kernel_rfl) rfl (δ.drew) ?_;simp only[abU];iterate 4 (apply aj rfl rfl;(intro W hW;have nW:=hW.heap HNB.o (show ¬(W2.heap.size+1=w.heap.size+1) by omega);have m0:=ζ nW (j:=0) rfl;have m1:=ζ nW (j:=1) rfl;have m2:=ζ nW (j:=2) rfl;have m3:=ζ nW (j:=3) rfl;have m4:=ζ nW (j:=4) rfl;have m5:=ζ nW (j:=5) rfl;have m6:=ζ nW (j:=6) rfl;clear nW;go_simp;rfl);go_frame)
    apply aA rfl rfl;intro K hK;go_wp2_with fail;obtain⟨WF,lI⟩: ∃WF,(((((((wo.setCell ⟨w.heap.size+1,0,none⟩ (.string uid)).setCell ⟨w.heap.size+1,1,none⟩ (.int .u8 (k:Int))).setCell ⟨w.heap.size+1,2,none⟩ (.slice va ins.length vc)).setCell ⟨w.heap.size+1,3,none⟩ (.int .u8 0)).setCell ⟨w.heap.size+1,4,none⟩ (.int .i64 0)).setCell ⟨w.heap.size+1,5,none⟩ (.slice none 0 0)).setCell ⟨w.heap.size+1,6,none⟩ (.int .i64 0))=WF:=⟨_,rfl⟩;obtain⟨F,s8⟩:=FF.o;have k8:=K8.o;rw[lI]at s8 F k8⊢;refine hK _ _ (fun _=>k8.drew) ?_;clear hK;apply aj rfl rfl
    ·intro W hW;go_simp;rfl
    go_frame;refine aG (fun _=>k8.drew) ?_;have s9:WF.drew.heap[w.heap.size+1]?=some (.cells #[.string uid,.int .u8 (k:Int),.slice va ins.length vc,.int .u8 0,.int .i64 0,.slice none 0 0,.int .i64 0] 42 (0,0)):=s8;have q0:=ζ s9 (j:=0) rfl;have q1:=ζ s9 (j:=1) rfl;have q2:=ζ s9 (j:=2) rfl;have q3:=ζ s9 (j:=3) rfl;have q4:=ζ s9 (j:=4) rfl;have q5:=ζ s9 (j:=5) rfl;have q6:=ζ s9 (j:=6) rfl;clear s8 s9 k8;go_wp2_with fail;refine bodyPost_ret (v:= .tuple #[.agg #[.string uid,.int .u8 (k:Int),.slice va ins.length vc,.int .u8 0,.int .i64 0,.slice none 0 0,.int .i64 0],.bool true]) (by simp[results,Tryz.results158,go_sem,q0,q1,q2,q3,q4,q5,q6];omega) rfl F.drew
end
section
namespace H2
open Go
section
variable {P:Program} {ops:Array Oper} {md:Region.Mode} {C:World->Prop}
def OY:Go.Op->Bool
 | .nilCheck _| .move _| .assign _| .pick .. | .build .. | .binOp .. | .unOp .. | .convert .. | .fieldAddr .. | .field .. | .indexAddr .. | .extract .. =>true
 |_=>false
def fH:Go.Op->Bool
 | .store .. =>true
 |_=>false
def nG (o:Go.Op):Bool:=floats o&&!OY o
def xC (md:Region.Mode)(ops:Array Oper):Bool:=
 (List.range ops.size).all fun j=>match ops[j]? with
   |some oj=>!fH oj.op||(List.range ops.size).all fun i=>match ops[i]? with
    |some oi=>!nG oi.op||oj.after.any fun e=>Region.binds md e&&e.on==i
    |none=>true
   |none=>true
theorem Cb (h:xC md ops=true){j i:Nat}{oj oi:Oper}(hj:ops[j]?=some oj)(hi:ops[i]?=some oi)(hh:fH oj.op=true)(hr:nG oi.op=true):
 ∃e∈oj.after,Region.binds md e=true/\e.on=i:=by
 have hj':=(κ.1 hj).1;have hi':=(κ.1 hi).1;have h1:=List.all_eq_true.1 h j (List.mem_range.2 hj');simp only[hj,hh,Bool.not_true,Bool.false_or]at h1;have h2:=List.all_eq_true.1 h1 i (List.mem_range.2 hi');simp only[hi,hr,Bool.not_true,Bool.false_or]at h2;rw[Array.any_eq_true]at h2;obtain⟨k,hk,h2⟩:=h2;simp only[Φ,beq_iff_eq]at h2;exact⟨_,Array.getElem_mem hk,h2.1,h2.2⟩
def rJ (ops:Array Oper)(listed:Array Bool):Prop:= ∀(j:Nat) oj,ops[j]?=some oj->fH oj.op=true->listed.getD j true=false
def Shut (ops:Array Oper)(listed:Array Bool):Prop:= ∀(j:Nat) oj,ops[j]?=some oj->fH oj.op=true->listed.getD j true=true-> ∀(i:Nat) oi,ops[i]?=some oi->nG oi.op=true->listed.getD i true=true
theorem l9 {listed:Array Bool}{j:Nat}(hj:j∈Region.ready md ops listed){oj:Oper}(hoj:ops[j]?=some oj){e:Edge}(he:e∈oj.after)(hb:Region.binds md e=true):listed.getD e.on true=true:=by
 obtain⟨_,o,ho,hall⟩:=mem_ready.1 hj;rw[hoj]at ho;cases ho;have h2:=hall e he hb
 rcases Nat.lt_or_ge e.on listed.size with h'|h'
 ·simp[h']at h2⊢;exact h2
 ·simp[Array.getElem?_eq_none h']at h2
theorem jV (listed:Array Bool)(j:Nat):(listed.setIfInBounds j true).getD j true=true:=by
 rw[Array.getD_eq_getD_getElem?,Array.getElem?_setIfInBounds];by_cases h:j<listed.size
 ·simp[h]
 ·simp[h]
theorem getD_set_true (listed:Array Bool)(j i:Nat)(h:listed.getD i true=true):(listed.setIfInBounds j true).getD i true=true:=by
 by_cases e:j=i
 ·subst e
  exact jV _ _
 ·rw[getD_set_ne true e];exact h
theorem Shut.set (hh:xC md ops=true){listed:Array Bool}(h:Shut ops listed){j:Nat}(hj:j∈Region.ready md ops listed):Shut ops (listed.setIfInBounds j true):=by
 intro k ok hk mW hl i oi hi hr;by_cases e:j=k
 ·subst e
  obtain⟨e,he,hb,rfl⟩:=Cb hh hk hi mW hr;exact getD_set_true _ _ _ (l9 hj hk he hb)
 ·rw[getD_set_ne true e]at hl
  exact getD_set_true _ _ _ (h k ok hk mW hl i oi hi hr)
def wpAnyH (P:Program)(md:Region.Mode)(ops:Array Oper)(C:World->Prop)(Q:Act->World->Prop):Nat->Array Bool->Act->World->Prop
 |0,listed,a,w=>(rJ ops listed->C w)/\(∀(k:Nat) o,ops[k]?=some o->listed.getD k true=true)/\Q a w
 |fuel+1,listed,a,w=>(rJ ops listed->C w)/\(Region.ready md ops listed=[]->Q a w)/\
  ∀i∈Region.ready md ops listed,wpOp P ops (lu Q) i (wpAnyH P md ops C Q fuel (listed.setIfInBounds i true)) a w
theorem sG {Q:Act->World->Prop}{Q':Exit->Act->World->Prop}(hQ: ∀a w,Q a w->Q' .normal a w): ∀(fuel:Nat)(listed:Array Bool)(a:Act)(w:World),
 wpAnyH P md ops C Q fuel listed a w->wpAny P md ops Q' fuel listed a w
 |0,_,_,_,h=>⟨ready_nil h.2.1,hQ _ _ h.2.2⟩
 |fuel+1,_,_,_,h=>⟨fun h0=>hQ _ _ (h.2.1 h0),fun i hi=>wpOp_mono (fun a w=>sG hQ fuel _ a w)
   (zC (fun e a w h=>by cases e<;>first|exact hQ _ _ h|exact h.elim) (h.2.2 i hi))⟩
theorem wpAnyH.cold {Q:Act->World->Prop}{fuel:Nat}{listed:Array Bool}{a:Act}{w:World}(h:wpAnyH P md ops C Q fuel listed a w):rJ ops listed->C w:=by
 cases fuel with
 |zero=>exact h.1
 |succ f=>exact h.1
def uP (C:World->Prop)(o:Oper)(w:World):Prop:=nG o.op=true->C w
theorem wpAnyH_first {Q:Act->World->Prop}{i:Nat}{oi:Oper}{v:Value}(hh:xC md ops=true)(hi:ops[i]?=some oi)(hfl:floats oi.op=true)(hsel: ∀(j:Nat)(o:Oper) cs b,ops[j]?=some o->o.op≠ .select cs b):
 ∀(fuel:Nat)(listed:Array Bool)(a:Act)(w:World),
  (∀j oj,ops[j]?=some oj->j≠i->listed.getD j true=false->(∀e∈oj.after,Region.binds md e=true->e.on≠i)->oi.apart ops oj=true)->
  (rJ ops listed->C w)->Shut ops listed->
  i∈Region.ready md ops listed->jO P ops (uP C oi) oi v a->
  wpAnyH P md ops C Q fuel (listed.setIfInBounds i true) (a.put oi.dst v) w->wpAnyH P md ops C Q (fuel+1) listed a w:=by
 have hnot:fH oi.op=false:=by cases h:oi.op<;>rw[h]at hfl<;>first|rfl|cases hfl
 have hcls: ∀(listed:Array Bool)(w:World),(rJ ops listed->C w)->Shut ops listed->i∈Region.ready md ops listed->uP C oi w:=by
  intro listed w hC hS hr hread;refine hC fun j oj hj mW=>?_
  cases hl:listed.getD j true with
  |false=>rfl
  |true=>have:=hS j oj hj mW hl i oi hi hread;rw[(mem_ready.1 hr).1]at this;cases this
 intro fuel
 induction fuel with
 |zero=>
  intro listed a w _ hC hS hr hy H;refine⟨hC,fun h=>(by rw[h]at hr;cases hr),fun j hj=>?_⟩;by_cases hji:j=i
  ·subst hji;exact hy.wpOp hi (hcls listed w hC hS hr) H
  ·have:=ready_mono hj hji
   rw[ready_nil H.2.1]at this;cases this
 |succ fuel ih=>
  intro listed a w hfree hC hS hr hy H;refine⟨hC,fun h=>(by rw[h]at hr;cases hr),fun j hj=>?_⟩;by_cases hji:j=i
  ·subst hji;exact hy.wpOp hi (hcls listed w hC hS hr) H
  ·have h1:=H.2.2 j (ready_mono hj hji)
   obtain⟨hjun,oj,hoj,hall⟩:=mem_ready.1 hj;have Vw: ∀e∈oj.after,Region.binds md e=true->e.on≠i:=fun e he hb heq=>(by have h1:=l9 hj hoj he hb;rw[heq,(mem_ready.1 hr).1]at h1;cases h1);have h2:=Ba hoj (hfree j oj hoj hji hjun Vw) (fun cs b=>hsel i oi cs b hi) (fun cs b=>hsel j oj cs b hoj) hy h1;have hfree': ∀k ok,ops[k]?=some ok->k≠i->(listed.setIfInBounds j true).getD k true=false->
    (∀e∈ok.after,Region.binds md e=true->e.on≠i)->oi.apart ops ok=true:=fun k ok hk hki hun hno=>by
    refine hfree k ok hk hki ?_ hno;by_cases hjk:j=k
    ·subst hjk;exact hjun
    ·rw[getD_set_ne true hjk]at hun;exact hun
   refine wpOp_mono (fun a' w' h3=>ih (listed.setIfInBounds j true) a' w' hfree' (fun VD=>?_) (hS.set hh hj) (ready_mono hr (Ne.symm hji)) h3.1 ?_) h2
   ·refine h3.2.cold fun k ok hk mW=>?_
    have hki:k≠i:=fun e=>(by subst e;rw[hi]at hk;cases hk;rw[hnot]at mW;cases mW);have:=VD k ok hk mW;by_cases hjk:j=k
    ·subst hjk
     rw[jV]at this;cases this
    ·rw[getD_set_ne true hjk,getD_set_ne true (Ne.symm hki)]
     rwa[getD_set_ne true hjk]at this
   ·rw[Array.setIfInBounds_comm _ _ hji]
    exact h3.2
def dX (P:Program)(ops:Array Oper)(C:World->Prop)(Q:Act->World->Prop):Bool->List Oper->Act->World->Prop
 |cO,[],a,w=>(cO=true->C w)/\Q a w
 |cO,o::rest,a,w=>
  if Region.wanted o (yielded ops a.tmps)then
   if floats o.op then∃v,(∀w',uP C o w'->(execOp a.eval o).run P w'= .ok (.value v) w')/\dX P ops C Q cO rest (a.put o.dst v) w
   else o.wp P a w (fun a' w'=>((cO&&!fH o.op)=true->C w')/\dX P ops C Q (cO&&!fH o.op) rest a' w') (lu Q)
  else dX P ops C Q (cO&&!fH o.op) rest (a.put o.dst undef) w
theorem fM {Q:Act->World->Prop}(hs:Region.noSelect ops=true)(hh:xC .any ops=true): ∀(l:List Nat)(listed:Array Bool)(cO:Bool)(a:Act)(w:World),
 fP .any ops l listed=true->Shut ops listed->(rJ ops listed->cO=true)->(cO=true->C w)->dX P ops C Q cO (l.map fun k=>(ops[k]?).getD default) a w->wpAnyH P .any ops C Q l.length listed a w
 |[],listed,cO,a,w,hB,_,qC,hC,h=>by refine⟨fun hc=>hC (qC hc),fun k o hk=>?_,h.2⟩;simp only[fP,List.all_eq_true,List.mem_range]at hB;exact hB k (κ.1 hk).1
 |k::rest,listed,cO,a,w,hB,hS,qC,hC,h=>by
  simp only[fP,Φ]at hB;obtain⟨hk,hB'⟩:=hB;have hr:k∈Region.ready .any ops listed:=by
   split at hk
   ·simp only[Φ]at hk;simpa using hk.1
   ·have:Region.ready .any ops listed=[k]:=by simpa using hk
    rw[this];simp
  obtain⟨hun,o,hok,_⟩:=mem_ready.1 hr;simp only[Θ,hok,Δ,dX]at h;simp only[xK,hok]at hk;have hS':=hS.set hh hr;have hnext:rJ ops (listed.setIfInBounds k true)->(cO&&!fH o.op)=true:=by
   intro hc;have hno:fH o.op=false:=by
    cases hz:fH o.op with
    |false=>rfl
    |true=>have h1:=hc k o hok hz;rw[jV]at h1;cases h1
   rw[hno,qC]
   ·rfl
   ·intro j oj hj mW
    have:=hc j oj hj mW;by_cases e:k=j
    ·subst e;exact hun
    ·rwa[getD_set_ne true e]at this
  by_cases hf:floats o.op=true
  ·rw[if_pos hf]at hk
   simp only[Φ]at hk;have hno:fH o.op=false:=by cases h:o.op<;>rw[h]at hf<;>first|rfl|cases hf
   by_cases hw:Region.wanted o (yielded ops a.tmps)=true
   ·simp only[hw,if_true,hf]at h
    obtain⟨v,hv,hn⟩:=h;refine wpAnyH_first hh hok hf (Region.noSelect_spec hs) rest.length listed a w (Region.free_spec hok hk.2) (fun hc=>hC (qC hc)) hS hr (.inl ⟨hw,hv⟩)
     (fM hs hh rest _ cO _ w hB' hS' (fun hc=>?_) hC hn)
    have:=hnext hc;rw[Φ]at this;exact this.1
   ·simp only[hw,hno,Bool.not_false,Bool.and_true]at h
    refine wpAnyH_first hh hok hf (Region.noSelect_spec hs) rest.length listed a w (Region.free_spec hok hk.2) (fun hc=>hC (qC hc)) hS hr (.inr ⟨by simpa using hw,rfl⟩)
     (fM hs hh rest _ cO _ w hB' hS' (fun hc=>?_) hC h)
    have:=hnext hc;rw[Φ]at this;exact this.1
  ·rw[if_neg hf]at hk
   have hr1:Region.ready .any ops listed=[k]:=(by simpa using hk);refine⟨fun hc=>hC (qC hc),fun h0=>(by rw[h0]at hr1;cases hr1),fun j hj=>?_⟩;rw[hr1]at hj;obtain rfl:j=k:=(by simpa using hj);unfold wpOp;simp only[hok];by_cases hw:Region.wanted o (yielded ops a.tmps)=true
   ·simp only[hw,if_true,hf]at h⊢
    exact .inl (Oper.wp_mono (fun a' w' h'=>fM hs hh rest _ _ a' w' hB' hS' hnext h'.1 h'.2) h)
   ·simp only[hw]at h⊢
    refine fM hs hh rest _ _ _ w hB' hS' hnext (fun hc=>hC ?_) h;rw[Φ]at hc;exact hc.1
theorem fV {id:Nat}{Q:Exit->Act->World->Prop}{a:Act}{w:World}(ord:List Nat)(C:World->Prop)(hm:P.follows .mixedOrders=true)(hB:(Region.noSelect ops&&xC .any ops&&fP .any ops ord (Array.replicate ops.size false))=true)
 (hlen:ord.length=ops.size) (hC:C w.drew) (h:dX P ops C (Q .normal) true (ord.map fun k=>(ops[k]?).getD default) a w.drew):(Code.region id ops true).wp P Q a w:=by
 simp only[Φ]at hB;obtain⟨⟨h1,h2⟩,h3⟩:=hB;refine wp_region_any hm (sG (C:=C) (Q:=Q .normal) (fun _ _ h=>h) _ _ _ _ ?_);rw[<-hlen];refine fM h1 h2 ord _ true a w.drew (by rw[hlen];exact h3) (fun j oj hj _ hl=>?_) (fun _=>rfl) (fun _=>hC) h;have hlt:=(κ.1 hj).1;rw[hlen,Array.getD_eq_getD_getElem?,Array.getElem?_replicate,if_pos hlt]at hl;cases hl
theorem eY {Q:Act->World->Prop}{rest:List Oper}{a:Act}{w:World}{o:Oper}{v:Value}{cO:Bool}(hw:Region.wanted o (yielded ops a.tmps)=true)(hf:floats o.op=true)
 (hv: ∀w',(execOp a.eval o).run P w'= .ok (.value v) w') (h:dX P ops C Q cO rest (a.put o.dst v) w):dX P ops C Q cO (o::rest) a w:=by
 unfold dX;simp only[hw,hf,if_true];exact⟨v,fun w' _=>hv w',h⟩
theorem mM {Q:Act->World->Prop}{rest:List Oper}{a:Act}{w:World}{o:Oper}{v:Value}{cO:Bool}(hw:Region.wanted o (yielded ops a.tmps)=true)(hf:floats o.op=true)(hr:nG o.op=true)
 (hv: ∀w',C w'->(execOp a.eval o).run P w'= .ok (.value v) w') (h:dX P ops C Q cO rest (a.put o.dst v) w):dX P ops C Q cO (o::rest) a w:=by
 unfold dX;simp only[hw,hf,if_true];exact⟨v,fun w' hc=>hv w' (hc hr),h⟩
theorem jP {Q:Act->World->Prop}{rest:List Oper}{a:Act}{w:World}{o:Oper}{cO:Bool}(hw:Region.wanted o (yielded ops a.tmps)=true)(hf:floats o.op=false)(hh:fH o.op=false)
 (h: ∀K:Act->World->Prop,(∀a' w',(cO=true->C w')->dX P ops C Q cO rest a' w'->K a' w')->o.wp P a w K (lu Q)):dX P ops C Q cO (o::rest) a w:=by
 unfold dX;simp only[hw,hf,hh,Bool.not_false,Bool.and_true,if_true];exact h _ fun a' w' h1 h2=>⟨h1,h2⟩
theorem jM {Q:Act->World->Prop}{rest:List Oper}{a:Act}{w:World}{o:Oper}{cO:Bool}(hw:Region.wanted o (yielded ops a.tmps)=true)(hf:floats o.op=false)(hh:fH o.op=true)
 (h: ∀K:Act->World->Prop,(∀a' w',dX P ops C Q false rest a' w'->K a' w')->o.wp P a w K (lu Q)):dX P ops C Q cO (o::rest) a w:=by
 unfold dX;simp only[hw,hf,hh,Bool.not_true,Bool.and_false,if_true];exact h _ fun a' w' h2=>⟨fun h=>(by cases h),h2⟩
theorem oK {Q:Act->World->Prop}{a:Act}{w:World}(h:Q a w):dX P ops C Q false [] a w:=⟨fun h=>(by cases h),h⟩
end
end H2
end
