/- Jobs that came in; the row's step beside listed variables, with the reach and the world's shape. -/
import Derived.Test.YtglbkodmmogomaaGreatDoorS08
import Derived.Deep.DeepHandedRow
import Derived.LaidMore
import Derived.Shelf.Strings.SplitShaped
import Derived.Shelf.Strings.SlTrimAscii
import Derived.Shelf.Strconv.Atoi
import Derived.Lib.SmallJoins
set_option linter.unusedVariables false
set_option linter.unusedSimpArgs false
set_option maxHeartbeats 1000000
set_option maxRecDepth 100000
namespace Go.Proofs.YtglbkodmmogomaaGreatDoor
open List Go.Proofs.Tryz
section
open Go Go.RowKit Go.ChangeShapes Go.WideShapes Go.ChangeAt Go.Deep
section
variable {H:Type} {enc:TypeId×Value->H} {w:World}
theorem VH {fuel:Nat}{cs:List Value}{x:DataW H×List MemPlace}(h:DataW.trod enc prog w 0 (fun _=>true) true fuel 42 cs=some x): ∃d:JN,oq w cs.toArray d:=by
 obtain⟨xs,n,rfl,_,hl,hxl,hf⟩:=DataW.trod_struct underlying42 h;rw[show prog.cellsOf 42=7 by kernel_rfl]at hl
 match cs,hl with
 |[c0,c1,c2,c3,c4,c5,c6],_=>
  have g0:DataW.trod enc prog w 0 (fun _=>true) true n 9 ([c0,c1,c2,c3,c4,c5,c6].drop 0|>.take (prog.cellsOf 9))=xs[0]?:=hf 0 _ rfl;have g1:DataW.trod enc prog w 0 (fun _=>true) true n 5 ([c0,c1,c2,c3,c4,c5,c6].drop 1|>.take (prog.cellsOf 5))=xs[1]?:=hf 1 _ rfl;have g2:DataW.trod enc prog w 0 (fun _=>true) true n 37 ([c0,c1,c2,c3,c4,c5,c6].drop 2|>.take (prog.cellsOf 37))=xs[2]?:=hf 2 _ rfl;have g3:DataW.trod enc prog w 0 (fun _=>true) true n 40 ([c0,c1,c2,c3,c4,c5,c6].drop 3|>.take (prog.cellsOf 40))=xs[3]?:=hf 3 _ rfl;have g4:DataW.trod enc prog w 0 (fun _=>true) true n 3 ([c0,c1,c2,c3,c4,c5,c6].drop 6|>.take (prog.cellsOf 3))=xs[4]?:=hf 4 _ rfl;rw[show prog.cellsOf 9=1 by kernel_rfl]at g0;rw[show prog.cellsOf 5=1 by kernel_rfl]at g1;rw[show prog.cellsOf 37=1 by kernel_rfl]at g2;rw[show prog.cellsOf 40=3 by kernel_rfl]at g3;rw[show prog.cellsOf 3=1 by kernel_rfl]at g4;simp only[drop_succ_cons,drop_zero,take_succ_cons,take_zero]at g0 g1 g2 g3 g4
  match xs,hxl with
  |[x0,x1,x2,x3,x4],_=>
   obtain⟨s,hs,_,hsz⟩:=DataW.trod_string underlying9 g0;obtain⟨z1,hz1,_,hw1⟩:=DataW.trod_int underlying5 g1;obtain⟨z4,hz4,_,hw4⟩:=DataW.trod_int underlying3 g4
   injection hs with hs _
   injection hz1 with hz1 _
   injection hz4 with hz4 _
   subst hs hz1 hz4
   obtain⟨ai,ni,ci,rfl⟩: ∃a n cap,c2= .slice a n cap:=by
    rcases DataW.trod_slice underlying37 g2 with⟨h,_⟩|⟨a,len,cap,_,_,_,_,h,_⟩
    ·injection h with h _;exact⟨_,_,_,h⟩
    ·injection h with h _;exact⟨_,_,_,h⟩
   obtain⟨l,rfl,hr,h64⟩:=YN underlying37 underlying3 (by kernel_rfl) g2;obtain⟨ex,hex⟩:=YO n _ _ g3;obtain⟨p,cap,he,_⟩:=hex.parts;have he':[c3,c4,c5].toArray= #[.int .u8 ex.op,.int .i64 ex.n,.slice p ex.args.length cap]:=he
   injection he' with he'
   injection he' with e3 he'
   injection he' with e4 he'
   injection he' with e5 he'
   subst e3 e4 e5;exact⟨⟨s,z1,l,ex,z4⟩,_,_,p,cap,rfl,hex,hr,h64,(zV hw1).1,(zV hw1).2, .Ad hw4,hsz⟩
theorem aa5 {fuel:Nat}{cs:List Value}{x:DataW H×List MemPlace}(h:DataW.trod enc prog w 0 (fun _=>true) true fuel 24 cs=some x): ∃j:Jb,oh w cs.toArray j:=by
 obtain⟨xs,n,rfl,_,hl,hxl,hf⟩:=DataW.trod_struct underlying24 h;rw[show prog.cellsOf 24=2 by kernel_rfl]at hl
 match cs,hl with
 |[c0,c1],_=>
  have g0:DataW.trod enc prog w 0 (fun _=>true) true n 3 ([c0,c1].drop 0|>.take (prog.cellsOf 3))=xs[0]?:=hf 0 _ rfl;have g1:DataW.trod enc prog w 0 (fun _=>true) true n 22 ([c0,c1].drop 1|>.take (prog.cellsOf 22))=xs[1]?:=hf 1 _ rfl;rw[show prog.cellsOf 3=1 by kernel_rfl]at g0;rw[show prog.cellsOf 22=1 by kernel_rfl]at g1;simp only[drop_succ_cons,drop_zero,take_succ_cons,take_zero]at g0 g1
  match xs,hxl with
  |[x0,x1],_=>
   obtain⟨z0,hz0,_,hw0⟩:=DataW.trod_int underlying3 g0
   injection hz0 with hz0 _
   subst hz0
   obtain⟨a,ln,cap,rfl⟩: ∃a n cap,c1= .slice a n cap:=by
    rcases DataW.trod_slice underlying22 g1 with⟨h,_⟩|⟨a,len,cap,_,_,_,_,h,_⟩
    ·injection h with h _;exact⟨_,_,_,h⟩
    ·injection h with h _;exact⟨_,_,_,h⟩
   obtain⟨ks,hl,hr,hel⟩:=tX (k:=7) underlying22 (by kernel_rfl) (by omega) g1;have each: ∀i,i<ln-> ∃d:JN,oq w ((ks.drop (i*7)).take 7).toArray d:=fun i hi=>(by obtain⟨m,y,hy⟩:=hel i hi;exact VH hy);obtain⟨O,hO⟩:=choose_lt each;refine⟨⟨z0,(range ln).map O⟩,_,rfl,⟨ks,hr,by simpa using hl,fun i d hd=>?_⟩, .Ad hw0⟩;rw[aav]at hd;obtain⟨i',hi',rfl⟩:=acg.1 hd;obtain⟨hlt,rfl⟩:=μ.1 hi';simp only[length_range]at hlt;simpa using hO i hlt
end
theorem Tq {F:Nat}{fn:Func}{s:ChangeSpec}{laid:List (String×DataW Unit)}(hf:prog.funcs[F]?=some fn)(hv:s.vars=[])(hvt:s.plain.varTypes prog=[])(hr:fn.resultTypes= #[4])(hp:readB fn.params.toList=true)(hi:prog.inits.idxOf? F=none)
 (hs: ∀(H:Type)(ds:List (DataW H)),ds.length=fn.params.toList.length->s.fn H ds={results:=[.lit (.bool true)],args:=ds})
 (walk: ∀(H:Type)(enc:TypeId×Value->H)(W:World)(base:Nat)(args:Array Value)(ds:List (DataW H))(p:List MemPlace),
   DataW.TrodAll enc prog W 0 (fun _=>true) true fn.params.toList args.toList ds p->(∀(j:Nat) t v,fn.params[j]?=some t->args[j]?=some v->Value.okWide prog W .any base t v)->
   W.noneFrozen p->(DataW.weightsEach prog fn.params.toList ds).all (· <=reachBytes)=true->W.ShapedOpen prog->Calls prog F args W (Gives W (.bool true)))
 (os:Os) (started:os.Started) (H:Type) (enc:TypeId×Value->H)
 (witness: ∃(w:World)(tape:Tape)(i:Input),w.os=os/\(w.forCall tape i).Shaped prog/\i.vars=[]/\Input.okWide prog (w.forCall tape i) .any w.heap.size F i/\
   (OpenSpec.ofChange s).preRow enc prog fn [] false laid (w.forCall tape i).memory i.args/\({}:Assume).holds prog (lone (Frame.enter prog F i.args .normal) [] (w.forCall tape i))):
 ReturnsInHanded {} checked os F .any ((OpenSpec.ofChange s).preRow enc prog fn [] false laid) (s.post enc prog fn false true false false):=by
 refine returnsInHanded_of_row (C:=checked) (s:=OpenSpec.ofChange s) (F:=fun _ _ _=>0) own started hi hf witness ?_;intro W base args ds gs before hval hW hcnd _ hsz _ hsh _;have hW':=hW;obtain⟨p,q,hA,hV,rfl,hfz,hnd⟩:=hW;have hv':(OpenSpec.ofChange s).vars=[]:=hv;rw[hv']at hV;obtain⟨rfl,rfl⟩:=trodVars_none hV;have hA':DataW.TrodAll enc prog W 0 (fun _=>true) true fn.params.toList args.toList ds p:=hA;have hsz':(DataW.weightsEach prog fn.params.toList ds).all (· <=reachBytes)=true:=(by have h1:(DataW.weightsEach prog (fn.params.toList++s.plain.varTypes prog) (ds++[])).all (· <=reachBytes)=true:=hsz;rw[hvt,append_nil,append_nil]at h1;exact h1);refine(walk H enc W base args ds p hA' hval (fun b o h=>hfz b o (mem_append_left _ h)) hsz' hsh).mono fun e W' ⟨he,k⟩=>?_;subst he;have bel:=k.below;obtain⟨ps',afe⟩:=aao bel fn.params.toList hp hA';have hlen:ds.length=fn.params.toList.length:=(trodAll_length hA').2;have hfn:=hs H (ds++[]) (by rw[append_nil];exact hlen);refine⟨_,rfl,ds,[],_,[],ps',[],hW',?_,?_,?_,bel.frame _,fun h=>by cases h⟩
 ·rw[hr];show DataW.TrodAll _ _ _ _ _ _ _ _ (s.fn H (ds++[])).results _;rw[hfn];exact trodAll_mk1 (shut_bool underlying4 _)
 ·show DataW.TrodAll _ _ _ _ _ _ _ _ (s.fn H (ds++[])).args _;rw[hfn,append_nil];exact afe
 ·have e1:((OpenSpec.ofChange s).at fun _ _ _=>0).vars=[]:=hv
  have e2:(((OpenSpec.ofChange s).at fun _ _ _=>0).fn H (ds++[]))={results:=[.lit (.bool true)],args:=ds++[]}:=hfn;rw[e2,e1];rfl
theorem YW (w:World)(h:w.ShapedOpen prog): ∃m,w.cell? ⟨0,0,none⟩=some (.int .i64 m):=
 cell_of_shapedOpen_int (t:=3) (zero:= #[.int .i64 0]) h (of_decide_eq_true (by kernel_rfl)) (by kernel_rfl) rfl (by kernel_rfl) (by kernel_rfl) underlying3
end
section
open Go Go.RowKit
attribute [local irreducible] dI
def agB (w:World)(e:Ending)(w':World):Prop:= ∃n:Int,e= .returned (.int .i64 n)/\1<=n/\n<=2000/\ε η w w'
theorem size_any: ∀(N:Nat)(x:Ex)(a:Array Value)(w:World),SizeOf.sizeOf x<=N->aF w a x->Calls prog 83 #[.agg a] w (agB w)
 |0,x,_,_,h,_=>by cases x;simp at h
 |N+1,x,a,w,hN,h=>by
  obtain⟨p,cap,rfl,h0,h1,h2,h3,h4,h5⟩:=h.parts;have sub: ∀(i:Nat)(y:Ex),x.args[i]?=some y->SizeOf.sizeOf y<=N:=(by intro i y hy;obtain⟨op,n,args⟩:=x;have h1:=sizeOf_lt_of_mem (ς (show args[i]?=some y from hy));simp at hN;omega);have IH:=γ (fun y a w hy=>size_any N y a w hy);have SB:=γ sub;have H5:=γ h5;unfold maxLen at h4;clear h h5 sub hN;go_enter func83,ntmps83;go_wp2_with fail;obtain⟨W0,hW0⟩:=acu (w.alloc (.cells #[.int .u8 x.op,.int .i64 x.n,.slice p x.args.length cap] 40));have k0:ε η w W0:=(by rw[<-hW0];exact δ.alloc _);rw[hW0];have K0:=γ k0;clear hW0 k0;go_loopg [3,9] x.args.length (fun g vn vi wr=> ∃(k:Nat)(n:Int),k<=x.args.length/\vi= .int .i64 (k:Int)/\vn= .int .i64 n/\x.args.length-k<=g/\1<=n/\n<=4000/\ε η w wr)
  case atStart=>exact⟨0,1,by omega,rfl,rfl,by omega,by omega,by omega,K0.o⟩
  case round=>
   obtain⟨k,n,hkl,rfl,rfl,hg,hn1,hn2,hkp⟩:=hrel;by_cases hlt:k<x.args.length
   ·obtain⟨y,hy⟩: ∃y,x.args[k]?=some y:=⟨_,ι hlt⟩
    obtain⟨b,off,p',cap',rfl,q0,q1,q2,hy2⟩:=H5.o k y hy;have r0:=hkp.cell (p:=⟨b,off+k*3,none⟩) id q0;have r1:=hkp.cell (p:=⟨b,off+k*3+1,none⟩) id q1;have r2:=hkp.cell (p:=⟨b,off+k*3+2,none⟩) id q2;have G:=γ (θ hg (θ (aF.pure hkp hy2) (θ hkp (SB.o k y hy))));clear q0 q1 q2 hy hy2 hkp hg H5;by_cases hb:n<2000
    ·go_wp2_with fail
     have ka:ε η wr (wr.alloc (.cells #[.int .u8 y.op,.int .i64 y.n,.slice p' y.args.length cap'] 40)):=δ.alloc _;have c:=IH.o y _ (wr.alloc (.cells #[.int .u8 y.op,.int .i64 y.n,.slice p' y.args.length cap'] 40)) G.o.2.2.2 (aF.pure ka G.o.2.1);refine c.mono ?_;clear c;rintro e w2 ⟨m,rfl,hm1,hm2,k2⟩;have K2:=γ (G.o.2.2.1.trans (ka.trans k2));clear k2 ka;go_wp2;go_roundg (x.args.length-(k+1))
     case rel=>exact⟨k+1,n+m,by omega,by go_num,rfl,ξ _,by omega,by omega,K2.o⟩
     case measure=>have:=G.o.1;omega
    ·go_wp2
     go_roundg (x.args.length-(k+1))
     case rel=>exact⟨k+1,n,by omega,by go_num,rfl,ξ _,by omega,by omega,G.o.2.2.1.alloc _⟩
     case measure=>have:=G.o.1;omega
   ·have HK:=γ hkp
    clear hkp;by_cases hb:n<=2000
    ·have e:min n 2000=n:=by omega
     go_wp2;go_ret;exact⟨n,rfl,by omega,by omega,HK.o⟩
    ·have e:min n 2000=2000:=by omega
     go_wp2;go_ret;exact⟨2000,rfl,by omega,by omega,HK.o⟩
end
section
open Go Go.RowKit
theorem rC {a b:Bool}(h:a=b):Ending.returned (.bool a)= .returned (.bool b):=by rw[h]
theorem Ep (r:Nat):jo r=true↔(97<=(r:Int)/\(r:Int)<=122)\/(65<=(r:Int)/\(r:Int)<=90)\/(191<(r:Int)/\(r:Int)≠65533):=by unfold jo;simp only[Bool.or_eq_true,Φ,decide_eq_true_eq,bne_iff_ne,ne_eq];omega
theorem GL (r:Nat):iQ r=true↔jo r=true\/(48<=(r:Int)/\(r:Int)<=57)\/(r:Int)=45:=by unfold iQ;simp only[Bool.or_eq_true,Φ,decide_eq_true_eq,beq_iff_eq];have e:r=45↔(r:Int)=45:=(by omega);have e1:48<=r/\r<=57↔48<=(r:Int)/\(r:Int)<=57:=(by omega);rw[or_assoc,e,e1]
theorem abb {s:ByteArray}(hd: ∀q∈runes s,iQ q.2=true)(hh: ∀q,(runes s).head?=some q->jo q.2=true):
 fM s=(decide (0<((runes s).length:Int))&&decide (((runes s).length:Int)<=24)):=by
 unfold fM
 cases e:runes s with
 |nil=>rfl
 |cons p l=>rw[e]at hd hh;show(jo p.2&&(p::l).all (fun q=>iQ q.2)&&decide ((p::l).length<=24))=_;rw[hh p rfl,all_eq_true.2 hd,Bool.true_and,Bool.true_and,decide_eq_true (show 0<((p::l).length:Int) by simp),Bool.true_and];exact decide_eq_decide.2 (by omega)
theorem IV {s:ByteArray}{done left:List (Nat×Nat)}{p:Nat×Nat}(h:runes s=done++p::left)(hp:(done=[]/\jo p.2=false)\/iQ p.2=false):fM s=false:=by
 unfold fM;rw[h]
 rcases hp with⟨rfl,hp⟩|hp
 ·rw[nil_append,Lm,hp];rfl
 ·have: ∀l:List (Nat×Nat),p∈l->Lm l=false:=by
   intro l hl
   cases l with
   |nil=>rfl
   |cons q l=>have:(q::l).all (fun q=>iQ q.2)=false:=all_eq_false.2 ⟨p,hl,by simp[hp]⟩;rw[Lm,this];simp
  exact this _ (by simp)
theorem Gz (r:Nat)(w:World):Calls prog 162 #[.int .i32 (r:Int)] w fun e w'=>e= .returned (.bool (jo r))/\w=w':=by
 go_enter func162,ntmps162;go_wp2;all_goals
  go_ret;refine⟨rC ?_,rfl⟩;rw[Bool.eq_iff_iff,Ep];simp only[Bool.or_eq_true,decide_eq_true_eq,bne_iff_ne,ne_eq,Bool.false_eq_true,true_iff,false_iff];omega
theorem Y5 (r:Nat)(w:World):Calls prog 163 #[.int .i32 (r:Int)] w fun e w'=>e= .returned (.bool (iQ r))/\w=w':=by
 have hr:=GL r;go_enter func163,ntmps163;go_wp2_with (go_at_call 162;refine(Gz _ _).mono ?_;rintro e w' ⟨rfl,rfl⟩);all_goals
  go_ret;refine⟨rC ?_,rfl⟩;rw[Bool.eq_iff_iff,hr];simp only[Bool.or_eq_true,decide_eq_true_eq,beq_iff_eq,Bool.false_eq_true,true_or,false_or,true_and, *];try omega
theorem name_any (s:ByteArray)(hs:s.size<=maxLen)(w:World):Calls prog 126 #[.string s] w fun e w'=>e= .returned (.bool (fM s))/\ε η w w':=by
 obtain⟨w0,hrun,hit,hk0,hs0⟩:=kG (P:=prog) w 9 s underlying9;have hlen:=jg s;have H:=γ (θ hit (θ hk0 hs0));clear hit hk0 hs0;unfold maxLen at hs;go_enter func126,ntmps126;go_wp2;go_loopg [3] (runes s).length (fun k i wr=> ∃left done,nC wr w.heap.size s left/\runes s=done++left/\left.length=k/\i= .int .i64 ((done.length:Nat):Int)/\(∀q∈done,iQ q.2=true)/\(∀q,done.head?=some q->jo q.2=true)/\ε η w wr)
 case atStart=>exact⟨runes s,[],H.o.1,rfl,rfl,rfl,by simp,by simp,H.o.2.1⟩
 case round=>
  obtain⟨left,done,hit,hall,hk,rfl,hd,hh,hk1⟩:=hrel;have A:=γ (θ hall (θ hd (θ hh (θ hk hk1))));clear hall hd hh hk hk1
  rcases hit.next (P:=prog) 0 with⟨rfl,hrun⟩|⟨p,left',w2,hp,hrun,hit2,hk2,hs2⟩
  ·clear hit
   obtain⟨h1,h2,h3,h4,h5⟩:=A.o;rw[append_nil]at h1;subst h1;have F:=γ (abb h2 h3);clear h2 h3 A;go_wp2;all_goals
    go_ret;refine⟨rC ?_,h5⟩;rw[F.o,Bool.eq_iff_iff];simp only[Φ,decide_eq_true_eq,Bool.false_eq_true,false_iff,iff_and_self, *];try omega
  ·clear hit
   have hk3:ε η w w2:=A.o.2.2.2.2.new hk2 (fun i hi e=>by unfold one at e;omega);have hl:runes s=done++p::left':=(by rw[A.o.1,hp]);have hstep:iQ p.2=true->(done=[]->jo p.2=true)->(∀q∈done++[p],iQ q.2=true)/\(∀q,(done++[p]).head?=some q->jo q.2=true):=fun g1 g2=>by
    refine⟨fun q hq=>?_,fun q hq=>?_⟩
    ·rcases aax.1 hq with hq|hq
     ·exact A.o.2.1 q hq
     ·rw[ach.1 hq];exact g1
    ·cases done with
     |nil=>simp at hq;subst hq;exact g2 rfl
     |cons x d=>exact A.o.2.2.1 q (by simpa using hq)
   have hm:left'.length<gk:=(by have:=A.o.2.2.2.1;rw[hp]at this;simp at this;omega);have G:=γ (θ hit2 (θ hk3 (θ hl (θ hstep hm))));clear hit2 hk3 hl hstep hm hp hk2 hs2 A H hlen;go_wp2_with (first|(go_at_call 162;refine(Gz _ _).mono ?_;rintro e w' ⟨rfl,rfl⟩)|(go_at_call 163;refine(Y5 _ _).mono ?_;rintro e w' ⟨rfl,rfl⟩))
   ·rename_i h1 h2 h3
    go_ret;exact⟨rC (IV G.o.2.2.1 (.inr (by simpa using h3))).symm,G.o.2.1⟩
   ·rename_i h1 h2 h3
    go_roundg left'.length
    case rel=>obtain⟨g1,g2⟩:=G.o.2.2.2.1 (by simpa using h3) (fun _=>h2);exact⟨left',done++[p],G.o.1,by rw[G.o.2.2.1];simp,rfl,by subst h1;rfl,g1,g2,G.o.2.1⟩
    case measure=>exact G.o.2.2.2.2
   ·rename_i h1 h2
    go_ret;exact⟨rC (IV G.o.2.2.1 (.inl ⟨h1,by simpa using h2⟩)).symm,G.o.2.1⟩
   ·rename_i h1 h3
    go_ret;exact⟨rC (IV G.o.2.2.1 (.inr (by simpa using h3))).symm,G.o.2.1⟩
   ·rename_i h1 h3
    have hlt:done.length<9223372036854775807:=(by have:=jg s;rw[G.o.2.2.1]at this;simp at this;omega);go_roundg left'.length
    case rel=>obtain⟨g1,g2⟩:=G.o.2.2.2.1 (by simpa using h3) (fun h=>absurd h h1);exact⟨left',done++[p],G.o.1,by rw[G.o.2.2.1];simp,rfl,by rw[show wrap64 ((done.length:Int)+1)=((done.length+1:Nat):Int) by unfold wrap64;omega,ν];rfl,g1,g2,G.o.2.1⟩
    case measure=>exact G.o.2.2.2.2
end
section
open Go Go.RowKit
attribute [local irreducible] dI
abbrev Ae:ByteArray:=ByteArray.empty
def zG (s:ByteArray):List (Nat×Nat)->ByteArray×ByteArray×Bool
 |[]=>(s,Ae,false)
 |p::l=>if p.2=58 then(s.extract 0 p.1,s.extract (p.1+1) s.size,true)else zG s l
def jU (s:ByteArray):ByteArray×ByteArray×Bool:=zG s (runes s)
def pW (s:ByteArray):List (Nat×Nat)->Int->List ByteArray->Option (List ByteArray)
 |[],f,o=>if 0<=f then(if f<=s.size then some (o++[s.extract f.toNat s.size])else none)else some o
 |p::l,f,o=>
  if p.2=65533\/p.2<32/\p.2≠9 then none
  else if p.2=32\/p.2=9 then(if 0<=f then(if f<=p.1 then pW s l (-1) (o++[s.extract f.toNat p.1])else none)else pW s l (-1) o)
  else if f<0 then pW s l p.1 o else pW s l f o
def zB (s:ByteArray):Option (List ByteArray):=if 400<s.size then none else pW s (runes s) (-1) []
def Ih (r:Nat):Bool:=decide (48<=r)&&decide (r<=57)
theorem wrapN {n:Nat}(h:n<=9223372036854775807):IntKind.i64.wrap ((n:Nat):Int)=((n:Nat):Int):=by rw[IntKind.wrap_i64];omega
theorem rv3 {a b a' b':ByteArray}{c c':Bool}(h1:a=a')(h2:b=b')(h3:c=c'):Ending.returned (.tuple #[.string a,.string b,.bool c])= .returned (.tuple #[.string a',.string b',.bool c']):=by rw[h1,h2,h3]
theorem y8 (s:ByteArray): ∀(done left:List (Nat×Nat)),(∀q∈done,q.2≠58)->zG s (done++left)=zG s left
 |[],_,_=>rfl
 |q::done,left,h=>by rw[cons_append,zG,if_neg (h q (by simp))];exact y8 s done left (fun x hx=>h x (by simp[hx]))
theorem zZ (s:ByteArray)(hs:s.size<=maxLen)(w:World):Calls prog 155 #[.string s] w fun e w'=>e= .returned (.tuple #[.string (jU s).1,.string (jU s).2.1,.bool (jU s).2.2])/\ε η w w':=by
 obtain⟨w0,hrun,hit,hk0,hs0⟩:=kG (P:=prog) w 9 s underlying9;have hlen:=jg s;have H:=γ (θ hit (θ hk0 hs0));clear hit hk0 hs0;unfold maxLen at hs;go_enter func155,ntmps155;go_wp2;go_loopg [5] (runes s).length (fun k i wr=> ∃left done,nC wr w.heap.size s left/\runes s=done++left/\left.length=k/\(∀q∈done,q.2≠58)/\ε η w wr)
 case atStart=>exact⟨runes s,[],H.o.1,rfl,rfl,by simp,H.o.2.1⟩
 case round=>
  obtain⟨left,done,hit,hall,hk,hd,hk1⟩:=hrel;have A:=γ (θ hall (θ hd (θ hk hk1)));clear hall hd hk hk1
  rcases hit.next (P:=prog) 0 with⟨rfl,hrun⟩|⟨p,left',w2,hp,hrun,hit2,hk2,hs2⟩
  ·clear hit
   have F:=γ (show jU s=(s,Ae,false) by unfold jU;rw[A.o.1,y8 s done [] A.o.2.1];rfl);go_wp2
   go_ret3
   exact⟨by rw[F.o];rfl,A.o.2.2.2⟩
  ·clear hit
   have hk3:ε η w w2:=A.o.2.2.2.new hk2 (fun i hi e=>by unfold one at e;omega);have hl:runes s=done++p::left':=(by rw[A.o.1,hp]);have hin:=Fb (s:=s) (p:=p) (by rw[hl];simp);have hm:left'.length<gk:=(by have:=A.o.2.2.1;rw[hp]at this;simp at this;omega);obtain⟨hp1,hp2⟩:=hin;have G:=γ (θ hit2 (θ hk3 (θ hl hm)));clear hit2 hk3 hl hm hp hk2 hs2 H hlen;by_cases hc:p.2=58
   ·have F:=γ (show jU s=(s.extract 0 p.1,s.extract (p.1+1) s.size,true) by unfold jU;rw[G.o.2.2.1,y8 s done _ A.o.2.1,zG,if_pos hc])
    have hc2:(p.2:Int)=58:=(by omega);have hp3:(p.1:Int)+1<=s.size:=(by omega);have hp4:p.1<=s.size:=(by omega);have hp5:p.1+1<=s.size:=(by omega);have hw1:IntKind.i64.wrap ((p.1:Int)+1)=((p.1+1:Nat):Int):=wrapN (n:=p.1+1) (by omega);clear A;go_wp2;refine ak [0,1,2,3,4,5,6,7,8,9] (fun _=>True) (by kernel_rfl) (by kernel_rfl) rfl trivial ?_;simp only[aco];iterate 10 (apply aj rfl rfl;(intro W hW;go_simp;rfl);go_frame)
    refine aA (fun _=>trivial) ?_;go_wp2
    go_ret3
    exact⟨by rw[F.o];exact rv3 rfl rfl rfl,G.o.2.1.drew⟩
   ·have hc2: ¬(p.2:Int)=58:=by omega
    go_wp2;go_roundg left'.length
    case rel=>
     refine⟨left',done++[p],G.o.1,by rw[G.o.2.2.1];simp,rfl,fun q hq=>?_,G.o.2.1⟩
     rcases aax.1 hq with hq|hq
     ·exact A.o.2.1 q hq
     ·rw[ach.1 hq];exact hc
    case measure=>exact G.o.2.2.2
theorem IQ {w:World}{base e size n:Nat}{v:Value}{xs:List Value}(h:w.ownsRow base e size v n xs){b:Nat}(hb:v.ownBlock=some b):base<=b:=by
 rcases h.2 with⟨rfl,_⟩|⟨g,cap,cur,rfl,h1,_⟩
 ·cases hb
 ·cases hb;exact h1
theorem ael {w:World}{base e size n:Nat}{v:Value}{xs:List Value}(h:w.ownsRow base e size v n xs): ∃a c,v= .slice a n c:=by
 rcases h.2 with⟨rfl,h0⟩|⟨g,cap,cur,rfl,_⟩
 ·exact⟨_,_,by rw[h0]⟩
 ·exact⟨_,_,rfl⟩
theorem VB {T E bytes:Nat}{z x:Value}{i:TypeInfo}(hT:prog.underlying T=some (.slice E))(hi:prog.info? E=some i)(hz:i.zero=some z)(hs:i.size=1)(hb:i.bytes=bytes)(hzc:z.cells.size=1)(hx:x.oneCell'=true)
 {wr:World} {base m:Nat} {v:Value} {xs:List Value} (hown:wr.ownsRow base E 1 v m xs) (hm:m<=100000) (hbb:bytes<=1000) (hbase:base<=wr.heap.size) (ty:TypeId):
 ∃v' w',(Builtin.append_ #[T,T] ty #[v,.slice (some ⟨wr.heap.size,0,none⟩) 1 1]).run prog (wr.alloc (.cells #[x] E))= .ok v' w'/\w'.ownsRow base E 1 v' (m+1) (xs++[x])/\ε (fun k=>base<=k) wr w':=by
 have kA:ε η wr (wr.alloc (.cells #[x] E)):=δ.alloc _;have hr:=Reads.lit wr [x] E 1 1 rfl (by unfold maxLen;omega);obtain⟨v',n',w',b1,b2,b3,b4,_⟩:=aZ (P:=prog) base T ty E i z 1 bytes hT hi hz hs hb hzc (by omega) (kA.owns hown (fun _ _ h=>h)) hr (by intro y hy;rw[ach.1 hy];exact hx)
  (by
    simp only[length_singleton,Nat.mul_one]
    calc(m+1)*bytes<=100001*1000:=Nat.mul_le_mul (by omega) hbb
     _<=140737488355328:=by decide) (by simp;unfold maxLen;omega) (by have:=kA.size;omega)
 have hn:n'=m+1:=(by simpa using b3);subst hn;exact⟨v',w',b1,b2,kA.pure.trans (ε.grown b4 (fun k hk _=>IQ hown hk))⟩
theorem Tryz.info9: ∃i z,Tryz.prog.info? 9=some i/\i.zero=some z/\i.size=1/\i.bytes=16/\z.cells.size=1:=by have h:(prog.info? 9).map (fun i=>(i.zero,i.size,i.bytes))=some (some (.string ByteArray.empty),1,16):=(by kernel_rfl);obtain⟨i,hi,hzz⟩:=acg.1 h;simp only[Prod.mk.injEq]at hzz;exact⟨i,_,hi,hzz.1,hzz.2.1,hzz.2.2,rfl⟩
theorem PG {w:World}{base n:Nat}{va:Value}{l:List ByteArray}(h:w.ownsRow base 9 1 va n (strs l))(u:ByteArray)(hb:base<=w.heap.size)(hn:n<=100000):
 ∃iC w',(Builtin.append_ #[163,163] 163 #[va,.slice (some ⟨w.heap.size,0,none⟩) 1 1]).run prog (w.alloc (.cells #[.string u] 9))= .ok iC w'/\w'.ownsRow base 9 1 iC (n+1) (strs (l++[u]))/\ε (fun j=>base<=j) w w':=by
 obtain⟨i,z,hi,hz,hs,hby,hzs⟩:=Tryz.info9;have:=VB underlying163 hi hz hs hby hzs (x:= .string u) rfl h hn (by omega) hb 163;rwa[show strs (l++[u])=strs l++[.string u] by unfold strs;rw[aay];rfl]
theorem jL {P:Program}{w w':World}{ops:Array Oper}{rest:List Oper}{o:Oper}{a:Act}{Q:Exit->Act->World->Prop}(hgd:o.guard=none)(s x:Operand)(t:TypeId)
 (ho:o.op= .call {callee:= .builtin .append,args:= #[s,x],argTypes:= #[t,t]}) (v u v':Value) (hs:a.eval s=v) (hx:a.eval x=u) (hr:(Builtin.append_ #[t,t] o.type #[v,u]).run P w= .ok v' w')
 (h:wpList P ops Q rest (a.put o.dst v') w'):wpList P ops Q (o::rest) a w:=
 wpList_plain hgd fun K hK=>by unfold Oper.wp execOp;simp only[ho,resolve,invoke,builtin,Sem.run_bind,Sem.run_pure,Result.andThen_ok,map_toArray,Θ,Ξ,hs,hx,hr];exact hK _ _ h
def RF (w:World)(l:List ByteArray)(e:Ending)(w':World):Prop:= ∃v,e= .returned (.tuple #[v,.int .i64 0])/\w'.ownsRow w.heap.size 9 1 v l.length (strs l)/\ε η w w'
theorem qK (s:ByteArray): ∀(l:List (Nat×Nat))(f:Int)(o out:List ByteArray),pW s l f o=some out->o.length<=out.length/\out.length<=o.length+l.length+1
 |[],f,o,out,h=>by
  unfold pW at h;split at h
  ·split at h
   ·injection h with h;subst h;simp
   ·cases h
  ·injection h with h;subst h;simp
 |p::l,f,o,out,h=>by
  unfold pW at h;split at h
  ·cases h
  ·split at h
   ·split at h
    ·split at h
     ·have:=qK s l _ _ _ h
      simp only[ν,φ,Γ]at this⊢;omega
     ·cases h
    ·have:=qK s l _ _ _ h
     simp only[φ];omega
   ·split at h
    ·have:=qK s l _ _ _ h
     simp only[φ];omega
    ·have:=qK s l _ _ _ h
     simp only[φ];omega
theorem BD (s:ByteArray)(out:List ByteArray)(hok:zB s=some out)(w:World):Calls prog 156 #[.string s] w (RF w out):=by
 obtain⟨w0,hrun,hit,hk0,hs0⟩:=kG (P:=prog) w 9 s underlying9;have hlen:=jg s;unfold zB at hok;have hs4: ¬400<s.size:=fun h=>(by rw[if_pos h]at hok;cases hok);rw[if_neg hs4]at hok;have hs5: ¬(400:Int)<s.size:=(by omega);have H:=γ (θ hit (θ hk0 (θ hs0 hok)));clear hit hk0 hs0 hok;go_enter func156,ntmps156;go_wp2;go_loopg [4,5] (runes s).length (fun k vo vf wr=> ∃left f o,nC wr w.heap.size s left/\(∀q∈left,q.1<s.size/\q.2<=2147483647)/\left.length=k/\vf= .int .i64 f/\ -1<=f/\f<=s.size/\pW s left f o=some out/\wr.ownsRow (w.heap.size+1) 9 1 vo o.length (strs o)/\ε η w wr/\w.heap.size+1<=wr.heap.size)
 case atStart=>exact⟨runes s,-1,[],H.o.1,fun q hq=>Fb hq,rfl,rfl,by omega,by omega,H.o.2.2.2,World.ownsRow_nil _ _ _ _,H.o.2.1,by have:=H.o.2.2.1;omega⟩
 case round=>
  obtain⟨left,f,o,hit,hin,hk,rfl,hf0,hf1,hwf,hown,hk1,hsz⟩:=hrel;obtain⟨wo,rfl⟩: ∃wo:World,wo=wr:=⟨_,rfl⟩;obtain⟨Un,Um,rfl⟩:=ael hown;have hol:o.length<=1000:=(by have:=(qK s left f o out hwf).1;have:=(qK s (runes s) (-1) [] out H.o.2.2.2).2;simp at this;omega);have A:=γ (θ hin (θ hk (θ hwf (θ hown (θ hk1 hsz)))));clear hin hk hwf hown hk1 hsz
  rcases hit.next (P:=prog) 0 with⟨rfl,hrun⟩|⟨p,left',w2,hp,hrun,hit2,hk2,hs2⟩
  ·clear hit
   have hw:=A.o.2.2.1;unfold pW at hw;by_cases hf:0<=f
   ·rw[if_pos hf,if_pos hf1]at hw
    injection hw with hw
    obtain⟨iC,w',g1,g2,g3⟩:=PG A.o.2.2.2.1 (s.extract f.toNat s.size) A.o.2.2.2.2.2 (by omega);have e1:o.length+1=out.length:=(by rw[<-hw];simp);rw[hw,e1]at g2;have F:=γ (show RF w out (.returned (.tuple #[iC,.int .i64 0])) w' from⟨iC,rfl,jV g2 (Nat.le_succ _),A.o.2.2.2.2.1.new g3 (fun q hq hs=>by omega)⟩);obtain⟨a2,c2,rfl⟩:=au g2;have G:=γ g1;clear g1 g2 g3 hw e1 H;go_wp2_with (at_builtin;refine jL rfl (.tmp 50) (.tmp 54) 163 rfl _ _ _ rfl rfl G.o ?_);go_ret2;exact F.o
   ·rw[if_neg hf]at hw
    injection hw with hw
    subst hw;have F:=γ (show RF w o (.returned (.tuple #[.slice Un o.length Um,.int .i64 0])) wo from⟨_,rfl,jV A.o.2.2.2.1 (Nat.le_succ _),A.o.2.2.2.2.1⟩);clear H;go_wp2;go_ret2;exact F.o
  ·clear hit
   have hin:=A.o.1;rw[hp]at hin;obtain⟨hp1,hp2⟩:=hin p (by simp);have hinl: ∀q∈left',q.1<s.size/\q.2<=2147483647:=fun q hq=>hin q (by simp[hq]);have hw:=A.o.2.2.1;rw[hp]at hw;unfold pW at hw;have hbad: ¬(p.2=65533\/p.2<32/\p.2≠9):=fun h=>(by rw[if_pos h]at hw;cases hw);rw[if_neg hbad]at hw;have hm:left'.length<gk:=(by have:=A.o.2.1;rw[hp]at this;simp at this;omega);have hk3:ε η w w2:=A.o.2.2.2.2.1.new hk2 (fun i hi e=>by unfold one at e;omega);have hsz2:w.heap.size+1<=w2.heap.size:=(by rw[hs2];exact A.o.2.2.2.2.2);have hown2:w2.ownsRow (w.heap.size+1) 9 1 (.slice Un o.length Um) o.length (strs o):=hk2.owns A.o.2.2.2.1 (fun q hq hs=>by have:=IQ A.o.2.2.2.1 hq;unfold one at hs;omega);have b1: ¬(p.2:Int)=65533:=(by omega);have b2: ¬((p.2:Int)<32/\(p.2:Int)≠9):=(by omega);have G:=γ (θ hit2 (θ hinl (θ hm (θ hk3 (θ hsz2 hown2)))));clear hit2 hk3 hm hp hk2 hs2 hin hinl hsz2 hown2 H A hlen hbad;by_cases hsp:p.2=32\/p.2=9
   ·rw[if_pos hsp]at hw
    have c1:(p.2:Int)=32\/(p.2:Int)=9:=(by omega);by_cases hf:0<=f
    ·rw[if_pos hf]at hw
     have hfp:f<=p.1:=by
      by_cases h:f<=p.1
      ·exact h
      ·rw[if_neg h]at hw;cases hw
     rw[if_pos hfp]at hw;obtain⟨iC,w',g1,g2,g3⟩:=PG G.o.2.2.2.2.2 (s.extract f.toNat p.1) G.o.2.2.2.2.1 (by omega);obtain⟨a2,c2,rfl⟩:=au g2;have k3:=G.o.2.2.2.1.new g3 (fun q hq hs=>by omega);have hit3:=G.o.1.kept g3 (fun h=>by omega);have hs3:w.heap.size+1<=w'.heap.size:=ω G.o.2.2.2.2.1 g3.size;have Z:=γ (θ g1 (θ g2 (θ k3 (θ hit3 (θ hs3 hw)))));clear g1 g2 g3 k3 hit3 hs3 hw hsp
     rcases c1 with c1|c1
     ·go_wp2_with (at_builtin;refine jL rfl (.tmp 37) (.tmp 42) 163 rfl _ _ _ rfl rfl Z.o.1 ?_)
      go_roundg left'.length
      case rel=>exact⟨left',-1,o++[s.extract f.toNat p.1],Z.o.2.2.2.1,G.o.2.1,rfl,rfl,by omega,by omega,Z.o.2.2.2.2.2,by rw[ν];exact Z.o.2.1,Z.o.2.2.1,Z.o.2.2.2.2.1⟩
      case measure=>exact G.o.2.2.1
     ·go_wp2_with (at_builtin;refine jL rfl (.tmp 37) (.tmp 42) 163 rfl _ _ _ rfl rfl Z.o.1 ?_)
      go_roundg left'.length
      case rel=>exact⟨left',-1,o++[s.extract f.toNat p.1],Z.o.2.2.2.1,G.o.2.1,rfl,rfl,by omega,by omega,Z.o.2.2.2.2.2,by rw[ν];exact Z.o.2.1,Z.o.2.2.1,Z.o.2.2.2.2.1⟩
      case measure=>exact G.o.2.2.1
    ·rw[if_neg hf]at hw
     have Z:=γ hw;clear hw hsp
     rcases c1 with c1|c1
     ·go_wp2
      go_roundg left'.length
      case rel=>exact⟨left',-1,o,G.o.1,G.o.2.1,rfl,rfl,by omega,by omega,Z.o,G.o.2.2.2.2.2,G.o.2.2.2.1,G.o.2.2.2.2.1⟩
      case measure=>exact G.o.2.2.1
     ·go_wp2
      go_roundg left'.length
      case rel=>exact⟨left',-1,o,G.o.1,G.o.2.1,rfl,rfl,by omega,by omega,Z.o,G.o.2.2.2.2.2,G.o.2.2.2.1,G.o.2.2.2.2.1⟩
      case measure=>exact G.o.2.2.1
   ·rw[if_neg hsp]at hw
    have c1: ¬(p.2:Int)=32:=(by omega);have c2: ¬(p.2:Int)=9:=(by omega);have c3: ¬(p.2:Int)<32:=(by omega);have d1: ¬p.2=32:=(by omega);have d2: ¬p.2=9:=(by omega);have d3: ¬p.2<32:=(by omega);have d4: ¬p.2=65533:=(by omega);have e1:((p.2:Int)==32)=false:=(by simpa using c1);have e2:((p.2:Int)==9)=false:=(by simpa using c2);clear hsp b2;by_cases hf:f<0
    ·rw[if_pos hf]at hw
     have Z:=γ hw;clear hw;go_wp2;go_roundg left'.length
     case rel=>exact⟨left',p.1,o,G.o.1,G.o.2.1,rfl,rfl,by omega,by omega,Z.o,G.o.2.2.2.2.2,G.o.2.2.2.1,G.o.2.2.2.2.1⟩
     case measure=>exact G.o.2.2.1
    ·rw[if_neg hf]at hw
     have Z:=γ hw;clear hw;go_wp2;go_roundg left'.length
     case rel=>exact⟨left',f,o,G.o.1,G.o.2.1,rfl,rfl,by omega,by omega,Z.o,G.o.2.2.2.2.2,G.o.2.2.2.1,G.o.2.2.2.2.1⟩
     case measure=>exact G.o.2.2.1
theorem UH (k:Int)(w:World):Calls prog 159 #[.int .u8 k] w fun e w'=>e= .returned (.bool (decide (2<=k)&&decide (k<=6)))/\w=w':=by
 go_enter func159,ntmps159;go_wp2;all_goals
  go_ret;refine⟨rC ?_,rfl⟩;rw[Bool.eq_iff_iff];simp only[Φ,decide_eq_true_eq,Bool.false_eq_true,false_iff,true_and, *];try omega
end
end Go.Proofs.YtglbkodmmogomaaGreatDoor
namespace Go.Proofs
open Go.Shelf
def Tryz.splitL_ren:Go.Shelf.Ren:=⟨fun|146=>122|221=>153|268=>180|138=>181|143=>182|195=>216|197=>217|218=>218|219=>219|260=>244|217=>245|225=>246|224=>247|267=>248|266=>264|314=>265|n=>n,fun|9=>9|31=>163|3=>3|4=>4|0=>0|105=>293|21=>21|5=>5|46=>212|119=>333|139=>336|138=>335|146=>337|51=>288|n=>n,fun|1=>0|3=>1|4=>2|n=>n⟩
theorem Tryz.splitL:Go.Proofs.Lays.n146 Tryz.prog Tryz.splitL_ren:={
 mixed:=by kernel_rfl
 f138:=Tryz.func181.trans (congrArg some (by kernel_rfl))
 f143:=Tryz.func182.trans (congrArg some (by kernel_rfl))
 f146:=Tryz.func122.trans (congrArg some (by kernel_rfl))
 f195:=Tryz.func216.trans (congrArg some (by kernel_rfl))
 f197:=Tryz.func217.trans (congrArg some (by kernel_rfl))
 f217:=Tryz.func245.trans (congrArg some (by kernel_rfl))
 f218:=Tryz.func218.trans (congrArg some (by kernel_rfl))
 f219:=Tryz.func219.trans (congrArg some (by kernel_rfl))
 f221:=Tryz.func153.trans (congrArg some (by kernel_rfl))
 f224:=Tryz.func247.trans (congrArg some (by kernel_rfl))
 f225:=Tryz.func246.trans (congrArg some (by kernel_rfl))
 f260:=Tryz.func244.trans (congrArg some (by kernel_rfl))
 f266:=Tryz.func264.trans (congrArg some (by kernel_rfl))
 f267:=Tryz.func248.trans (congrArg some (by kernel_rfl))
 f268:=Tryz.func180.trans (congrArg some (by kernel_rfl))
 f314:=Tryz.func265.trans (congrArg some (by kernel_rfl))
 t0:=Tryz.underlying0
 a0:=Tryz.isAgg0
 z0:=Tryz.sizeOf0
 v0:=Tryz.zeroValue0
 t3:=Tryz.underlying3
 a3:=Tryz.isAgg3
 z3:=Tryz.sizeOf3
 v3:=Tryz.zeroValue3
 t4:=Tryz.underlying4
 a4:=Tryz.isAgg4
 z4:=Tryz.sizeOf4
 v4:=Tryz.zeroValue4
 t5:=Tryz.underlying5
 a5:=Tryz.isAgg5
 z5:=Tryz.sizeOf5
 v5:=Tryz.zeroValue5
 t9:=Tryz.underlying9
 a9:=Tryz.isAgg9
 z9:=Tryz.sizeOf9
 v9:=Tryz.zeroValue9
 t21:=Tryz.underlying21
 a21:=Tryz.isAgg21
 z21:=Tryz.sizeOf21
 v21:=Tryz.zeroValue21
 t31:=Tryz.underlying163
 a31:=Tryz.isAgg163
 z31:=Tryz.sizeOf163
 v31:=Tryz.zeroValue163
 t46:=Tryz.underlying212
 a46:=Tryz.isAgg212
 z46:=Tryz.sizeOf212
 v46:=Tryz.zeroValue212
 t51:=Tryz.underlying288
 a51:=Tryz.isAgg288
 z51:=Tryz.sizeOf288
 v51:=Tryz.zeroValue288
 t105:=Tryz.underlying293
 a105:=Tryz.isAgg293
 z105:=Tryz.sizeOf293
 v105:=Tryz.zeroValue293
 t119:=Tryz.underlying333
 a119:=Tryz.isAgg333
 z119:=Tryz.sizeOf333
 t138:=Tryz.underlying335
 a138:=Tryz.isAgg335
 z138:=Tryz.sizeOf335
 v138:=Tryz.zeroValue335
 t139:=Tryz.underlying336
 a139:=Tryz.isAgg336
 z139:=Tryz.sizeOf336
 v139:=Tryz.zeroValue336
 t146:=Tryz.underlying337
 a146:=Tryz.isAgg337
 z146:=Tryz.sizeOf337
 v146:=Tryz.zeroValue337
 g1:=by kernel_rfl
 g3:=by kernel_rfl
 g4:=by kernel_rfl}
def Tryz.trimL_ren:Go.Shelf.Ren:=⟨fun|160=>154|232=>184|231=>183|227=>185|234=>187|233=>186|236=>189|235=>188|228=>220|271=>222|151=>221|197=>217|120=>250|152=>249|260=>244|137=>266|119=>267|224=>247|225=>246|217=>245|266=>264|n=>n,fun|9=>9|4=>4|3=>3|5=>5|117=>259|116=>258|0=>0|124=>262|21=>21|105=>293|46=>212|119=>333|139=>336|138=>335|n=>n,fun|3=>1|4=>2|n=>n⟩
theorem Tryz.trimL:Go.Proofs.Lays.n160 Tryz.prog Tryz.trimL_ren:={
 mixed:=by kernel_rfl
 f119:=Tryz.func267.trans (congrArg some (by kernel_rfl))
 f120:=Tryz.func250.trans (congrArg some (by kernel_rfl))
 f137:=Tryz.func266.trans (congrArg some (by kernel_rfl))
 f151:=Tryz.func221.trans (congrArg some (by kernel_rfl))
 f152:=Tryz.func249.trans (congrArg some (by kernel_rfl))
 f160:=Tryz.func154.trans (congrArg some (by kernel_rfl))
 f197:=Tryz.func217.trans (congrArg some (by kernel_rfl))
 f217:=Tryz.func245.trans (congrArg some (by kernel_rfl))
 f224:=Tryz.func247.trans (congrArg some (by kernel_rfl))
 f225:=Tryz.func246.trans (congrArg some (by kernel_rfl))
 f227:=Tryz.func185.trans (congrArg some (by kernel_rfl))
 f228:=Tryz.func220.trans (congrArg some (by kernel_rfl))
 f231:=Tryz.func183.trans (congrArg some (by kernel_rfl))
 f232:=Tryz.func184.trans (congrArg some (by kernel_rfl))
 f233:=Tryz.func186.trans (congrArg some (by kernel_rfl))
 f234:=Tryz.func187.trans (congrArg some (by kernel_rfl))
 f235:=Tryz.func188.trans (congrArg some (by kernel_rfl))
 f236:=Tryz.func189.trans (congrArg some (by kernel_rfl))
 f260:=Tryz.func244.trans (congrArg some (by kernel_rfl))
 f266:=Tryz.func264.trans (congrArg some (by kernel_rfl))
 f271:=Tryz.func222.trans (congrArg some (by kernel_rfl))
 t0:=Tryz.underlying0
 a0:=Tryz.isAgg0
 z0:=Tryz.sizeOf0
 v0:=Tryz.zeroValue0
 t3:=Tryz.underlying3
 a3:=Tryz.isAgg3
 z3:=Tryz.sizeOf3
 v3:=Tryz.zeroValue3
 t4:=Tryz.underlying4
 a4:=Tryz.isAgg4
 z4:=Tryz.sizeOf4
 v4:=Tryz.zeroValue4
 t5:=Tryz.underlying5
 a5:=Tryz.isAgg5
 z5:=Tryz.sizeOf5
 v5:=Tryz.zeroValue5
 t9:=Tryz.underlying9
 a9:=Tryz.isAgg9
 z9:=Tryz.sizeOf9
 v9:=Tryz.zeroValue9
 t21:=Tryz.underlying21
 a21:=Tryz.isAgg21
 z21:=Tryz.sizeOf21
 v21:=Tryz.zeroValue21
 t46:=Tryz.underlying212
 a46:=Tryz.isAgg212
 z46:=Tryz.sizeOf212
 v46:=Tryz.zeroValue212
 t105:=Tryz.underlying293
 a105:=Tryz.isAgg293
 z105:=Tryz.sizeOf293
 v105:=Tryz.zeroValue293
 t116:=Tryz.underlying258
 a116:=Tryz.isAgg258
 z116:=Tryz.sizeOf258
 t117:=Tryz.underlying259
 a117:=Tryz.isAgg259
 z117:=Tryz.sizeOf259
 v117:=Tryz.zeroValue259
 t119:=Tryz.underlying333
 a119:=Tryz.isAgg333
 z119:=Tryz.sizeOf333
 t124:=Tryz.underlying262
 a124:=Tryz.isAgg262
 z124:=Tryz.sizeOf262
 v124:=Tryz.zeroValue262
 t138:=Tryz.underlying335
 a138:=Tryz.isAgg335
 z138:=Tryz.sizeOf335
 v138:=Tryz.zeroValue335
 t139:=Tryz.underlying336
 a139:=Tryz.isAgg336
 z139:=Tryz.sizeOf336
 v139:=Tryz.zeroValue336
 g3:=by kernel_rfl
 g4:=by kernel_rfl}
def Tryz.trimLeftL_ren:Go.Shelf.Ren:=⟨fun|161=>161|231=>183|227=>185|233=>186|235=>188|228=>220|197=>217|151=>221|260=>244|152=>249|137=>266|119=>267|224=>247|225=>246|217=>245|266=>264|n=>n,fun|9=>9|4=>4|3=>3|5=>5|117=>259|116=>258|0=>0|124=>262|105=>293|21=>21|119=>333|46=>212|139=>336|138=>335|n=>n,fun|3=>1|4=>2|n=>n⟩
theorem Tryz.trimLeftL:Go.Proofs.Lays.n161 Tryz.prog Tryz.trimLeftL_ren:={
 mixed:=by kernel_rfl
 f119:=Tryz.func267.trans (congrArg some (by kernel_rfl))
 f137:=Tryz.func266.trans (congrArg some (by kernel_rfl))
 f151:=Tryz.func221.trans (congrArg some (by kernel_rfl))
 f152:=Tryz.func249.trans (congrArg some (by kernel_rfl))
 f161:=Tryz.func161.trans (congrArg some (by kernel_rfl))
 f197:=Tryz.func217.trans (congrArg some (by kernel_rfl))
 f217:=Tryz.func245.trans (congrArg some (by kernel_rfl))
 f224:=Tryz.func247.trans (congrArg some (by kernel_rfl))
 f225:=Tryz.func246.trans (congrArg some (by kernel_rfl))
 f227:=Tryz.func185.trans (congrArg some (by kernel_rfl))
 f228:=Tryz.func220.trans (congrArg some (by kernel_rfl))
 f231:=Tryz.func183.trans (congrArg some (by kernel_rfl))
 f233:=Tryz.func186.trans (congrArg some (by kernel_rfl))
 f235:=Tryz.func188.trans (congrArg some (by kernel_rfl))
 f260:=Tryz.func244.trans (congrArg some (by kernel_rfl))
 f266:=Tryz.func264.trans (congrArg some (by kernel_rfl))
 t0:=Tryz.underlying0
 a0:=Tryz.isAgg0
 z0:=Tryz.sizeOf0
 v0:=Tryz.zeroValue0
 t3:=Tryz.underlying3
 a3:=Tryz.isAgg3
 z3:=Tryz.sizeOf3
 v3:=Tryz.zeroValue3
 t4:=Tryz.underlying4
 a4:=Tryz.isAgg4
 z4:=Tryz.sizeOf4
 v4:=Tryz.zeroValue4
 t5:=Tryz.underlying5
 a5:=Tryz.isAgg5
 z5:=Tryz.sizeOf5
 v5:=Tryz.zeroValue5
 t9:=Tryz.underlying9
 a9:=Tryz.isAgg9
 z9:=Tryz.sizeOf9
 v9:=Tryz.zeroValue9
 t21:=Tryz.underlying21
 a21:=Tryz.isAgg21
 z21:=Tryz.sizeOf21
 v21:=Tryz.zeroValue21
 t46:=Tryz.underlying212
 a46:=Tryz.isAgg212
 z46:=Tryz.sizeOf212
 v46:=Tryz.zeroValue212
 t105:=Tryz.underlying293
 a105:=Tryz.isAgg293
 z105:=Tryz.sizeOf293
 v105:=Tryz.zeroValue293
 t116:=Tryz.underlying258
 a116:=Tryz.isAgg258
 z116:=Tryz.sizeOf258
 t117:=Tryz.underlying259
 a117:=Tryz.isAgg259
 z117:=Tryz.sizeOf259
 v117:=Tryz.zeroValue259
 t119:=Tryz.underlying333
 a119:=Tryz.isAgg333
 z119:=Tryz.sizeOf333
 t124:=Tryz.underlying262
 a124:=Tryz.isAgg262
 z124:=Tryz.sizeOf262
 v124:=Tryz.zeroValue262
 t138:=Tryz.underlying335
 a138:=Tryz.isAgg335
 z138:=Tryz.sizeOf335
 v138:=Tryz.zeroValue335
 t139:=Tryz.underlying336
 a139:=Tryz.isAgg336
 z139:=Tryz.sizeOf336
 v139:=Tryz.zeroValue336
 g3:=by kernel_rfl
 g4:=by kernel_rfl}
def Tryz.crL_ren:Go.Shelf.Ren:=⟨fun|151=>221|152=>249|137=>266|119=>267|224=>247|225=>246|217=>245|266=>264|n=>n,fun|9=>9|21=>21|4=>4|3=>3|5=>5|0=>0|46=>212|n=>n,fun|n=>n⟩
theorem Tryz.crL:Go.Proofs.Lays.n151 Tryz.prog Tryz.crL_ren:={
 mixed:=by kernel_rfl
 f119:=Tryz.func267.trans (congrArg some (by kernel_rfl))
 f137:=Tryz.func266.trans (congrArg some (by kernel_rfl))
 f151:=Tryz.func221.trans (congrArg some (by kernel_rfl))
 f152:=Tryz.func249.trans (congrArg some (by kernel_rfl))
 f217:=Tryz.func245.trans (congrArg some (by kernel_rfl))
 f224:=Tryz.func247.trans (congrArg some (by kernel_rfl))
 f225:=Tryz.func246.trans (congrArg some (by kernel_rfl))
 f266:=Tryz.func264.trans (congrArg some (by kernel_rfl))
 t0:=Tryz.underlying0
 a0:=Tryz.isAgg0
 z0:=Tryz.sizeOf0
 v0:=Tryz.zeroValue0
 t3:=Tryz.underlying3
 a3:=Tryz.isAgg3
 z3:=Tryz.sizeOf3
 v3:=Tryz.zeroValue3
 t4:=Tryz.underlying4
 a4:=Tryz.isAgg4
 z4:=Tryz.sizeOf4
 v4:=Tryz.zeroValue4
 t5:=Tryz.underlying5
 a5:=Tryz.isAgg5
 z5:=Tryz.sizeOf5
 v5:=Tryz.zeroValue5
 t9:=Tryz.underlying9
 a9:=Tryz.isAgg9
 z9:=Tryz.sizeOf9
 v9:=Tryz.zeroValue9
 t21:=Tryz.underlying21
 a21:=Tryz.isAgg21
 z21:=Tryz.sizeOf21
 v21:=Tryz.zeroValue21
 t46:=Tryz.underlying212
 a46:=Tryz.isAgg212
 z46:=Tryz.sizeOf212
 v46:=Tryz.zeroValue212}
def Tryz.atoiL_ren:Go.Shelf.Ren:=⟨fun|172=>190|244=>223|245=>224|247=>251|279=>252|280=>253|281=>254|282=>255|287=>268|316=>269|171=>271|205=>270|321=>273|322=>274|243=>275|246=>277|283=>279|284=>280|285=>281|286=>282|129=>209|317=>284|318=>285|319=>286|320=>287|337=>289|338=>290|n=>n,fun|9=>9|3=>3|75=>264|76=>265|4=>4|5=>5|167=>320|37=>220|0=>0|85=>321|2=>2|168=>323|53=>174|175=>339|46=>212|210=>343|127=>347|145=>350|143=>348|21=>21|171=>352|173=>354|212=>357|51=>288|20=>20|213=>358|232=>360|233=>361|80=>149|n=>n,fun|15=>3|16=>4|17=>5|18=>6|19=>7|n=>n⟩
theorem Tryz.atoiL:Go.Proofs.Lays.n172 Tryz.prog Tryz.atoiL_ren:={
 mixed:=by kernel_rfl
 f129:=Tryz.func209.trans (congrArg some (by kernel_rfl))
 f171:=Tryz.func271.trans (congrArg some (by kernel_rfl))
 f172:=Tryz.func190.trans (congrArg some (by kernel_rfl))
 f205:=Tryz.func270.trans (congrArg some (by kernel_rfl))
 f243:=Tryz.func275.trans (congrArg some (by kernel_rfl))
 f244:=Tryz.func223.trans (congrArg some (by kernel_rfl))
 f245:=Tryz.func224.trans (congrArg some (by kernel_rfl))
 f246:=Tryz.func277.trans (congrArg some (by kernel_rfl))
 f247:=Tryz.func251.trans (congrArg some (by kernel_rfl))
 f279:=Tryz.func252.trans (congrArg some (by kernel_rfl))
 f280:=Tryz.func253.trans (congrArg some (by kernel_rfl))
 f281:=Tryz.func254.trans (congrArg some (by kernel_rfl))
 f282:=Tryz.func255.trans (congrArg some (by kernel_rfl))
 f283:=Tryz.func279.trans (congrArg some (by kernel_rfl))
 f284:=Tryz.func280.trans (congrArg some (by kernel_rfl))
 f285:=Tryz.func281.trans (congrArg some (by kernel_rfl))
 f286:=Tryz.func282.trans (congrArg some (by kernel_rfl))
 f287:=Tryz.func268.trans (congrArg some (by kernel_rfl))
 f316:=Tryz.func269.trans (congrArg some (by kernel_rfl))
 f317:=Tryz.func284.trans (congrArg some (by kernel_rfl))
 f318:=Tryz.func285.trans (congrArg some (by kernel_rfl))
 f319:=Tryz.func286.trans (congrArg some (by kernel_rfl))
 f320:=Tryz.func287.trans (congrArg some (by kernel_rfl))
 f321:=Tryz.func273.trans (congrArg some (by kernel_rfl))
 f322:=Tryz.func274.trans (congrArg some (by kernel_rfl))
 f337:=Tryz.func289.trans (congrArg some (by kernel_rfl))
 f338:=Tryz.func290.trans (congrArg some (by kernel_rfl))
 t0:=Tryz.underlying0
 a0:=Tryz.isAgg0
 z0:=Tryz.sizeOf0
 v0:=Tryz.zeroValue0
 t2:=Tryz.underlying2
 a2:=Tryz.isAgg2
 z2:=Tryz.sizeOf2
 v2:=Tryz.zeroValue2
 t3:=Tryz.underlying3
 a3:=Tryz.isAgg3
 z3:=Tryz.sizeOf3
 v3:=Tryz.zeroValue3
 t4:=Tryz.underlying4
 a4:=Tryz.isAgg4
 z4:=Tryz.sizeOf4
 v4:=Tryz.zeroValue4
 t5:=Tryz.underlying5
 a5:=Tryz.isAgg5
 z5:=Tryz.sizeOf5
 v5:=Tryz.zeroValue5
 t9:=Tryz.underlying9
 a9:=Tryz.isAgg9
 z9:=Tryz.sizeOf9
 v9:=Tryz.zeroValue9
 t20:=Tryz.underlying20
 a20:=Tryz.isAgg20
 z20:=Tryz.sizeOf20
 v20:=Tryz.zeroValue20
 t21:=Tryz.underlying21
 a21:=Tryz.isAgg21
 z21:=Tryz.sizeOf21
 v21:=Tryz.zeroValue21
 t37:=Tryz.underlying220
 a37:=Tryz.isAgg220
 z37:=Tryz.sizeOf220
 v37:=Tryz.zeroValue220
 t46:=Tryz.underlying212
 a46:=Tryz.isAgg212
 z46:=Tryz.sizeOf212
 v46:=Tryz.zeroValue212
 t51:=Tryz.underlying288
 a51:=Tryz.isAgg288
 z51:=Tryz.sizeOf288
 v51:=Tryz.zeroValue288
 t53:=Tryz.underlying174
 a53:=Tryz.isAgg174
 z53:=Tryz.sizeOf174
 v53:=Tryz.zeroValue174
 t75:=Tryz.underlying264
 a75:=Tryz.isAgg264
 z75:=Tryz.sizeOf264
 v75:=Tryz.zeroValue264
 t76:=Tryz.underlying265
 a76:=Tryz.isAgg265
 z76:=Tryz.sizeOf265
 v76:=Tryz.zeroValue265
 t85:=Tryz.underlying321
 a85:=Tryz.isAgg321
 z85:=Tryz.sizeOf321
 v85:=Tryz.zeroValue321
 t127:=Tryz.underlying347
 a127:=Tryz.isAgg347
 z127:=Tryz.sizeOf347
 v127:=Tryz.zeroValue347
 t143:=Tryz.underlying348
 a143:=Tryz.isAgg348
 z143:=Tryz.sizeOf348
 v143:=Tryz.zeroValue348
 t145:=Tryz.underlying350
 a145:=Tryz.isAgg350
 z145:=Tryz.sizeOf350
 v145:=Tryz.zeroValue350
 t167:=Tryz.underlying320
 a167:=Tryz.isAgg320
 z167:=Tryz.sizeOf320
 v167:=Tryz.zeroValue320
 t168:=Tryz.underlying323
 a168:=Tryz.isAgg323
 z168:=Tryz.sizeOf323
 v168:=Tryz.zeroValue323
 t171:=Tryz.underlying352
 a171:=Tryz.isAgg352
 z171:=Tryz.sizeOf352
 v171:=Tryz.zeroValue352
 t173:=Tryz.underlying354
 a173:=Tryz.isAgg354
 z173:=Tryz.sizeOf354
 v173:=Tryz.zeroValue354
 t175:=Tryz.underlying339
 a175:=Tryz.isAgg339
 z175:=Tryz.sizeOf339
 v175:=Tryz.zeroValue339
 t210:=Tryz.underlying343
 a210:=Tryz.isAgg343
 z210:=Tryz.sizeOf343
 v210:=Tryz.zeroValue343
 t212:=Tryz.underlying357
 a212:=Tryz.isAgg357
 z212:=Tryz.sizeOf357
 v212:=Tryz.zeroValue357
 t213:=Tryz.underlying358
 a213:=Tryz.isAgg358
 z213:=Tryz.sizeOf358
 t232:=Tryz.underlying360
 a232:=Tryz.isAgg360
 z232:=Tryz.sizeOf360
 v232:=Tryz.zeroValue360
 t233:=Tryz.underlying361
 a233:=Tryz.isAgg361
 z233:=Tryz.sizeOf361
 v233:=Tryz.zeroValue361
 g15:=by kernel_rfl
 g16:=by kernel_rfl
 g17:=by kernel_rfl
 g18:=by kernel_rfl
 g19:=by kernel_rfl}
end Go.Proofs
namespace Go.Proofs.YtglbkodmmogomaaGreatDoor
open List Go.Proofs.Tryz
section
open Go Go.RowKit
attribute [local irreducible] dI
theorem GX (w:World)(e:TypeId)(s:ByteArray):ε η w (Lib.bytesWorld w e s):=
 .of_below (Joins.below_bytesWorld _ w e s (ξ _))
def PW (s:ByteArray)(most:Nat):Option Int:=if(runes s).all (fun p=>Ih p.2)=true/\0<s.size/\s.size<=most/\s.size<=18 then Lib.atoi s.data.toList else none
theorem Tn (s:ByteArray)(most:Nat)(hm:most<=1000)(n:Int)(hok:PW s most=some n)(w:World):Calls prog 157 #[.string s,.int .i64 (most:Int)] w (Gives w (.tuple #[.int .i64 n,.bool true])):=by
 obtain⟨w0,hrun,hit,hk0,hs0⟩:=kG (P:=prog) w 9 s underlying9;have hlen:=jg s;unfold PW at hok;have hc:(runes s).all (fun p=>Ih p.2)=true/\0<s.size/\s.size<=most/\s.size<=18:=by
  by_cases h:(runes s).all (fun p=>Ih p.2)=true/\0<s.size/\s.size<=most/\s.size<=18
  ·exact h
  ·rw[if_neg h]at hok;cases hok
 rw[if_pos hc]at hok;obtain⟨h1,h2,h3,h4⟩:=hc;have hne: ¬s=ByteArray.empty:=fun e=>(by rw[e]at h2;exact absurd h2 (by decide));have hst:s.toList.isEmpty=false:=by
  have h0:(s.toList==ByteArray.empty.toList)=false:=(by rw[<-beq_toListBytes,Dl];exact decide_eq_false hne);have h1:ByteArray.empty.toList=[]:=(by simp[ByteArray.toList,ByteArray.toList.loop]);rw[h1]at h0
  cases hl:s.toList with
  |nil=>rw[hl]at h0;cases h0
  |cons b l=>rfl
 have hgt: ¬(most<s.size):=(by omega);have ca: ∀W,Calls prog 190 #[.string s] W fun e w'=>e= .returned (.tuple #[.int .i64 n,.nilIface])/\ ∃t,w'=Lib.bytesWorld W 5 t:=fun W=>Any.strconv_Atoi atoiL s n h4 hok W;have H:=γ (θ hit (θ hk0 (all_eq_true.1 h1)));clear hit hk0 hs0 h1 hok hne;go_enter func157,ntmps157;go_wp2;go_loopg [5] (runes s).length (fun k i wr=> ∃left,nC wr w.heap.size s left/\left.length=k/\(∀q∈left,q∈runes s)/\i= .bool false/\ε η w wr)
 case atStart=>exact⟨runes s,H.o.1,rfl,fun q h=>h,rfl,H.o.2.1⟩
 case round=>
  obtain⟨left,hit,hk,hall,rfl,hk1⟩:=hrel
  rcases hit.next (P:=prog) 0 with⟨rfl,hrun⟩|⟨p,left',w2,hp,hrun,hit2,hk2,hs2⟩
  ·clear hit
   have KK:=γ hk1;clear hk1 hall hk;have ca:=ca wr;go_wp2_with fail;refine ca.mono ?_;rintro e w2 ⟨rfl,t,hw2⟩;have k2:ε η wr w2:=(by rw[hw2];exact GX _ _ _);have F:=γ (show Gives w (.tuple #[.int .i64 n,.bool true]) (.returned (.tuple #[.int .i64 n,.bool true])) w2 from⟨rfl,KK.o.trans k2⟩);clear k2 hw2;go_wp2;go_ret2;exact F.o
  ·clear hit
   have hin:=hall p (by rw[hp];simp);have hd:=H.o.2.2 p hin;have hpp:=(Fb hin).2;unfold Ih at hd;simp only[Φ,decide_eq_true_eq]at hd;have b1: ¬(p.2:Int)<48:=(by omega);have b2: ¬(57:Int)<(p.2:Int):=(by omega);have hk3:ε η w w2:=hk1.new hk2 (fun i hi e=>by unfold one at e;omega);have hm:left'.length<gk:=(by rw[hp]at hk;simp at hk;omega);have G:=γ (θ hit2 (θ hk3 (θ (show∀q∈left',q∈runes s from fun q hq=>hall q (by rw[hp];simp[hq])) hm)));clear hit2 hk3 hm hp hk2 hs2 hall hd hin hk hk1;go_wp2;go_roundg left'.length
   case rel=>exact⟨left',G.o.1,rfl,G.o.2.2.1,rfl,G.o.2.1⟩
   case measure=>exact G.o.2.2.2
def su (s:ByteArray):Bool:=(Lib.trimS s.data.toList [32,9]).isEmpty||(match s.data.toList with|b::_=>b==35|[]=>false)
theorem Gi (s:ByteArray)(hs:s.size<=maxLen)(w:World):Calls prog 123 #[.string s] w (Gives w (.bool (su s))):=by
 have ct:Calls prog 154 #[.string s,.string ⟨#[32,9]⟩] w fun e w'=>e= .returned (.string ⟨(Lib.trimS s.data.toList [32,9]).toArray⟩)/\Below w.heap.size w w':=
  Any.strings_Trim_laid trimL (by kernel_rfl) s ⟨#[32,9]⟩ w (by unfold maxLen at hs;omega) (by decide) (ascii_of_all (by decide))
 obtain⟨tl,htl⟩:=acu (Lib.trimS s.data.toList [32,9]);rw[htl]at ct
 cases htE:tl.isEmpty with
 |true=>have hsp:su s=true:=(by unfold su;rw[htl,htE];rfl);rw[hsp];clear htl hsp;go_enter func123,ntmps123;go_wp2_with fail;refine ct.mono ?_;rintro e w2 ⟨rfl,k2⟩;have F:=γ (ε.of_below (S:=η) k2);clear k2 ct;go_wp2;go_ret;exact⟨rfl,F.o⟩
 |false=>
  obtain⟨b,l,hbl⟩: ∃b l,s.data.toList=b::l:=by
   cases hd:s.data.toList with
   |nil=>rw[hd]at htl;have:tl=[]:=(by rw[<-htl];decide);rw[this]at htE;cases htE
   |cons b l=>exact⟨b,l,rfl⟩
  have hsp:su s=(b==35):=(by unfold su;rw[htl,htE,hbl];rfl);rw[hsp];have hsz:0<s.size:=(by have h1:s.size=s.data.toList.length:=(by rw[Array.length_toList];rfl);rw[h1,hbl];exact Nat.succ_pos _);have hb0:s[0]'hsz=b:=(by show s.data[0]'_=b;have h2:s.data.toList[0]?=some b:=(by rw[hbl];rfl);rw[Array.getElem?_toList]at h2;exact(κ.1 h2).2);have HB:=γ hb0;have aiL:(((b.toNat:Nat):Int)==35)=(b==35):=by
   rw[Bool.eq_iff_iff];simp only[beq_iff_eq];constructor
   ·intro h
    have h1:b.toNat=35:=(by omega);exact UInt8.toNat_inj.1 h1
   ·intro h;rw[h];rfl
  clear htl hsp hbl hb0;go_enter func123,ntmps123;go_wp2_with fail;refine ct.mono ?_;rintro e w2 ⟨rfl,k2⟩;have F:=γ (ε.of_below (S:=η) k2);clear k2 ct;go_wp2;go_ret;refine⟨rC ?_,F.o⟩;rw[HB.o];exact aiL
theorem Rf {nodes:List JN}{uid:ByteArray}{k:Nat}{d:JN}(hd:nodes[k]?=some d)(hu:d.uid=uid)(hp: ∀m e,m<k->nodes[m]?=some e->e.uid≠uid):bJ nodes uid=(k:Int):=by have h:nodes.findIdx? (fun d=>decide (d.uid=uid))=some k:=(by rw[findIdx?_eq_some_iff_getElem];obtain⟨hk,e⟩:=μ.1 hd;refine⟨hk,by rw[e];exact decide_eq_true hu,fun j hj=>?_⟩;have:=hp j _ hj (ι (by omega));simpa using this);unfold bJ;rw[h]
theorem Q9 {nodes:List JN}{uid:ByteArray}(hp: ∀m e,m<nodes.length->nodes[m]?=some e->e.uid≠uid):bJ nodes uid= -1:=by have h:nodes.findIdx? (fun d=>decide (d.uid=uid))=none:=(by rw[findIdx?_eq_none_iff];intro x hx;obtain⟨m,hm⟩:=getElem?_of_mem hx;exact decide_eq_false (hp m x (μ.1 hm).1 hm));unfold bJ;rw[h]
theorem ZQ (d:JN)(a:Array Value)(uid:ByteArray)(B:Nat)(w:World)(h:oq w a d)(hc:w.cell? ⟨B,0,none⟩=some (.string uid)):
 Calls prog 92 #[.agg a,.pointer (some ⟨B,0,none⟩)] w (Gives w (.bool (decide (d.uid=uid)))):=by
 obtain⟨pi,ci,p,cap,rfl,_⟩:=h;have kA:ε η w (w.alloc (.cells (bQ d pi ci p cap) 42)):=δ.alloc _;have c1:=kA.cell (p:=⟨B,0,none⟩) id hc;have HS:=γ (str_eq d.uid uid);go_enter func92,ntmps92;go_wp2;go_ret;exact⟨by first|exact dw HS.o|exact rC rfl|rfl,kA⟩
theorem ZP (nodes:List JN)(v:Value)(uid:ByteArray)(B:Nat)(w:World)(h:iR w v nodes)(hc:w.cell? ⟨B,0,none⟩=some (.string uid)):
 Calls prog 91 #[v,.func (.func 92) #[] #[.pointer (some ⟨B,0,none⟩)]] w (Gives w (.int .i64 (bJ nodes uid))):=by
 obtain⟨na,cap,rfl,h1,h2,h3⟩:=h.at;unfold maxLen at h2;have H3:=γ (θ h3 hc);clear h3 h hc;go_enter func91,ntmps91;go_wp2;go_loopg [8] nodes.length (fun g vi wr=> ∃k:Nat,k<=nodes.length/\vi= .int .i64 (k:Int)/\nodes.length-k<=g/\ε η w wr/\ ∀m e,m<k->nodes[m]?=some e->e.uid≠uid)
 case atStart=>exact⟨0,by omega,rfl,by omega,ε.refl _ _,fun m e hm=>by omega⟩
 case round=>
  obtain⟨k,hk,rfl,hg,hkp,hno⟩:=hrel;by_cases hlt:k<nodes.length
  ·obtain⟨d,hd⟩: ∃d,nodes[k]?=some d:=⟨_,ι hlt⟩
   obtain⟨b,off,pi,ci,p,cap',rfl,hcc,hj⟩:=H3.o.1 k d hd;obtain⟨c0,c1,c2,c3,c4,c5,c6⟩:=hcc.kept hkp id;have cc:=ZQ d _ uid B wr (hj.pure hkp) (hkp.cell id H3.o.2);have G:=γ (θ hg (θ hkp (θ hd hno)));clear hg hkp hd hno hj hcc H3;by_cases hu:d.uid=uid
   ·rw[decide_eq_true hu]at cc
    have F:=γ (Rf G.o.2.2.1 hu G.o.2.2.2);clear hu;go_wp2_with (go_at_call 92;refine cc.mono ?_;rintro e w2 ⟨rfl,k2⟩);go_ret;exact⟨gV F.o.symm,G.o.2.1.trans k2⟩
   ·rw[decide_eq_false hu]at cc
    have F:=γ (show∀m e,m<k+1->nodes[m]?=some e->e.uid≠uid from fun m e hm he=>by
     by_cases h:m<k
     ·exact G.o.2.2.2 m e h he
     ·have e1:m=k:=by omega
      subst e1;rw[G.o.2.2.1]at he
      injection he with he
      rw[<-he];exact hu)
    clear hu;go_wp2_with (go_at_call 92;refine cc.mono ?_;rintro e w2 ⟨rfl,k2⟩);go_roundg (nodes.length-(k+1))
    case rel=>exact⟨k+1,by omega,by go_num,ξ _,G.o.2.1.trans k2,F.o⟩
    case measure=>have:=G.o.1;omega
  ·have e1:k=nodes.length:=by omega
   subst e1;have F:=γ (θ (Q9 hno) hkp);clear hno hkp;go_wp2;go_ret;exact⟨gV F.o.1.symm,F.o.2⟩
theorem Q8 (j:Jb)(a:Array Value)(uid:ByteArray)(w:World)(h:oh w a j):Calls prog 43 #[.agg a,.string uid] w (Gives w (.int .i64 (bJ j.nodes uid))):=by obtain⟨v,rfl,hn,hp⟩:=h;obtain⟨na,cap,rfl,h1,h2,h3⟩:=hn.at;have kA:ε η w ((w.alloc (.cells #[.int .i64 j.par,.slice na j.nodes.length cap] 24)).alloc (.cells #[.string uid] 9)):=(δ.alloc _).alloc _;have hB:((w.alloc (.cells #[.int .i64 j.par,.slice na j.nodes.length cap] 24)).alloc (.cells #[.string uid] 9)).cell? ⟨w.heap.size+1,0,none⟩=some (.string uid):=(by simp);have cc:=ZP j.nodes _ uid (w.heap.size+1) _ (hn.pure kA) hB;have K:=γ kA;clear h3 hn hp kA hB h2;go_enter func43,ntmps43;go_wp2_with fail;refine cc.mono ?_;rintro e w2 ⟨rfl,k2⟩;go_wp2;go_ret;exact⟨rfl,K.o.trans k2⟩
end
section
open Go
section
variable {P:Program} {ops:Array Oper} {C:World->Prop} {Q:Act->World->Prop}
def Lj (ops:Array Oper)(listed:Array Bool):Option Nat:=
 (range ops.size).find? fun k=>yA ops k&&(Region.ready .any ops listed).contains k&&Region.free .any ops listed k
def iO (P:Program)(ops:Array Oper)(C:World->Prop)(Q:Act->World->Prop):Nat->Array Bool->Act->World->Prop
 |0,listed,a,w=>C w/\(range ops.size).all (fun k=>listed.getD k true)=true/\Q a w
 |n+1,listed,a,w=>
  match Lj ops listed with
  |some k=>match ops[k]? with
   |none=>False
   |some o=> ∃v,(Region.wanted o (yielded ops a.tmps)=true/\(∀w',C w'->(execOp a.eval o).run P w'= .ok (.value v) w')\/Region.wanted o (yielded ops a.tmps)=false/\v=undef)/\iO P ops C Q n (listed.setIfInBounds k true) (a.put o.dst v) w
  |none=>Region.ready .any ops listed≠[]/\ ∀k∈Region.ready .any ops listed,∃o,ops[k]?=some o/\
    (if Region.wanted o (yielded ops a.tmps)=true then o.wp P a w (fun a' w'=>C w'/\iO P ops C Q n (listed.setIfInBounds k true) a' w') (mD Q)
     else iO P ops C Q n (listed.setIfInBounds k true) (a.put o.dst undef) w)
theorem vF (hs:Region.noSelect ops=true): ∀(n:Nat)(listed:Array Bool)(a:Act)(w:World),C w->iO P ops C Q n listed a w->zy P .any ops C false Q n listed a w
 |0,listed,a,w,hC,h=>by refine⟨fun _=>hC,fun k o hk=>?_,h.2.2⟩;have:=h.2.1;simp only[all_eq_true,mem_range]at this;exact this k (κ.1 hk).1
 |n+1,listed,a,w,hC,h=>by
  unfold iO at h;split at h
  ·rename_i k hk
   have hk2:=find?_some hk;simp only[Φ]at hk2;split at h
   ·exact h.elim
   ·rename_i o hok
    obtain⟨v,hv,hn⟩:=h;have hr:k∈Region.ready .any ops listed:=(by simpa using hk2.1.2);exact xG hok (Region.noSelect_spec hs) n listed a w (Region.free_spec hok hk2.2) hC (fun hb=>by cases hb) hr hv (vF hs n _ _ w hC hn)
  ·refine⟨hC,fun h0=>absurd h0 h.1,fun k hk=>?_⟩
   obtain⟨o,hok,h2⟩:=h.2 k hk;unfold wpOp;simp only[hok];by_cases hw:Region.wanted o (yielded ops a.tmps)=true
   ·simp only[hw,if_true]at h2⊢
    exact .inl (Oper.wp_mono (fun a' w' h'=>vF hs n _ a' w' h'.1 h'.2) h2)
   ·simp only[hw]at h2⊢
    exact vF hs n _ _ w hC h2
theorem qJ {id:Nat}{Q:Exit->Act->World->Prop}{a:Act}{w:World}(C:World->Prop)(hm:P.follows .mixedOrders=true)(hs:Region.noSelect ops=true)
 (hC:C w.drew) (h:iO P ops C (Q .normal) ops.size (Array.replicate ops.size false) a w.drew):(Code.region id ops true).wp P Q a w:=
 wp_region_any hm (zU (C:=C) (bar:=false) (Q:=Q .normal) (fun _ _ h=>h) _ _ _ _ (vF hs _ _ _ _ hC h))
theorem bG {n k:Nat}{listed:Array Bool}{a:Act}{w:World}{o:Oper}{v:Value}(hp:Lj ops listed=some k)(ho:ops[k]?=some o)(hw:Region.wanted o (yielded ops a.tmps)=true)
 (hv: ∀w',C w'->(execOp a.eval o).run P w'= .ok (.value v) w') (h:iO P ops C Q n (listed.setIfInBounds k true) (a.put o.dst v) w):iO P ops C Q (n+1) listed a w:=by
 unfold iO;rw[hp];simp only[ho];exact⟨v,.inl ⟨hw,hv⟩,h⟩
theorem dX {n k:Nat}{listed:Array Bool}{a:Act}{w:World}{o:Oper}(hp:Lj ops listed=none)(hr:Region.ready .any ops listed=[k])(ho:ops[k]?=some o)(hw:Region.wanted o (yielded ops a.tmps)=true)
 (h: ∀K:Act->World->Prop,(∀a' w',C w'->iO P ops C Q n (listed.setIfInBounds k true) a' w'->K a' w')->o.wp P a w K (mD Q)):iO P ops C Q (n+1) listed a w:=by
 unfold iO;rw[hp,hr];refine⟨by simp,fun j hj=>?_⟩;obtain rfl:j=k:=(by simpa using hj);refine⟨o,ho,?_⟩;rw[if_pos hw];exact h _ fun a' w' h1 h2=>⟨h1,h2⟩
theorem uJ {n i k:Nat}{listed:Array Bool}{a:Act}{w:World}{o o':Oper}(hp:Lj ops listed=none)(hr:Region.ready .any ops listed=[i,k])(ho:ops[i]?=some o)(hw:Region.wanted o (yielded ops a.tmps)=true)
 (ho':ops[k]?=some o') (hw':Region.wanted o' (yielded ops a.tmps)=true)
 (h: ∀K:Act->World->Prop,(∀a' w',C w'->iO P ops C Q n (listed.setIfInBounds i true) a' w'->K a' w')->o.wp P a w K (mD Q))
 (h': ∀K:Act->World->Prop,(∀a' w',C w'->iO P ops C Q n (listed.setIfInBounds k true) a' w'->K a' w')->o'.wp P a w K (mD Q)):iO P ops C Q (n+1) listed a w:=by
 unfold iO;rw[hp,hr];refine⟨by simp,fun j hj=>?_⟩;have hj:j=i\/j=k:=by simpa using hj
 rcases hj with rfl|rfl
 ·refine⟨o,ho,?_⟩
  rw[if_pos hw];exact h _ fun a' w' h1 h2=>⟨h1,h2⟩
 ·refine⟨o',ho',?_⟩
  rw[if_pos hw'];exact h' _ fun a' w' h1 h2=>⟨h1,h2⟩
theorem uK {listed:Array Bool}{a:Act}{w:World}(hl:(range ops.size).all (fun k=>listed.getD k true)=true)(hC:C w)(h:Q a w):iO P ops C Q 0 listed a w:=⟨hC,hl,h⟩
end
end
