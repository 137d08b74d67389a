/- Jobs that came in; the row's step beside listed variables, with the reach and the world's shape. -/
import Derived.Test.YtglbkodmmogomaaGreatDoorI15
import Derived.Deep.DeepHandedRow
import Derived.LaidMore
set_option linter.unusedVariables false
set_option linter.unusedSimpArgs false
set_option maxHeartbeats 1000000
set_option maxRecDepth 100000
namespace Go.Proofs.YtglbkodmmogomaaGreatDoor
section
open Go Go.RowKit Go.ChangeShapes Go.WideShapes Go.ChangeAt Go.Deep
section
variable {H:Type} {enc:TypeId×Value->H} {w:World}
theorem Vd {fuel:Nat}{cs:List Value}{x:DataW H×List MemPlace}(h:DataW.trod enc Tryz.prog w 0 (fun _=>true) true fuel 42 cs=some x): ∃d:JN,nO w cs.toArray d:=by
 obtain⟨xs,n,rfl,_,hl,hxl,hf⟩:=DataW.trod_struct Tryz.underlying42 h;rw[show Tryz.prog.cellsOf 42=7 by kernel_rfl]at hl
 match cs,hl with
 |[c0,c1,c2,c3,c4,c5,c6],_=>
  have g0:DataW.trod enc Tryz.prog w 0 (fun _=>true) true n 9 ([c0,c1,c2,c3,c4,c5,c6].drop 0|>.take (Tryz.prog.cellsOf 9))=xs[0]?:=hf 0 _ rfl;have g1:DataW.trod enc Tryz.prog w 0 (fun _=>true) true n 5 ([c0,c1,c2,c3,c4,c5,c6].drop 1|>.take (Tryz.prog.cellsOf 5))=xs[1]?:=hf 1 _ rfl;have g2:DataW.trod enc Tryz.prog w 0 (fun _=>true) true n 37 ([c0,c1,c2,c3,c4,c5,c6].drop 2|>.take (Tryz.prog.cellsOf 37))=xs[2]?:=hf 2 _ rfl;have g3:DataW.trod enc Tryz.prog w 0 (fun _=>true) true n 40 ([c0,c1,c2,c3,c4,c5,c6].drop 3|>.take (Tryz.prog.cellsOf 40))=xs[3]?:=hf 3 _ rfl;have g4:DataW.trod enc Tryz.prog w 0 (fun _=>true) true n 3 ([c0,c1,c2,c3,c4,c5,c6].drop 6|>.take (Tryz.prog.cellsOf 3))=xs[4]?:=hf 4 _ rfl;rw[show Tryz.prog.cellsOf 9=1 by kernel_rfl]at g0;rw[show Tryz.prog.cellsOf 5=1 by kernel_rfl]at g1;rw[show Tryz.prog.cellsOf 37=1 by kernel_rfl]at g2;rw[show Tryz.prog.cellsOf 40=3 by kernel_rfl]at g3;rw[show Tryz.prog.cellsOf 3=1 by kernel_rfl]at g4;simp only[List.drop_succ_cons,List.drop_zero,List.take_succ_cons,List.take_zero]at g0 g1 g2 g3 g4
  match xs,hxl with
  |[x0,x1,x2,x3,x4],_=>
   obtain⟨s,hs,_,hsz⟩:=DataW.trod_string Tryz.underlying9 g0;obtain⟨z1,hz1,_,hw1⟩:=DataW.trod_int Tryz.underlying5 g1;obtain⟨z4,hz4,_,hw4⟩:=DataW.trod_int Tryz.underlying3 g4
   injection hs with hs _
   injection hz1 with hz1 _
   injection hz4 with hz4 _
   subst hs hz1 hz4
   obtain⟨ai,ni,ci,rfl⟩: ∃a n cap,c2= .slice a n cap:=by
    rcases DataW.trod_slice Tryz.underlying37 g2 with⟨h,_⟩|⟨a,len,cap,_,_,_,_,h,_⟩
    ·injection h with h _;exact⟨_,_,_,h⟩
    ·injection h with h _;exact⟨_,_,_,h⟩
   obtain⟨l,rfl,hr,h64⟩:=Yl Tryz.underlying37 Tryz.underlying3 (by kernel_rfl) g2;obtain⟨ex,hex⟩:=Ym n _ _ g3;obtain⟨p,cap,he,_⟩:=hex.parts;have he':[c3,c4,c5].toArray= #[.int .u8 ex.op,.int .i64 ex.n,.slice p ex.args.length cap]:=he
   injection he' with he'
   injection he' with e3 he'
   injection he' with e4 he'
   injection he' with e5 he'
   subst e3 e4 e5;exact⟨⟨s,z1,l,ex,z4⟩,_,_,p,cap,rfl,hex,hr,h64,(zG hw1).1,(zG hw1).2,.zQ hw4,hsz⟩
theorem aaw {fuel:Nat}{cs:List Value}{x:DataW H×List MemPlace}(h:DataW.trod enc Tryz.prog w 0 (fun _=>true) true fuel 24 cs=some x): ∃j:Jb,lK w cs.toArray j:=by
 obtain⟨xs,n,rfl,_,hl,hxl,hf⟩:=DataW.trod_struct Tryz.underlying24 h;rw[show Tryz.prog.cellsOf 24=2 by kernel_rfl]at hl
 match cs,hl with
 |[c0,c1],_=>
  have g0:DataW.trod enc Tryz.prog w 0 (fun _=>true) true n 3 ([c0,c1].drop 0|>.take (Tryz.prog.cellsOf 3))=xs[0]?:=hf 0 _ rfl;have g1:DataW.trod enc Tryz.prog w 0 (fun _=>true) true n 22 ([c0,c1].drop 1|>.take (Tryz.prog.cellsOf 22))=xs[1]?:=hf 1 _ rfl;rw[show Tryz.prog.cellsOf 3=1 by kernel_rfl]at g0;rw[show Tryz.prog.cellsOf 22=1 by kernel_rfl]at g1;simp only[List.drop_succ_cons,List.drop_zero,List.take_succ_cons,List.take_zero]at g0 g1
  match xs,hxl with
  |[x0,x1],_=>
   obtain⟨z0,hz0,_,hw0⟩:=DataW.trod_int Tryz.underlying3 g0
   injection hz0 with hz0 _
   subst hz0
   obtain⟨a,ln,cap,rfl⟩: ∃a n cap,c1= .slice a n cap:=by
    rcases DataW.trod_slice Tryz.underlying22 g1 with⟨h,_⟩|⟨a,len,cap,_,_,_,_,h,_⟩
    ·injection h with h _;exact⟨_,_,_,h⟩
    ·injection h with h _;exact⟨_,_,_,h⟩
   obtain⟨ks,hl,hr,hel⟩:=sZ (k:=7) Tryz.underlying22 (by kernel_rfl) (by omega) g1;have each: ∀i,i<ln-> ∃d:JN,nO w ((ks.drop (i*7)).take 7).toArray d:=fun i hi=>(by obtain⟨m,y,hy⟩:=hel i hi;exact Vd hy);obtain⟨O,hO⟩:=choose_lt each;refine⟨⟨z0,(List.range ln).map O⟩,_,rfl,⟨ks,hr,by simpa using hl,fun i d hd=>?_⟩,.zQ hw0⟩;rw[abJ]at hd;obtain⟨i',hi',rfl⟩:=abP.1 hd;obtain⟨hlt,rfl⟩:=μ.1 hi';simp only[List.length_range]at hlt;simpa using hO i hlt
end
theorem RN {F:Nat}{fn:Func}{s:ChangeSpec}{laid:List (String×DataW Unit)}(hf:Tryz.prog.funcs[F]?=some fn)(hv:s.vars=[])(hvt:s.plain.varTypes Tryz.prog=[])(hr:fn.resultTypes= #[4])(hp:readB fn.params.toList=true)(hi:Tryz.prog.inits.idxOf? F=none)
 (hs: ∀(H:Type)(ds:List (DataW H)),ds.length=fn.params.toList.length->s.fn H ds={results:=[.lit (.bool true)],args:=ds})
 (walk: ∀(H:Type)(enc:TypeId×Value->H)(W:World)(base:Nat)(args:Array Value)(ds:List (DataW H))(p:List MemPlace),
   DataW.TrodAll enc Tryz.prog W 0 (fun _=>true) true fn.params.toList args.toList ds p->(∀(j:Nat) t v,fn.params[j]?=some t->args[j]?=some v->Value.okWide Tryz.prog W .any base t v)->
   W.noneFrozen p->(DataW.weightsEach Tryz.prog fn.params.toList ds).all (· <=reachBytes)=true->W.ShapedOpen Tryz.prog->Calls Tryz.prog F args W (Gives W (.bool true)))
 (os:Os) (started:os.Started) (H:Type) (enc:TypeId×Value->H)
 (witness: ∃(w:World)(tape:Tape)(i:Input),w.os=os/\(w.forCall tape i).Shaped Tryz.prog/\i.vars=[]/\Input.okWide Tryz.prog (w.forCall tape i) .any w.heap.size F i/\
   (OpenSpec.ofChange s).preRow enc Tryz.prog fn [] false laid (w.forCall tape i).memory i.args/\({}:Assume).holds Tryz.prog (lone (Frame.enter Tryz.prog F i.args .normal) [] (w.forCall tape i))):
 ReturnsInHanded {} Tryz.checked os F .any ((OpenSpec.ofChange s).preRow enc Tryz.prog fn [] false laid) (s.post enc Tryz.prog fn false true false false):=by
 refine returnsInHanded_of_row (C:=Tryz.checked) (s:=OpenSpec.ofChange s) (F:=fun _ _ _=>0) own started hi hf witness ?_;intro W base args ds gs before hval hW hcnd _ hsz _ hsh _;have hW':=hW;obtain⟨p,q,hA,hV,rfl,hfz,hnd⟩:=hW;have hv':(OpenSpec.ofChange s).vars=[]:=hv;rw[hv']at hV;obtain⟨rfl,rfl⟩:=trodVars_none hV;have hA':DataW.TrodAll enc Tryz.prog W 0 (fun _=>true) true fn.params.toList args.toList ds p:=hA;have hsz':(DataW.weightsEach Tryz.prog fn.params.toList ds).all (· <=reachBytes)=true:=(by have h1:(DataW.weightsEach Tryz.prog (fn.params.toList++s.plain.varTypes Tryz.prog) (ds++[])).all (· <=reachBytes)=true:=hsz;rw[hvt,List.append_nil,List.append_nil]at h1;exact h1);refine(walk H enc W base args ds p hA' hval (fun b o h=>hfz b o (List.mem_append_left _ h)) hsz' hsh).mono fun e W' ⟨he,k⟩=>?_;subst he;have bel:=k.below;obtain⟨ps',aeF⟩:=ZC bel fn.params.toList hp hA';have hlen:ds.length=fn.params.toList.length:=(trodAll_length hA').2;have hfn:=hs H (ds++[]) (by rw[List.append_nil];exact hlen);refine⟨_,rfl,ds,[],_,[],ps',[],hW',?_,?_,?_,bel.frame _,fun h=>by cases h⟩
 ·rw[hr];show DataW.TrodAll _ _ _ _ _ _ _ _ (s.fn H (ds++[])).results _;rw[hfn];exact trodAll_mk1 (shut_bool Tryz.underlying4 _)
 ·show DataW.TrodAll _ _ _ _ _ _ _ _ (s.fn H (ds++[])).args _;rw[hfn,List.append_nil];exact aeF
 ·have e1:((OpenSpec.ofChange s).at fun _ _ _=>0).vars=[]:=hv
  have e2:(((OpenSpec.ofChange s).at fun _ _ _=>0).fn H (ds++[]))={results:=[.lit (.bool true)],args:=ds++[]}:=hfn;rw[e2,e1];rfl
theorem Yu (w:World)(h:w.ShapedOpen Tryz.prog): ∃m,w.cell? ⟨0,0,none⟩=some (.int .i64 m):=
 cell_of_shapedOpen_int (t:=3) (zero:= #[.int .i64 0]) h (of_decide_eq_true (by kernel_rfl)) (by kernel_rfl) rfl (by kernel_rfl) (by kernel_rfl) Tryz.underlying3
end
section
open Go Go.RowKit
attribute [local irreducible] cZ
def afR (w:World)(e:Ending)(w':World):Prop:= ∃n:Int,e= .returned (.int .i64 n)/\1<=n/\n<=2000/\ε η w w'
theorem size_any: ∀(N:Nat)(x:Ex)(a:Array Value)(w:World),SizeOf.sizeOf x<=N->aC w a x->Calls Tryz.prog 83 #[.agg a] w (afR w)
 |0,x,_,_,h,_=>by cases x;simp at h
 |N+1,x,a,w,hN,h=>by
  obtain⟨p,cap,rfl,h0,h1,h2,h3,h4,h5⟩:=h.parts;have sub: ∀(i:Nat)(y:Ex),x.args[i]?=some y->SizeOf.sizeOf y<=N:=(by intro i y hy;obtain⟨op,n,args⟩:=x;have h1:=List.sizeOf_lt_of_mem (ς (show args[i]?=some y from hy));simp at hN;omega);have IH:=γ (fun y a w hy=>size_any N y a w hy);have SB:=γ sub;have H5:=γ h5;unfold maxLen at h4;clear h h5 sub hN;go_enter Tryz.func83,Tryz.ntmps83;go_wp2_with fail;obtain⟨W0,hW0⟩:=acf (w.alloc (.cells #[.int .u8 x.op,.int .i64 x.n,.slice p x.args.length cap] 40));have k0:ε η w W0:=(by rw[<-hW0];exact δ.alloc _);rw[hW0];have K0:=γ k0;clear hW0 k0;go_loopg [3,9] x.args.length (fun g vn vi wr=> ∃(k:Nat)(n:Int),k<=x.args.length/\vi= .int .i64 (k:Int)/\vn= .int .i64 n/\x.args.length-k<=g/\1<=n/\n<=4000/\ε η w wr)
  case atStart=>exact⟨0,1,by omega,rfl,rfl,by omega,by omega,by omega,K0.o⟩
  case round=>
   obtain⟨k,n,hkl,rfl,rfl,hg,hn1,hn2,hkp⟩:=hrel;by_cases hlt:k<x.args.length
   ·obtain⟨y,hy⟩: ∃y,x.args[k]?=some y:=⟨_,ι hlt⟩
    obtain⟨b,off,p',cap',rfl,q0,q1,q2,hy2⟩:=H5.o k y hy;have r0:=hkp.cell (p:=⟨b,off+k*3,none⟩) id q0;have r1:=hkp.cell (p:=⟨b,off+k*3+1,none⟩) id q1;have r2:=hkp.cell (p:=⟨b,off+k*3+2,none⟩) id q2;have G:=γ (θ hg (θ (aC.pure hkp hy2) (θ hkp (SB.o k y hy))));clear q0 q1 q2 hy hy2 hkp hg H5;by_cases hb:n<2000
    ·go_wp2_with fail
     have ka:ε η wr (wr.alloc (.cells #[.int .u8 y.op,.int .i64 y.n,.slice p' y.args.length cap'] 40)):=δ.alloc _;have c:=IH.o y _ (wr.alloc (.cells #[.int .u8 y.op,.int .i64 y.n,.slice p' y.args.length cap'] 40)) G.o.2.2.2 (aC.pure ka G.o.2.1);(with_reducible refine c.mono ?_);clear c;rintro e w2 ⟨m,rfl,hm1,hm2,k2⟩;have K2:=γ (G.o.2.2.1.trans (ka.trans k2));clear k2 ka;go_wp2_with fail;go_roundg (x.args.length-(k+1))
     case rel=>exact⟨k+1,n+m,by omega,by go_num,rfl,ξ _,by omega,by omega,K2.o⟩
     case measure=>have:=G.o.1;omega
    ·go_wp2_with fail
     go_roundg (x.args.length-(k+1))
     case rel=>exact⟨k+1,n,by omega,by go_num,rfl,ξ _,by omega,by omega,G.o.2.2.1.alloc _⟩
     case measure=>have:=G.o.1;omega
   ·have HK:=γ hkp
    clear hkp;by_cases hb:n<=2000
    ·have e:min n 2000=n:=by omega
     go_wp2_with fail;go_ret;exact⟨n,rfl,by omega,by omega,HK.o⟩
    ·have e:min n 2000=2000:=by omega
     go_wp2_with fail;go_ret;exact⟨2000,rfl,by omega,by omega,HK.o⟩
end
section
open Go Go.RowKit
theorem qM {a b:Bool}(h:a=b):Ending.returned (.bool a)= .returned (.bool b):=by rw[h]
theorem D6 (r:Nat):iW r=true↔(97<=(r:Int)/\(r:Int)<=122)\/(65<=(r:Int)/\(r:Int)<=90)\/(191<(r:Int)/\(r:Int)≠65533):=by unfold iW;simp only[Bool.or_eq_true,Φ,decide_eq_true_eq,bne_iff_ne,ne_eq];omega
theorem F7 (r:Nat):iE r=true↔iW r=true\/(48<=(r:Int)/\(r:Int)<=57)\/(r:Int)=45:=by unfold iE;simp only[Bool.or_eq_true,Φ,decide_eq_true_eq,beq_iff_eq];have e:r=45↔(r:Int)=45:=(by omega);have e1:48<=r/\r<=57↔48<=(r:Int)/\(r:Int)<=57:=(by omega);rw[or_assoc,e,e1]
theorem aaz {s:ByteArray}(hd: ∀q∈runes s,iE q.2=true)(hh: ∀q,(runes s).head?=some q->iW q.2=true):
 fB s=(decide (0<((runes s).length:Int))&&decide (((runes s).length:Int)<=24)):=by
 unfold fB
 cases e:runes s with
 |nil=>rfl
 |cons p l=>rw[e]at hd hh;show(iW p.2&&(p::l).all (fun q=>iE q.2)&&decide ((p::l).length<=24))=_;rw[hh p rfl,List.all_eq_true.2 hd,Bool.true_and,Bool.true_and,decide_eq_true (show 0<((p::l).length:Int) by simp),Bool.true_and];exact decide_eq_decide.2 (by omega)
theorem H9 {s:ByteArray}{done left:List (Nat×Nat)}{p:Nat×Nat}(h:runes s=done++p::left)(hp:(done=[]/\iW p.2=false)\/iE p.2=false):fB s=false:=by
 unfold fB;rw[h]
 rcases hp with⟨rfl,hp⟩|hp
 ·rw[List.nil_append,Ku,hp];rfl
 ·have: ∀l:List (Nat×Nat),p∈l->Ku l=false:=by
   intro l hl
   cases l with
   |nil=>rfl
   |cons q l=>have:(q::l).all (fun q=>iE q.2)=false:=List.all_eq_false.2 ⟨p,hl,by simp[hp]⟩;rw[Ku,this];simp
  exact this _ (by simp)
theorem FZ (r:Nat)(w:World):Calls Tryz.prog 162 #[.int .i32 (r:Int)] w fun e w'=>e= .returned (.bool (iW r))/\w=w':=by
 go_enter Tryz.func162,Tryz.ntmps162;go_wp2;all_goals
  go_ret;refine⟨qM ?_,rfl⟩;rw[Bool.eq_iff_iff,D6];simp only[Bool.or_eq_true,decide_eq_true_eq,bne_iff_ne,ne_eq,Bool.false_eq_true,true_iff,false_iff];omega
theorem YA (r:Nat)(w:World):Calls Tryz.prog 163 #[.int .i32 (r:Int)] w fun e w'=>e= .returned (.bool (iE r))/\w=w':=by
 have hr:=F7 r;go_enter Tryz.func163,Tryz.ntmps163;go_wp2_with (go_at_call 162;refine(FZ _ _).mono ?_;rintro e w' ⟨rfl,rfl⟩);all_goals
  go_ret;refine⟨qM ?_,rfl⟩;rw[Bool.eq_iff_iff,hr];simp only[Bool.or_eq_true,decide_eq_true_eq,beq_iff_eq,Bool.false_eq_true,true_or,false_or,true_and, *];try omega
theorem name_any (s:ByteArray)(hs:s.size<=maxLen)(w:World):Calls Tryz.prog 126 #[.string s] w fun e w'=>e= .returned (.bool (fB s))/\ε η w w':=by
 obtain⟨w0,hrun,hit,hk0,hs0⟩:=jQ (P:=Tryz.prog) w 9 s Tryz.underlying9;have hlen:=iM s;have H:=γ (θ hit (θ hk0 hs0));clear hit hk0 hs0;unfold maxLen at hs;go_enter Tryz.func126,Tryz.ntmps126;go_wp2;go_loopg [3] (runes s).length (fun k i wr=> ∃left done,mF wr w.heap.size s left/\runes s=done++left/\left.length=k/\i= .int .i64 ((done.length:Nat):Int)/\(∀q∈done,iE q.2=true)/\(∀q,done.head?=some q->iW q.2=true)/\ε η w wr)
 case atStart=>exact⟨runes s,[],H.o.1,rfl,rfl,rfl,by simp,by simp,H.o.2.1⟩
 case round=>
  obtain⟨left,done,hit,hall,hk,rfl,hd,hh,hk1⟩:=hrel;have A:=γ (θ hall (θ hd (θ hh (θ hk hk1))));clear hall hd hh hk hk1
  rcases hit.next (P:=Tryz.prog) 0 with⟨rfl,hrun⟩|⟨p,left',w2,hp,hrun,hit2,hk2,hs2⟩
  ·clear hit
   obtain⟨h1,h2,h3,h4,h5⟩:=A.o;rw[List.append_nil]at h1;subst h1;have F:=γ (aaz h2 h3);clear h2 h3 A;go_wp2;all_goals
    go_ret;refine⟨qM ?_,h5⟩;rw[F.o,Bool.eq_iff_iff];simp only[Φ,decide_eq_true_eq,Bool.false_eq_true,false_iff,iff_and_self, *];try omega
  ·clear hit
   have hk3:ε η w w2:=A.o.2.2.2.2.new hk2 (fun i hi e=>by unfold one at e;omega);have hl:runes s=done++p::left':=(by rw[A.o.1,hp]);have hstep:iE p.2=true->(done=[]->iW p.2=true)->(∀q∈done++[p],iE q.2=true)/\(∀q,(done++[p]).head?=some q->iW q.2=true):=fun g1 g2=>by
    refine⟨fun q hq=>?_,fun q hq=>?_⟩
    ·rcases abL.1 hq with hq|hq
     ·exact A.o.2.1 q hq
     ·rw[abQ.1 hq];exact g1
    ·cases done with
     |nil=>simp at hq;subst hq;exact g2 rfl
     |cons x d=>exact A.o.2.2.1 q (by simpa using hq)
   have hm:left'.length<gk:=(by have:=A.o.2.2.2.1;rw[hp]at this;simp at this;omega);have G:=γ (θ hit2 (θ hk3 (θ hl (θ hstep hm))));clear hit2 hk3 hl hstep hm hp hk2 hs2 A H hlen;go_wp2_with (first|(go_at_call 162;refine(FZ _ _).mono ?_;rintro e w' ⟨rfl,rfl⟩)|(go_at_call 163;refine(YA _ _).mono ?_;rintro e w' ⟨rfl,rfl⟩))
   ·rename_i h1 h2 h3
    go_ret;exact⟨qM (H9 G.o.2.2.1 (.inr (by simpa using h3))).symm,G.o.2.1⟩
   ·rename_i h1 h2 h3
    go_roundg left'.length
    case rel=>obtain⟨g1,g2⟩:=G.o.2.2.2.1 (by simpa using h3) (fun _=>h2);exact⟨left',done++[p],G.o.1,by rw[G.o.2.2.1];simp,rfl,by subst h1;rfl,g1,g2,G.o.2.1⟩
    case measure=>exact G.o.2.2.2.2
   ·rename_i h1 h2
    go_ret;exact⟨qM (H9 G.o.2.2.1 (.inl ⟨h1,by simpa using h2⟩)).symm,G.o.2.1⟩
   ·rename_i h1 h3
    go_ret;exact⟨qM (H9 G.o.2.2.1 (.inr (by simpa using h3))).symm,G.o.2.1⟩
   ·rename_i h1 h3
    have hlt:done.length<9223372036854775807:=(by have:=iM s;rw[G.o.2.2.1]at this;simp at this;omega);go_roundg left'.length
    case rel=>obtain⟨g1,g2⟩:=G.o.2.2.2.1 (by simpa using h3) (fun h=>absurd h h1);exact⟨left',done++[p],G.o.1,by rw[G.o.2.2.1];simp,rfl,by rw[show wrap64 ((done.length:Int)+1)=((done.length+1:Nat):Int) by unfold wrap64;omega,ν];rfl,g1,g2,G.o.2.1⟩
    case measure=>exact G.o.2.2.2.2
end
section
open Go Go.RowKit
attribute [local irreducible] cZ
abbrev Df:ByteArray:=ByteArray.empty
def zf (s:ByteArray):List (Nat×Nat)->ByteArray×ByteArray×Bool
 |[]=>(s,Df,false)
 |p::l=>if p.2=58 then(s.extract 0 p.1,s.extract (p.1+1) s.size,true)else zf s l
def jG (s:ByteArray):ByteArray×ByteArray×Bool:=zf s (runes s)
def pq (s:ByteArray):List (Nat×Nat)->Int->List ByteArray->Option (List ByteArray)
 |[],f,o=>if 0<=f then(if f<=s.size then some (o++[s.extract f.toNat s.size])else none)else some o
 |p::l,f,o=>
  if p.2=65533\/p.2<32/\p.2≠9 then none
  else if p.2=32\/p.2=9 then(if 0<=f then(if f<=p.1 then pq s l (-1) (o++[s.extract f.toNat p.1])else none)else pq s l (-1) o)
  else if f<0 then pq s l p.1 o else pq s l f o
def yY (s:ByteArray):Option (List ByteArray):=if 400<s.size then none else pq s (runes s) (-1) []
def GU (r:Nat):Bool:=decide (48<=r)&&decide (r<=57)
theorem wrapN {n:Nat}(h:n<=9223372036854775807):IntKind.i64.wrap ((n:Nat):Int)=((n:Nat):Int):=by rw[IntKind.wrap_i64];omega
theorem rv3 {a b a' b':ByteArray}{c c':Bool}(h1:a=a')(h2:b=b')(h3:c=c'):Ending.returned (.tuple #[.string a,.string b,.bool c])= .returned (.tuple #[.string a',.string b',.bool c']):=by rw[h1,h2,h3]
theorem yM (s:ByteArray): ∀(done left:List (Nat×Nat)),(∀q∈done,q.2≠58)->zf s (done++left)=zf s left
 |[],_,_=>rfl
 |q::done,left,h=>by rw[List.cons_append,zf,if_neg (h q (by simp))];exact yM s done left (fun x hx=>h x (by simp[hx]))
theorem zM (s:ByteArray)(hs:s.size<=maxLen)(w:World):Calls Tryz.prog 155 #[.string s] w fun e w'=>e= .returned (.tuple #[.string (jG s).1,.string (jG s).2.1,.bool (jG s).2.2])/\ε η w w':=by
 obtain⟨w0,hrun,hit,hk0,hs0⟩:=jQ (P:=Tryz.prog) w 9 s Tryz.underlying9;have hlen:=iM s;have H:=γ (θ hit (θ hk0 hs0));clear hit hk0 hs0;unfold maxLen at hs;go_enter Tryz.func155,Tryz.ntmps155;go_wp2;go_loopg [5] (runes s).length (fun k i wr=> ∃left done,mF wr w.heap.size s left/\runes s=done++left/\left.length=k/\(∀q∈done,q.2≠58)/\ε η w wr)
 case atStart=>exact⟨runes s,[],H.o.1,rfl,rfl,by simp,H.o.2.1⟩
 case round=>
  obtain⟨left,done,hit,hall,hk,hd,hk1⟩:=hrel;have A:=γ (θ hall (θ hd (θ hk hk1)));clear hall hd hk hk1
  rcases hit.next (P:=Tryz.prog) 0 with⟨rfl,hrun⟩|⟨p,left',w2,hp,hrun,hit2,hk2,hs2⟩
  ·clear hit
   have F:=γ (show jG s=(s,Df,false) by unfold jG;rw[A.o.1,yM s done [] A.o.2.1];rfl);go_wp2
   go_ret3
   exact⟨by rw[F.o];rfl,A.o.2.2.2⟩
  ·clear hit
   have hk3:ε η w w2:=A.o.2.2.2.new hk2 (fun i hi e=>by unfold one at e;omega);have hl:runes s=done++p::left':=(by rw[A.o.1,hp]);have hin:=EF (s:=s) (p:=p) (by rw[hl];simp);have hm:left'.length<gk:=(by have:=A.o.2.2.1;rw[hp]at this;simp at this;omega);obtain⟨hp1,hp2⟩:=hin;have G:=γ (θ hit2 (θ hk3 (θ hl hm)));clear hit2 hk3 hl hm hp hk2 hs2 H hlen;by_cases hc:p.2=58
   ·have F:=γ (show jG s=(s.extract 0 p.1,s.extract (p.1+1) s.size,true) by unfold jG;rw[G.o.2.2.1,yM s done _ A.o.2.1,zf,if_pos hc])
    have hc2:(p.2:Int)=58:=(by omega);have hp3:(p.1:Int)+1<=s.size:=(by omega);have hp4:p.1<=s.size:=(by omega);have hp5:p.1+1<=s.size:=(by omega);have hw1:IntKind.i64.wrap ((p.1:Int)+1)=((p.1+1:Nat):Int):=wrapN (n:=p.1+1) (by omega);clear A;go_wp2_with fail;refine ak [0,1,2,3,4,5,6,7,8,9] (fun _=>True) (by kernel_rfl) (by kernel_rfl) rfl trivial ?_;simp only[abU];iterate 10 (apply aj rfl rfl;(intro W hW;go_simp;rfl);go_frame)
    refine aG (fun _=>trivial) ?_;go_wp2_with fail
    go_ret3
    exact⟨by rw[F.o];exact rv3 rfl rfl rfl,G.o.2.1.drew⟩
   ·have hc2: ¬(p.2:Int)=58:=by omega
    go_wp2;go_roundg left'.length
    case rel=>
     refine⟨left',done++[p],G.o.1,by rw[G.o.2.2.1];simp,rfl,fun q hq=>?_,G.o.2.1⟩
     rcases abL.1 hq with hq|hq
     ·exact A.o.2.1 q hq
     ·rw[abQ.1 hq];exact hc
    case measure=>exact G.o.2.2.2
theorem H7 {w:World}{base e size n:Nat}{v:Value}{xs:List Value}(h:w.ownsRow base e size v n xs){b:Nat}(hb:v.ownBlock=some b):base<=b:=by
 rcases h.2 with⟨rfl,_⟩|⟨g,cap,cur,rfl,h1,_⟩
 ·cases hb
 ·cases hb;exact h1
theorem adJ {w:World}{base e size n:Nat}{v:Value}{xs:List Value}(h:w.ownsRow base e size v n xs): ∃a c,v= .slice a n c:=by
 rcases h.2 with⟨rfl,h0⟩|⟨g,cap,cur,rfl,_⟩
 ·exact⟨_,_,by rw[h0]⟩
 ·exact⟨_,_,rfl⟩
theorem U9 {T E bytes:Nat}{z x:Value}{i:TypeInfo}(hT:Tryz.prog.underlying T=some (.slice E))(hi:Tryz.prog.info? E=some i)(hz:i.zero=some z)(hs:i.size=1)(hb:i.bytes=bytes)(hzc:z.cells.size=1)(hx:x.oneCell'=true)
 {wr:World} {base m:Nat} {v:Value} {xs:List Value} (hown:wr.ownsRow base E 1 v m xs) (hm:m<=100000) (hbb:bytes<=1000) (hbase:base<=wr.heap.size) (ty:TypeId):
 ∃v' w',(Builtin.append_ #[T,T] ty #[v,.slice (some ⟨wr.heap.size,0,none⟩) 1 1]).run Tryz.prog (wr.alloc (.cells #[x] E))= .ok v' w'/\w'.ownsRow base E 1 v' (m+1) (xs++[x])/\ε (fun k=>base<=k) wr w':=by
 have kA:ε η wr (wr.alloc (.cells #[x] E)):=δ.alloc _;have hr:=Reads.lit wr [x] E 1 1 rfl (by unfold maxLen;omega);obtain⟨v',n',w',b1,b2,b3,b4,_⟩:=aW (P:=Tryz.prog) base T ty E i z 1 bytes hT hi hz hs hb hzc (by omega) (kA.owns hown (fun _ _ h=>h)) hr (by intro y hy;rw[abQ.1 hy];exact hx)
  (by
    simp only[List.length_singleton,Nat.mul_one]
    calc(m+1)*bytes<=100001*1000:=Nat.mul_le_mul (by omega) hbb
     _<=140737488355328:=by decide) (by simp;unfold maxLen;omega) (by have:=kA.size;omega)
 have hn:n'=m+1:=(by simpa using b3);subst hn;exact⟨v',w',b1,b2,kA.pure.trans (ε.grown b4 (fun k hk _=>H7 hown hk))⟩
theorem Tryz.info9: ∃i z,Tryz.prog.info? 9=some i/\i.zero=some z/\i.size=1/\i.bytes=16/\z.cells.size=1:=by have h:(Tryz.prog.info? 9).map (fun i=>(i.zero,i.size,i.bytes))=some (some (.string ByteArray.empty),1,16):=(by kernel_rfl);obtain⟨i,hi,hzz⟩:=abP.1 h;simp only[Prod.mk.injEq]at hzz;exact⟨i,_,hi,hzz.1,hzz.2.1,hzz.2.2,rfl⟩
theorem OV {w:World}{base n:Nat}{va:Value}{l:List ByteArray}(h:w.ownsRow base 9 1 va n (strs l))(u:ByteArray)(hb:base<=w.heap.size)(hn:n<=100000):
 ∃iw w',(Builtin.append_ #[163,163] 163 #[va,.slice (some ⟨w.heap.size,0,none⟩) 1 1]).run Tryz.prog (w.alloc (.cells #[.string u] 9))= .ok iw w'/\w'.ownsRow base 9 1 iw (n+1) (strs (l++[u]))/\ε (fun j=>base<=j) w w':=by
 obtain⟨i,z,hi,hz,hs,hby,hzs⟩:=Tryz.info9;have:=U9 Tryz.underlying163 hi hz hs hby hzs (x:= .string u) rfl h hn (by omega) hb 163;rwa[show strs (l++[u])=strs l++[.string u] by unfold strs;rw[abM];rfl]
theorem jy {P:Program}{w w':World}{ops:Array Oper}{rest:List Oper}{o:Oper}{a:Act}{Q:Exit->Act->World->Prop}(hgd:o.guard=none)(s x:Operand)(t:TypeId)
 (ho:o.op= .call {callee:= .builtin .append,args:= #[s,x],argTypes:= #[t,t]}) (v u v':Value) (hs:a.eval s=v) (hx:a.eval x=u) (hr:(Builtin.append_ #[t,t] o.type #[v,u]).run P w= .ok v' w')
 (h:wpList P ops Q rest (a.put o.dst v') w'):wpList P ops Q (o::rest) a w:=
 wpList_plain hgd fun K hK=>by unfold Oper.wp execOp;simp only[ho,resolve,invoke,builtin,Sem.run_bind,Sem.run_pure,Result.andThen_ok,List.map_toArray,Θ,Ξ,hs,hx,hr];exact hK _ _ h
def QJ (w:World)(l:List ByteArray)(e:Ending)(w':World):Prop:= ∃v,e= .returned (.tuple #[v,.int .i64 0])/\w'.ownsRow w.heap.size 9 1 v l.length (strs l)/\ε η w w'
theorem qj (s:ByteArray): ∀(l:List (Nat×Nat))(f:Int)(o out:List ByteArray),pq s l f o=some out->o.length<=out.length/\out.length<=o.length+l.length+1
 |[],f,o,out,h=>by
  unfold pq at h;split at h
  ·split at h
   ·injection h with h;subst h;simp
   ·cases h
  ·injection h with h;subst h;simp
 |p::l,f,o,out,h=>by
  unfold pq at h;split at h
  ·cases h
  ·split at h
   ·split at h
    ·split at h
     ·have:=qj s l _ _ _ h
      simp only[ν,φ,Γ]at this⊢;omega
     ·cases h
    ·have:=qj s l _ _ _ h
     simp only[φ];omega
   ·split at h
    ·have:=qj s l _ _ _ h
     simp only[φ];omega
    ·have:=qj s l _ _ _ h
     simp only[φ];omega
theorem Bd (s:ByteArray)(out:List ByteArray)(hok:yY s=some out)(w:World):Calls Tryz.prog 156 #[.string s] w (QJ w out):=by
 obtain⟨w0,hrun,hit,hk0,hs0⟩:=jQ (P:=Tryz.prog) w 9 s Tryz.underlying9;have hlen:=iM s;unfold yY at hok;have hs4: ¬400<s.size:=fun h=>(by rw[if_pos h]at hok;cases hok);rw[if_neg hs4]at hok;have hs5: ¬(400:Int)<s.size:=(by omega);have H:=γ (θ hit (θ hk0 (θ hs0 hok)));clear hit hk0 hs0 hok;go_enter Tryz.func156,Tryz.ntmps156;go_wp2;go_loopg [4,5] (runes s).length (fun k vo vf wr=> ∃left f o,mF wr w.heap.size s left/\(∀q∈left,q.1<s.size/\q.2<=2147483647)/\left.length=k/\vf= .int .i64 f/\ -1<=f/\f<=s.size/\pq s left f o=some out/\wr.ownsRow (w.heap.size+1) 9 1 vo o.length (strs o)/\ε η w wr/\w.heap.size+1<=wr.heap.size)
 case atStart=>exact⟨runes s,-1,[],H.o.1,fun q hq=>EF hq,rfl,rfl,by omega,by omega,H.o.2.2.2,World.ownsRow_nil _ _ _ _,H.o.2.1,by have:=H.o.2.2.1;omega⟩
 case round=>
  obtain⟨left,f,o,hit,hin,hk,rfl,hf0,hf1,hwf,hown,hk1,hsz⟩:=hrel;obtain⟨wo,rfl⟩: ∃wo:World,wo=wr:=⟨_,rfl⟩;obtain⟨TF,TD,rfl⟩:=adJ hown;have hol:o.length<=1000:=(by have:=(qj s left f o out hwf).1;have:=(qj s (runes s) (-1) [] out H.o.2.2.2).2;simp at this;omega);have A:=γ (θ hin (θ hk (θ hwf (θ hown (θ hk1 hsz)))));clear hin hk hwf hown hk1 hsz
  rcases hit.next (P:=Tryz.prog) 0 with⟨rfl,hrun⟩|⟨p,left',w2,hp,hrun,hit2,hk2,hs2⟩
  ·clear hit
   have hw:=A.o.2.2.1;unfold pq at hw;by_cases hf:0<=f
   ·rw[if_pos hf,if_pos hf1]at hw
    injection hw with hw
    obtain⟨iw,w',g1,g2,g3⟩:=OV A.o.2.2.2.1 (s.extract f.toNat s.size) A.o.2.2.2.2.2 (by omega);have e1:o.length+1=out.length:=(by rw[<-hw];simp);rw[hw,e1]at g2;have F:=γ (show QJ w out (.returned (.tuple #[iw,.int .i64 0])) w' from⟨iw,rfl,jH g2 (Nat.le_succ _),A.o.2.2.2.2.1.new g3 (fun q hq hs=>by omega)⟩);obtain⟨a2,c2,rfl⟩:=au g2;have G:=γ g1;clear g1 g2 g3 hw e1 H;go_wp2_with (at_builtin;refine jy rfl (.tmp 50) (.tmp 54) 163 rfl _ _ _ rfl rfl G.o ?_);go_ret2;exact F.o
   ·rw[if_neg hf]at hw
    injection hw with hw
    subst hw;have F:=γ (show QJ w o (.returned (.tuple #[.slice TF o.length TD,.int .i64 0])) wo from⟨_,rfl,jH A.o.2.2.2.1 (Nat.le_succ _),A.o.2.2.2.2.1⟩);clear H;go_wp2_with fail;go_ret2;exact F.o
  ·clear hit
   have hin:=A.o.1;rw[hp]at hin;obtain⟨hp1,hp2⟩:=hin p (by simp);have hinl: ∀q∈left',q.1<s.size/\q.2<=2147483647:=fun q hq=>hin q (by simp[hq]);have hw:=A.o.2.2.1;rw[hp]at hw;unfold pq at hw;have hbad: ¬(p.2=65533\/p.2<32/\p.2≠9):=fun h=>(by rw[if_pos h]at hw;cases hw);rw[if_neg hbad]at hw;have hm:left'.length<gk:=(by have:=A.o.2.1;rw[hp]at this;simp at this;omega);have hk3:ε η w w2:=A.o.2.2.2.2.1.new hk2 (fun i hi e=>by unfold one at e;omega);have hsz2:w.heap.size+1<=w2.heap.size:=(by rw[hs2];exact A.o.2.2.2.2.2);have hown2:w2.ownsRow (w.heap.size+1) 9 1 (.slice TF o.length TD) o.length (strs o):=hk2.owns A.o.2.2.2.1 (fun q hq hs=>by have:=H7 A.o.2.2.2.1 hq;unfold one at hs;omega);have b1: ¬(p.2:Int)=65533:=(by omega);have b2: ¬((p.2:Int)<32/\(p.2:Int)≠9):=(by omega);have G:=γ (θ hit2 (θ hinl (θ hm (θ hk3 (θ hsz2 hown2)))));clear hit2 hk3 hm hp hk2 hs2 hin hinl hsz2 hown2 H A hlen hbad;by_cases hsp:p.2=32\/p.2=9
   ·rw[if_pos hsp]at hw
    have c1:(p.2:Int)=32\/(p.2:Int)=9:=(by omega);by_cases hf:0<=f
    ·rw[if_pos hf]at hw
     have hfp:f<=p.1:=by
      by_cases h:f<=p.1
      ·exact h
      ·rw[if_neg h]at hw;cases hw
     rw[if_pos hfp]at hw;obtain⟨iw,w',g1,g2,g3⟩:=OV G.o.2.2.2.2.2 (s.extract f.toNat p.1) G.o.2.2.2.2.1 (by omega);obtain⟨a2,c2,rfl⟩:=au g2;have k3:=G.o.2.2.2.1.new g3 (fun q hq hs=>by omega);have hit3:=G.o.1.kept g3 (fun h=>by omega);have hs3:w.heap.size+1<=w'.heap.size:=ω G.o.2.2.2.2.1 g3.size;have Z:=γ (θ g1 (θ g2 (θ k3 (θ hit3 (θ hs3 hw)))));clear g1 g2 g3 k3 hit3 hs3 hw hsp
     rcases c1 with c1|c1
     ·go_wp2_with (at_builtin;refine jy rfl (.tmp 37) (.tmp 42) 163 rfl _ _ _ rfl rfl Z.o.1 ?_)
      go_roundg left'.length
      case rel=>exact⟨left',-1,o++[s.extract f.toNat p.1],Z.o.2.2.2.1,G.o.2.1,rfl,rfl,by omega,by omega,Z.o.2.2.2.2.2,by rw[ν];exact Z.o.2.1,Z.o.2.2.1,Z.o.2.2.2.2.1⟩
      case measure=>exact G.o.2.2.1
     ·go_wp2_with (at_builtin;refine jy rfl (.tmp 37) (.tmp 42) 163 rfl _ _ _ rfl rfl Z.o.1 ?_)
      go_roundg left'.length
      case rel=>exact⟨left',-1,o++[s.extract f.toNat p.1],Z.o.2.2.2.1,G.o.2.1,rfl,rfl,by omega,by omega,Z.o.2.2.2.2.2,by rw[ν];exact Z.o.2.1,Z.o.2.2.1,Z.o.2.2.2.2.1⟩
      case measure=>exact G.o.2.2.1
    ·rw[if_neg hf]at hw
     have Z:=γ hw;clear hw hsp
     rcases c1 with c1|c1
     ·go_wp2
      go_roundg left'.length
      case rel=>exact⟨left',-1,o,G.o.1,G.o.2.1,rfl,rfl,by omega,by omega,Z.o,G.o.2.2.2.2.2,G.o.2.2.2.1,G.o.2.2.2.2.1⟩
      case measure=>exact G.o.2.2.1
     ·go_wp2
      go_roundg left'.length
      case rel=>exact⟨left',-1,o,G.o.1,G.o.2.1,rfl,rfl,by omega,by omega,Z.o,G.o.2.2.2.2.2,G.o.2.2.2.1,G.o.2.2.2.2.1⟩
      case measure=>exact G.o.2.2.1
   ·rw[if_neg hsp]at hw
    have c1: ¬(p.2:Int)=32:=(by omega);have c2: ¬(p.2:Int)=9:=(by omega);have c3: ¬(p.2:Int)<32:=(by omega);have d1: ¬p.2=32:=(by omega);have d2: ¬p.2=9:=(by omega);have d3: ¬p.2<32:=(by omega);have d4: ¬p.2=65533:=(by omega);have e1:((p.2:Int)==32)=false:=(by simpa using c1);have e2:((p.2:Int)==9)=false:=(by simpa using c2);clear hsp b2;by_cases hf:f<0
    ·rw[if_pos hf]at hw
     have Z:=γ hw;clear hw;go_wp2;go_roundg left'.length
     case rel=>exact⟨left',p.1,o,G.o.1,G.o.2.1,rfl,rfl,by omega,by omega,Z.o,G.o.2.2.2.2.2,G.o.2.2.2.1,G.o.2.2.2.2.1⟩
     case measure=>exact G.o.2.2.1
    ·rw[if_neg hf]at hw
     have Z:=γ hw;clear hw;go_wp2;go_roundg left'.length
     case rel=>exact⟨left',f,o,G.o.1,G.o.2.1,rfl,rfl,by omega,by omega,Z.o,G.o.2.2.2.2.2,G.o.2.2.2.1,G.o.2.2.2.2.1⟩
     case measure=>exact G.o.2.2.1
theorem Uc (k:Int)(w:World):Calls Tryz.prog 159 #[.int .u8 k] w fun e w'=>e= .returned (.bool (decide (2<=k)&&decide (k<=6)))/\w=w':=by
 go_enter Tryz.func159,Tryz.ntmps159;go_wp2;all_goals
  go_ret;refine⟨qM ?_,rfl⟩;rw[Bool.eq_iff_iff];simp only[Φ,decide_eq_true_eq,Bool.false_eq_true,false_iff,true_and, *];try omega
end
