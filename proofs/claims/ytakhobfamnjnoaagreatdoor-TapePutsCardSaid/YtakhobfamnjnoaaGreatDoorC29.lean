/- Symbolic runs: what is too heavy. -/
import Derived.Test.YtakhobfamnjnoaaGreatDoorC28
set_option linter.unusedVariables false
set_option linter.unusedSimpArgs false
set_option maxHeartbeats 4000000
set_option maxRecDepth 100000
namespace Go.Proofs.YtakhobfamnjnoaaGreatDoor
section
namespace Sx
open Go Go.RowKit _root_.Go.Proofs.Tryz
set_option maxRecDepth 100000
set_option maxHeartbeats 4000000
section
variable {bx:{α:Type}->α->α} (hb: ∀{α:Type}(x:α),bx x=x)
include hb
theorem Yx (x:Ex)(hx:iG x):Ct prog 42 [qK bx x] [] fun r h=>(∃n:Int,r= .a (.c (.p (.int .i64 (bx n)))))/\h=[]:=by
 have ih: ∀z,∀hz:z∈x.args,iG z->Ct prog 42 [qK bx z] [] fun r h=>(∃n:Int,r= .a (.c (.p (.int .i64 (bx n)))))/\h=[]:=fun z hz=>Yx z
 obtain⟨ha,hfa⟩:=hx.args
 refine ct hb func42 fun Q hQ K hK=>?_
 cbv
 refine loop hb (fun a:Nat×Int=>a.1<=x.args.length) (fun a=>x.args.length-a.1) (fun a=>[(9, .a (.c (.p (.int .i64 (bx (Int.ofNat a.1)))))),(3, .a (.c (.p (.int .i64 (bx a.2)))))]) (fun _=>[]) (0,1) (Nat.zero_le _) (ent [] [.all 0] (he:=by cbv;(repeat' (first|trivial|rfl|apply And.intro|(simp[hb];done))))) ?_
 rintro⟨k,n⟩ hI
 dsimp only at hI⊢
 cbv
 refine⟨fun hd=>?_,fun hd=>?_⟩<;>simp only[hb,pl]at hd
 ·obtain⟨z,hz⟩: ∃z,x.args[k]?=some z:=⟨_,List.getElem?_eq_getElem hd⟩
  have hm:=List.mem_of_getElem? hz
  have hu:=mQ hb (k:=k) (by omega)
  cbv
  refine get (J9 bx z) (gJ hb nH (lT x.args) hz (yF hb z)) (chk (gK hb hd (by omega)) ?_)
  cbv
  refine⟨fun h2=>?_,fun h2=>?_⟩
  ·cbv
   refine call hQ (ih z hm (nY hfa hm)) [] ?_
   rintro _ _ ⟨⟨q,rfl⟩,rfl⟩
   cbv
   exact⟨(k+1,wr .i64 (n+q)),by dsimp only;omega,by dsimp only;omega,ent [] [.all 0] (he:=by cbv;(repeat' (first|trivial|rfl|apply And.intro|exact hu|(simp only[hb];done))))⟩
  ·cbv
   exact⟨(k+1,n),by dsimp only;omega,by dsimp only;omega,ent [] [.all 0] (he:=by cbv;(repeat' (first|trivial|rfl|apply And.intro|exact hu|(simp only[hb];done))))⟩
 ·cbv
  exact hK _ _ (.a (.c (.p (.int .i64 (bx (Jt true n 2000)))))) [] (aS [] [] (he:=by cbv;(repeat' (first|trivial|rfl|apply And.intro|(simp only[hb];done))))) ⟨⟨_,rfl⟩,rfl⟩
termination_by SizeOf.sizeOf x
decreasing_by exact AL hz
end
end Sx
end
section
namespace Sx
open Go Go.RowKit
theorem kQ {n:Int}(h:aO n)(r:List UInt8):aB (ay [n]++r,0)=(n,(r,0)):=by
 unfold aB
 dsimp only
 rw[if_pos rfl,EK h]
 simp
theorem yc {n:Int}(h:0<=n)(h2:n<=65536):aO n:=by unfold aO;omega
theorem IJ {n:Int}(h:0<=n)(h2:n<=255)(r:List UInt8):bP (ay [n]++r,0)=(n,(r,0)):=by
 unfold bP
 rw[kQ (yc h (by omega))]
 dsimp only
 rw[if_neg (by omega),IntKind.wrap_u8]
 congr 1
 omega
theorem D6 {m n:Int}(h:0<=n)(h2:n<=m)(h3:m<=65536)(r:List UInt8):bT m (ay [n]++r,0)=(n,(r,0)):=by
 unfold bT
 rw[kQ (yc h (by omega))]
 dsimp only
 rw[if_neg (by omega)]
theorem MP {t:List UInt8}(ht:t.length<=65536)(r:List UInt8):textS (fQ t++r,0)=(t,(r,0)):=by
 unfold textS
 dsimp only
 rw[if_pos rfl,Dw ht]
 simp
theorem vP {α:Type}{f:St->α×St}{enc:α->List UInt8}{l:List α}(hf: ∀x∈l,∀r,f (enc x++r,0)=(x,(r,0)))(r:List UInt8): ∀n,n<=l.length->bQ f n (l.flatMap enc++r,0)=(l.take n,((l.drop n).flatMap enc++r,0))
 |0,_=>by simp[bQ]
 |n+1,h=>by
  have ih:=vP hf r n (by omega)
  have hd:l.drop n=l[n]::l.drop (n+1):=List.drop_eq_getElem_cons (by omega)
  unfold bQ
  rw[ih]
  dsimp only
  rw[hd,List.flatMap_cons,List.append_assoc,hf l[n] (List.getElem_mem _)]
  rw[List.take_succ_eq_append_getElem (by omega)]
def ru:Nat->Ex->Prop
 |0,_=>False
 |k+1,x=>0<=x.op/\x.op<=255/\aO x.n/\x.args.length<=3/\ ∀y∈x.args,ru k y
theorem BF: ∀l:List Ex,jg l=l.flatMap dV
 |[]=>by simp[jg]
 |x::l=>by simp[jg,BF l]
theorem MR: ∀(k:Nat)(x:Ex),ru k x-> ∀r,fP k (dV x++r,0)=(x,(r,0))
 |0,_,h,_=>h.elim
 |k+1,x,⟨h1,h2,h3,h4,h5⟩,r=>by
  have e:dV x++r=ay [x.op]++(ay [x.n]++(ay [Int.ofNat x.args.length]++(x.args.flatMap dV++r))):=by
   rw[xu,dQ x.op,dQ x.n,BF]
   simp only[List.append_assoc]
  have hi:=vP (f:=fP k) (enc:=dV) (l:=x.args) (fun y hy r=>MR k y (h5 y hy) r) r x.args.length (Nat.le_refl _)
  unfold fP
  rw[e,IJ h1 h2]
  dsimp only
  rw[kQ h3]
  dsimp only
  rw[D6 (by simp) (by simp;omega) (by omega)]
  dsimp only
  have e2:(Int.ofNat x.args.length).toNat=x.args.length:=rfl
  rw[e2,hi]
  obtain⟨o,n,a⟩:=x
  simp[Ex.op,Ex.n,Ex.args]
def yh (d:JN):Prop:=d.uid.data.toList.length<=65536/\0<=d.kind/\d.kind<=255/\aO d.n/\d.ins.length<=12/\(∀v∈d.ins,aO v)/\ru 17 d.x
theorem DT: ∀l:List Int,ay l=l.flatMap fun v=>ay [v]
 |[]=>by simp[ay]
 |v::l=>by rw[dQ,DT l];simp
theorem Zm {d:JN}(h:yh d)(r:List UInt8):oW (oO d++r,0)=(d,(r,0)):=by
 obtain⟨h1,h2,h3,h4,h5,h6,h7⟩:=h
 have e:oO d++r=fQ d.uid.data.toList++(ay [d.kind]++(ay [d.n]++(ay [Int.ofNat d.ins.length]++((d.ins.flatMap fun v=>ay [v])++(dV d.x++r))))):=by
  unfold oO
  rw[dQ d.kind,dQ d.n,DT d.ins]
  simp only[List.append_assoc]
 have hi:=vP (f:=aB) (enc:=fun v=>ay [v]) (l:=d.ins) (fun v hv r=>kQ (h6 v hv) r) (dV d.x++r) d.ins.length (Nat.le_refl _)
 have e2:(Int.ofNat d.ins.length).toNat=d.ins.length:=rfl
 have e3:(d.ins.drop d.ins.length).flatMap (fun v=>ay [v])++(dV d.x++r)=dV d.x++r:=by simp
 have hc:bT 12 (ay [Int.ofNat d.ins.length]++((d.ins.flatMap fun v=>ay [v])++(dV d.x++r)),0)=(Int.ofNat d.ins.length,((d.ins.flatMap fun v=>ay [v])++(dV d.x++r),0)):=D6 (by simp) (by simp;omega) (by omega) _
 simp only[oW,e,MP h1,IJ h2 h3,kQ h4,hc,e2,hi,e3,MR 17 d.x h7]
 have hb:bs d.uid.data.toList=d.uid:=sD d.uid
 rw[hb]
 obtain⟨a,b,c,x,n⟩:=d
 simp
theorem Jm {l:List JN}(hl: ∀d∈l,yh d)(r:List UInt8): ∀n,n<=l.length->bV n (dH l++r,0)=(l.take n,(dH (l.drop n)++r,0))
 |0,_=>by simp[bV]
 |n+1,h=>by
  have ih:=Jm hl r n (by omega)
  have hd:l.drop n=l[n]::l.drop (n+1):=List.drop_eq_getElem_cons (by omega)
  have e:dH (l.drop n)++r=oO l[n]++(dH (l.drop (n+1))++r):=by
   rw[hd];unfold dH;rw[List.flatMap_cons,List.append_assoc]
  have hn:=Zm (hl l[n] (List.getElem_mem _)) (dH (l.drop (n+1))++r)
  unfold bV
  rw[ih]
  dsimp only
  rw[if_neg (by simp),e,hn,List.take_succ_eq_append_getElem (by omega)]
def uQ (j:Jb):Prop:=aO j.par/\j.nodes.length<=12/\(∀d∈j.nodes,yh d)/\(dB j).2=0
theorem abE {j:Jb}(h:uQ j):tJ (jB j)=(j,0):=by
 obtain⟨h1,h2,h3,h4⟩:=h
 have e:jB j=ay [j.par]++(ay [Int.ofNat j.nodes.length]++(dH j.nodes++[])):=by
  unfold jB
  rw[dQ j.par]
  simp only[List.append_assoc,List.append_nil]
 have hc:bT 12 (ay [Int.ofNat j.nodes.length]++(dH j.nodes++[]),0)=(Int.ofNat j.nodes.length,(dH j.nodes++[],0)):=D6 (by simp) (by simp;omega) (by omega) _
 have hn:=Jm h3 [] j.nodes.length (Nat.le_refl _)
 have e2:(Int.ofNat j.nodes.length).toNat=j.nodes.length:=rfl
 have e3:dH (j.nodes.drop j.nodes.length)++[]=[]:=by simp[dH]
 have e4:(⟨j.par,j.nodes.take j.nodes.length⟩:Jb)=j:=by rw[List.take_length]
 simp only[tJ,e,kQ h1,hc,e2,hn,e3,e4]
 have he:L8 j ([],0)=([],0):=by unfold L8;rw[if_pos h4];simp
 rw[he]
 rfl
theorem nT {n:Int}(h:aO n)(r:List UInt8):aP (ay [n]++r,0)=(n,(r,0)):=by
 unfold aP
 dsimp only
 rw[EK h]
 simp
theorem Pv {j:Jb}(h:uQ j)(hs:(jB j).length<=65536)(r:List UInt8):jW (ng j++r,0)=(j,(r,0)):=by
 unfold jW ng
 dsimp only
 rw[Dw hs]
 dsimp only
 rw[abE h]
 simp
theorem O4 {j:Jb}(h:o8 j zJ=true):j=zJ:=by
 obtain⟨p,l⟩:=j
 unfold o8 at h
 rw[Bool.and_eq_true,decide_eq_true_eq]at h
 have h1:p=0:=h.1
 cases l with
 |nil=>rw[h1]
 |cons a l=>exact absurd h.2 (by simp[kV])
theorem Iu {a:Ac}(h:ug a (Bc a)=true):(a.kind≠0->a.part=0/\a.key=0/\a.val=0)/\(a.kind≠5->a.j=zJ):=by
 unfold ug at h
 simp only[Bool.and_eq_true,decide_eq_true_eq]at h
 obtain⟨⟨⟨⟨h1,h2⟩,h3⟩,h4,h5,h6⟩,h7⟩:=h
 unfold Bc at*
 split at h4
 ·rename_i k
  simp only[k,if_true]at h7
  exact⟨fun c=>absurd k c,fun _=>O4 h7⟩
 ·split at h4
  ·rename_i k0 k
   simp only[if_neg k0,if_pos k]at h4 h5 h6 h7
   exact⟨fun _=>⟨h4,h5,h6⟩,fun _=>O4 h7⟩
  ·split at h4
   ·rename_i k0 k k4
    simp only[if_neg k0,if_neg k,if_pos k4]at h4 h5 h6 h7
    exact⟨fun _=>⟨h4,h5,h6⟩,fun _=>O4 h7⟩
   ·split at h4
    ·rename_i k0 k k4 k5
     simp only[if_neg k0,if_neg k,if_neg k4,if_pos k5]at h4 h5 h6 h7
     exact⟨fun _=>⟨h4,h5,h6⟩,fun c=>absurd k5 c⟩
    ·rename_i k0 k k4 k5
     simp only[if_neg k0,if_neg k,if_neg k4,if_neg k5]at h4 h5 h6 h7
     exact⟨fun _=>⟨h4,h5,h6⟩,fun _=>O4 h7⟩
def FN (a:Ac):Prop:=mF a/\bW a=true/\(a.kind=5->uQ a.j/\(jB a.j).length<=65536)
theorem aco {a:Ac}(h:FN a)(r:List UInt8):uo (iL a++r,0)=(a,(r,0)):=by
 obtain⟨⟨f1,f2,f3,f4,f5,f6,f7,f8⟩,hm,h5⟩:=h
 have hu:ug a (Bc a)=true:=by
  unfold bW at hm
  simp only[Bool.and_eq_true]at hm
  exact hm.1.1.2
 obtain⟨u1,u2⟩:=Iu hu
 have hk:IntKind.wrap .u8 a.kind=a.kind:=by rw[IntKind.wrap_u8];omega
 obtain⟨kind,n,m,part,key,val,j⟩:=a
 dsimp only at*
 have r1:aO kind:=yc f1 (by omega)
 have e: ∀t,ay [kind,n,m]++t=ay [kind]++(ay [n]++(ay [m]++t)):=fun t=>by
  rw[dQ kind,dQ n]
  simp only[List.append_assoc]
 unfold iL uo
 dsimp only
 rw[List.append_assoc,e]
 simp only[nT r1,nT f3,nT f4,hk]
 unfold bodyT
 by_cases k0:kind=0
 ·simp only[if_pos k0]
  have e3:ay [part,key,val]++r=ay [part]++(ay [key]++(ay [val]++r)):=by
   rw[dQ part,dQ key]
   simp only[List.append_assoc]
  simp only[e3,nT f5,nT f6,nT f7]
  rw[u2 (by omega)]
 ·simp only[if_neg k0]
  obtain⟨p0,p1,p2⟩:=u1 k0
  by_cases k5:kind=5
  ·simp only[if_pos k5]
   obtain⟨g1,g2⟩:=h5 k5
   simp only[Pv g1 g2]
   rw[p0,p1,p2]
  ·simp only[if_neg k5]
   rw[p0,p1,p2,u2 k5]
   simp
theorem Ot {l:List Ac}(hl: ∀a∈l,FN a)(r:List UInt8): ∀n,n<=l.length->eF n (gI l++r,0)=(l.take n,(gI (l.drop n)++r,0))
 |0,_=>by simp[eF]
 |n+1,h=>by
  have ih:=Ot hl r n (by omega)
  have hd:l.drop n=l[n]::l.drop (n+1):=List.drop_eq_getElem_cons (by omega)
  have e:gI (l.drop n)++r=iL l[n]++(gI (l.drop (n+1))++r):=by
   rw[hd];unfold gI;rw[List.flatMap_cons,List.append_assoc]
  have hn:=aco (hl l[n] (List.getElem_mem _)) (gI (l.drop (n+1))++r)
  unfold eF
  rw[ih]
  dsimp only
  rw[if_neg (by simp),e,hn,List.take_succ_eq_append_getElem (by omega)]
def xJ (t:Tp):Prop:=fV t/\ig t=true/\uQ t.first/\(jB t.first).length<=65536/\ ∀a∈t.acts,FN a
theorem YS {t:Tp}(h:xJ t)(r:List UInt8):EW (jX t++r)=(t,0):=by
 obtain⟨⟨f1,f2,f3,f4,f5⟩,hm,g1,g2,g3⟩:=h
 have hlen:t.acts.length<=2000:=by
  unfold ig at hm
  simp only[Bool.and_eq_true,decide_eq_true_eq]at hm
  exact hm.1.2
 have e:jX t++r=ay [t.bytes]++(ay [t.room]++(ng t.first++(ay [Int.ofNat t.acts.length]++(gI t.acts++r)))):=by
  unfold jX
  rw[dQ t.bytes]
  simp only[List.append_assoc]
 have rl:aO (Int.ofNat t.acts.length):=yc (by simp) (by simp;omega)
 have hc:og (Int.ofNat t.acts.length)=t.acts.length:=by
  unfold og
  split
  ·rfl
  ·rename_i h
   simp only[Int.ofNat_eq_natCast]at h
   omega
 have ha:=Ot g3 r t.acts.length (Nat.le_refl _)
 simp only[EW,e,nT f1,nT f2,Pv g1 g2,nT rl,hc,ha]
 obtain⟨a,b,c,d⟩:=t
 simp
theorem Wi {t:Tp}(h:xJ t):mW (jX t)=(t,0):=by
 have:=YS h []
 rw[List.append_nil]at this
 unfold mW L6
 rw[this]
 dsimp only
 rw[if_neg (by simp),if_pos ⟨h.2.1,rfl⟩]
end Sx
end
section
namespace Sx
open Go Go.RowKit _root_.Go.Proofs.Tryz
set_option maxRecDepth 100000
set_option maxHeartbeats 4000000
section
variable {bx:{α:Type}->α->α} (hb: ∀{α:Type}(x:α),bx x=x)
include hb
end
end Sx
end
section
namespace Sx
open Go Go.RowKit
def sH:Prop:= ∀j,gX j->(dB j).2=0->uQ j/\(jB j).length<=65536
theorem sH.small (h:sH):nM:=fun j h1 h2=>(h j h1 h2).2
theorem FT (hG:sH){t:Tp}(hf:fV t)(hm:ig t=true):xJ t:=by
 have h:=hm
 unfold ig at h
 simp only[Bool.and_eq_true,decide_eq_true_eq]at h
 obtain⟨g1,g2⟩:=hG t.first hf.2.2.1 h.1.1.2
 refine⟨hf,hm,g1,g2,fun a ha=>?_⟩
 have hma:=List.all_eq_true.1 h.2 a ha
 have hfa:=hf.2.2.2.2 a ha
 exact⟨hfa,hma,fun h5=>hG a.j hfa.2.2.2.2.2.2.2 (WY hma h5)⟩
theorem YT (l:List UInt8)(hl:l.length<=maxLen):fV (EW l).1:=by
 have q1:=gu (l,0)
 have q2:=gu (aP (l,0)).2
 have l2:=Nat.le_trans q2.2 (Nat.le_trans q1.2 hl)
 have q3:=GH (aP (aP (l,0)).2).2 l2
 have q4:=gu (jW (aP (aP (l,0)).2).2).2
 have q5:=vV (aP (jW (aP (aP (l,0)).2).2).2).2 (Nat.le_trans q4.2 (Nat.le_trans q3.2 l2)) (og (aP (jW (aP (aP (l,0)).2).2).2).1)
 have hc:=VN (aP (jW (aP (aP (l,0)).2).2).2).1
 refine⟨q1.1,q2.1,q3.1,?_,q5.1⟩
 exact Nat.lt_of_le_of_lt q5.2.1 (Nat.lt_of_le_of_lt hc (by omega))
mutual
theorem RZ: ∀x:Ex,rY x x=true
 | .mk o n l=>by simp[rY,Og l]
theorem Og: ∀l:List Ex,lK l l=true
 |[]=>by simp[lK]
 |x::l=>by simp[lK,RZ x,Og l]
end
theorem Oh: ∀l:List JN,kV l l=true
 |[]=>rfl
 |a::l=>by simp[kV,eqN,Oh l,RZ]
theorem H9 (j:Jb):o8 j j=true:=by simp[o8,Oh]
theorem Oi: ∀l:List Ac,lM l l=true
 |[]=>rfl
 |a::l=>by simp[lM,ug,Oi l,H9]
theorem ab3 (t:Tp):AB t t=true:=by simp[AB,H9,Oi]
end Sx
end
section
open Go Go.RowKit
def jd:Nat->Ex->Nat
 |0,_=>0
 |f+1, .mk _ _ l=>if f=0 then 1 else(l.map (jd f)).foldl max 0+1
def gZ:Nat->Ex->Bool
 |0,_=>true
 |f+1, .mk op n l=>decide (arity op=l.length)&&decide (0<=n)&&decide (n=0\/op=1)&&l.all (gZ f)
theorem sU (f:Nat)(x:Ex):gZ (f+1) x=(decide (arity x.op=x.args.length)&&decide (0<=x.n)&&decide (x.n=0\/x.op=1)&&x.args.all (gZ f)):=by
 cases x;rfl
theorem GY (f:Nat)(x:Ex):jd (f+2) x=(x.args.map (jd (f+1))).foldl max 0+1:=by
 cases x;rfl
theorem yD {l:List Nat}{b n:Nat}:l.foldl max b<=n↔b<=n/\ ∀y∈l,y<=n:=by
 induction l generalizing b with
 |nil=>simp
 |cons y l ih=>simp only[List.foldl_cons,ih,Nat.max_le,List.mem_cons,forall_eq_or_imp,and_assoc]
theorem yE: ∀(f:Nat)(x:Ex),dU f x=(decide (jd (f+1) x<=f)&&gZ (f+1) x)
 |0, .mk op n l=>by simp[dU,jd]
 |f+1,x=>by
  have h1:x.args.all (dU f)=(x.args.all (fun y=>decide (jd (f+1) y<=f))&&x.args.all (gZ (f+1))):=by
   rw[Bool.eq_iff_iff]
   simp only[Bool.and_eq_true,List.all_eq_true]
   constructor
   ·intro h
    refine⟨fun y hy=>?_,fun y hy=>?_⟩
    all_goals
     have:=h y hy
     rw[yE f y,Bool.and_eq_true]at this
    ·exact this.1
    ·exact this.2
   ·rintro⟨ha,hb⟩ y hy
    rw[yE f y,Bool.and_eq_true]
    exact⟨ha y hy,hb y hy⟩
  have h2:decide (jd (f+2) x<=f+1)=x.args.all (fun y=>decide (jd (f+1) y<=f)):=by
   rw[Bool.eq_iff_iff,decide_eq_true_iff,GY,List.all_eq_true]
   have: ∀n:Nat,n+1<=f+1↔n<=f:=fun n=>by omega
   rw[this,yD]
   simp
  rw[uU,sU,h1,h2]
  cases(x.args.all fun y=>decide (jd (f+1) y<=f))<;>cases(x.args.all (gZ (f+1)))<;>simp
theorem xX: ∀(f:Nat)(x:Ex),jd f x<=f
 |0,x=>by cases x;exact Nat.le_refl 0
 |1,x=>by cases x;exact Nat.le_refl 1
 |f+2,x=>by
  rw[GY]
  have:(x.args.map (jd (f+1))).foldl max 0<=f+1:=yD.2 ⟨by omega,fun y hy=>by
   obtain⟨z,_,rfl⟩:=List.mem_map.1 hy
   exact xX (f+1) z⟩
  omega
theorem OI {a b:Int}(h:a=b):Ending.returned (.int .i64 a)= .returned (.int .i64 b):=by rw[h]
def aeu (f:Nat):Prop:= ∀(x:Ex)(a:Array Value)(L:Int)(w:World),L=f->f<=17->bg w a x->Calls Tryz.prog 374 #[.agg a, .int .i64 L] w (Gives w (.int .i64 (jd f x:Int)))
theorem XD {l:List Nat}{k n:Nat}(h:l[k]?=some n):(l.take (k+1)).foldl max 0=max ((l.take k).foldl max 0) n:=by
 rw[List.take_add_one,h,List.foldl_append];rfl
theorem Nl: ∀f,aeu f
 |0=>fun x a L w hL hf h=>by
  obtain⟨p,cap,rfl,h0,h1,h2,h3,h4,h5⟩:=h.parts
  subst hL
  clear h5 h
  unfold maxLen at h4
  have e:jd 0 x=0:=by cases x;rfl
  rw[e]
  go_enter Tryz.func374,Tryz.ntmps374
  go_wp2_with fail
  go_ret
  exact⟨rfl,(Kept.refl _ _).alloc _⟩
 |1=>fun x a L w hL hf h=>by
  obtain⟨p,cap,rfl,h0,h1,h2,h3,h4,h5⟩:=h.parts
  subst hL
  clear h5 h
  unfold maxLen at h4
  have e:jd 1 x=1:=by cases x;rfl
  rw[e]
  go_enter Tryz.func374,Tryz.ntmps374
  go_wp2_with fail
  go_ret
  exact⟨rfl,(Kept.refl _ _).alloc _⟩
 |f+2=>fun x a L w hL hf h=>by
  obtain⟨p,cap,rfl,h0,h1,h2,h3,h4,h5⟩:=h.parts
  have IH:=Lib.hid (Nl (f+1))
  have HL:=Lib.hid hL
  have H5:=Lib.hid h5
  unfold aO at h2
  unfold maxLen at h4
  obtain⟨h2,h2'⟩:=h2
  have hL1:2<=L:=by omega
  have hL2:L<=17:=by omega
  obtain⟨R,hR⟩: ∃R,(x.args.map (jd (f+1)))=R:=⟨_,rfl⟩
  have HR:=Lib.hid hR
  have HB:=Lib.hid (show∀y∈R,y<=17 by
   intro y hy;rw[<-hR]at hy
   obtain⟨z,_,rfl⟩:=List.mem_map.1 hy
   have:=xX (f+1) z;omega)
  have HX:=Lib.hid (show jd (f+2) x=R.foldl max 0+1 by rw[GY,hR])
  clear h h5 hL hR
  rw[HX.out]
  go_enter Tryz.func374,Tryz.ntmps374
  go_wp2_with fail
  obtain⟨W0,hW0⟩: ∃W0,w.alloc (.cells #[.int .u8 x.op, .int .i64 x.n, .slice p x.args.length cap] 77)=W0:=⟨_,rfl⟩
  have k0:Kept none' w W0:=by rw[<-hW0];exact(Kept.refl _ _).alloc _
  have d2:W0.cell? ⟨w.heap.size,2,none⟩=some (.slice p x.args.length cap):=by rw[<-hW0];simp
  rw[hW0]
  have K0:=Lib.hid k0
  clear hW0 k0
  go_loopg [5,6] x.args.length (fun g vb vi wr=> ∃k:Nat,k<=x.args.length/\vi= .int .i64 (k:Int)/\vb= .int .i64 (((R.take k).foldl max 0:Nat):Int)/\x.args.length-k<=g/\Kept none' W0 wr)
  case atStart=>exact⟨0,by omega,rfl,rfl,by omega,Kept.refl _ _⟩
  case round=>
   obtain⟨k,hkl,rfl,rfl,hg,hkp⟩:=hrel
   have dd:=hkp.cell (p:=⟨w.heap.size,2,none⟩) (fun h=>h) d2
   have hM:(R.take k).foldl max 0<=17:=yD.2 ⟨by omega,fun y hy=>HB.out y (List.mem_of_mem_take hy)⟩
   obtain⟨M,hMe⟩: ∃M,(R.take k).foldl max 0=M:=⟨_,rfl⟩
   rw[hMe]at hM
   rw[hMe]
   by_cases hlt:k<x.args.length
   ·obtain⟨y,hy⟩: ∃y,x.args[k]?=some y:=⟨_,List.getElem?_eq_getElem hlt⟩
    obtain⟨b,off,p',cap',rfl,q0,q1,q2,hy2⟩:=H5.out k y hy
    have hW:=(K0.out.trans hkp:Kept none' w wr)
    have r0:=hW.cell (p:=⟨b,off+k*3,none⟩) (fun h=>h) q0
    have r1:=hW.cell (p:=⟨b,off+k*3+1,none⟩) (fun h=>h) q1
    have r2:=hW.cell (p:=⟨b,off+k*3+2,none⟩) (fun h=>h) q2
    have HN:=Lib.hid (show(R.take (k+1)).foldl max 0=max M (jd (f+1) y) by
     rw[XD (n:=jd (f+1) y) (by rw[<-HR.out,List.getElem?_map,hy];rfl),hMe])
    have HY:=Lib.hid (bg.pure hW hy2)
    have zq:=Lib.hid (And.intro hg hkp)
    have hd:=xX (f+1) y
    have ais:jd (f+1) y<=17:=by omega
    clear q0 q1 q2 hy hy2 hW hkp hg hMe hd
    go_wp2_with fail
    have c:=IH.out y _ (L-1) wr (by have:=HL.out;omega) (by omega) HY.out
    obtain⟨D,hD⟩: ∃D,jd (f+1) y=D:=⟨_,rfl⟩
    rw[hD]at c ais
    have HD:=Lib.hid hD
    clear hD
    (with_reducible refine c.mono ?_)
    clear c
    rintro e w2 ⟨rfl,k2⟩
    have Gw:=Lib.hid (zq.out.2.trans k2)
    clear k2
    by_cases hDM:(M:Int)<(D:Int)
    ·go_wp2_with fail
     go_roundg (x.args.length-(k+1))
     case rel=>exact⟨k+1,by omega,by go_num,by rw[HN.out,HD.out];go_num,Nat.le_refl _,Gw.out⟩
     case measure=>have:=zq.out.1;omega
    ·go_wp2_with fail
     go_roundg (x.args.length-(k+1))
     case rel=>exact⟨k+1,by omega,by go_num,by rw[HN.out,HD.out];go_num,Nat.le_refl _,Gw.out⟩
     case measure=>have:=zq.out.1;omega
   ·have hk:k=x.args.length:=by omega
    have HF:=Lib.hid (show R.foldl max 0=M by
     rw[<-hMe,List.take_of_length_le (by rw[<-HR.out];simp;omega)])
    have HK:=Lib.hid (K0.out.trans hkp)
    clear hkp hMe hg
    go_wp2_with fail
    go_ret
    exact⟨OI (by rw[HF.out];omega),HK.out⟩
theorem Np (op:Int)(h0:0<=op)(h1:op<=18)(w:World):Calls Tryz.prog 375 #[.int .u8 op] w (Gives w (.int .i64 (arity op))):=by
 obtain rfl|rfl|rfl|rfl|rfl|rfl|rfl|rfl|rfl|rfl|rfl|rfl|rfl|rfl|rfl|rfl|rfl|rfl|rfl:op=0\/op=1\/op=2\/op=3\/op=4\/op=5\/op=6\/op=7\/op=8\/op=9\/op=10\/op=11\/op=12\/op=13\/op=14\/op=15\/op=16\/op=17\/op=18:=by omega
 all_goals
  go_enter Tryz.func375,Tryz.ntmps375
  go_wp2_with fail
  go_ret
  exact⟨rfl,(Kept.refl _ _).alloc _⟩
theorem DU (x:Ex)(most:Nat)(h:1<=most):1<=jL x most/\jL x most<=most:=by
 rw[DV x most h]
 have:1<=qZ x:=by cases x;unfold qZ;omega
 omega
theorem TP (x:Ex)(most:Nat):jL x most=pO x.args 1 most:=by cases x;rw[jL];rfl
theorem TQ {l:List Ex}{k n most:Nat}{y:Ex}(h:l[k]?=some y):pO (l.drop k) n most=if n<most then pO (l.drop (k+1)) (n+jL y (most-n)) most else n:=by
 have hk:k<l.length:=by rcases Nat.lt_or_ge k l.length with h'|h';exact h';rw[List.getElem?_eq_none h']at h;cases h
 have e:l.drop k=y::l.drop (k+1):=by
  rw[List.drop_eq_getElem_cons hk]
  rw[List.getElem?_eq_getElem hk]at h
  injection h with h
  rw[h]
 rw[e,pO]
theorem IY: ∀(N:Nat)(x:Ex)(a:Array Value)(most:Nat)(w:World),SizeOf.sizeOf x<=N->1<=most->most<=1001->bg w a x->Calls Tryz.prog 62 #[.agg a, .int .i64 (most:Int)] w (Gives w (.int .i64 (jL x most:Int)))
 |0,x,_,_,_,h,_,_,_=>by cases x;simp at h
 |N+1,x,a,most,w,hN,hm1,hm2,h=>by
  obtain⟨p,cap,rfl,h0,h1,h2,h3,h4,h5⟩:=h.parts
  have sub: ∀(i:Nat)(y:Ex),x.args[i]?=some y->SizeOf.sizeOf y<=N:=by
   intro i y hy
   obtain⟨op,n,args⟩:=x
   have h1:=List.sizeOf_lt_of_mem (List.mem_of_getElem? (show args[i]?=some y from hy))
   simp at hN
   omega
  have IH:=Lib.hid (fun y a m w hy=>IY N y a m w hy)
  have SB:=Lib.hid sub
  have H5:=Lib.hid h5
  have HX:=Lib.hid (TP x most)
  unfold maxLen at h4
  clear h h5 sub hN
  go_enter Tryz.func62,Tryz.ntmps62
  go_wp2_with fail
  obtain⟨W0,hW0⟩: ∃W0,w.alloc (.cells #[.int .u8 x.op, .int .i64 x.n, .slice p x.args.length cap] 77)=W0:=⟨_,rfl⟩
  have k0:Kept none' w W0:=by rw[<-hW0];exact(Kept.refl _ _).alloc _
  have d2:W0.cell? ⟨w.heap.size,2,none⟩=some (.slice p x.args.length cap):=by rw[<-hW0];simp
  rw[hW0]
  have K0:=Lib.hid k0
  clear hW0 k0
  go_loopg [5,6] x.args.length (fun g vn vi wr=> ∃(k n:Nat),k<=x.args.length/\vi= .int .i64 (k:Int)/\vn= .int .i64 (n:Int)/\x.args.length-k<=g/\(1<=n/\n<=most)/\pO (x.args.drop k) n most=jL x most/\Kept none' W0 wr)
  case atStart=>exact⟨0,1,by omega,rfl,rfl,by omega,⟨by omega,by omega⟩,by rw[List.drop_zero,HX.out],Kept.refl _ _⟩
  case round=>
   obtain⟨k,n,hkl,rfl,rfl,hg,⟨hn1,hn2⟩,hpl,hkp⟩:=hrel
   have e2:=hkp.cell (p:=⟨w.heap.size,2,none⟩) (fun h=>h) d2
   have HKP:=Lib.hid hkp
   have hW:=(K0.out.trans hkp:Kept none' w wr)
   clear hkp
   by_cases hlt:k<x.args.length
   ·obtain⟨y,hy⟩: ∃y,x.args[k]?=some y:=⟨_,List.getElem?_eq_getElem hlt⟩
    have Rq:=TQ (n:=n) (most:=most) hy
    rw[hpl]at Rq
    by_cases hnm:n<most
    ·rw[if_pos hnm]at Rq
     obtain⟨b,off,p',cap',rfl,q0,q1,q2,hy2⟩:=H5.out k y hy
     have r0:=hW.cell (p:=⟨b,off+k*3,none⟩) (fun h=>h) q0
     have r1:=hW.cell (p:=⟨b,off+k*3+1,none⟩) (fun h=>h) q1
     have r2:=hW.cell (p:=⟨b,off+k*3+2,none⟩) (fun h=>h) q2
     have hle:=DU y (most-n) (by omega)
     have G:=Lib.hid (And.intro hg (And.intro (bg.pure hW hy2) (And.intro (SB.out k y hy) Rq)))
     have hsub:(most:Int)-(n:Int)=((most-n:Nat):Int):=by omega
     clear q0 q1 q2 hy hy2 hW hg H5 Rq hpl
     go_wp2_with fail
     have c:=IH.out y _ (most-n) wr G.out.2.2.1 (by omega) (by omega) G.out.2.1
     obtain⟨P,hP⟩: ∃P,jL y (most-n)=P:=⟨_,rfl⟩
     rw[hP]at c hle
     have HP:=Lib.hid hP
     clear hP
     (with_reducible refine c.mono ?_)
     clear c
     rintro e w2 ⟨rfl,k2⟩
     have K2:=Lib.hid (HKP.out.trans k2)
     clear k2
     go_wp2_with fail
     go_roundg (x.args.length-(k+1))
     case rel=>exact⟨k+1,n+P,by omega,by go_num,by go_num,Nat.le_refl _,⟨by omega,by omega⟩,by rw[<-HP.out];exact G.out.2.2.2.symm,K2.out⟩
     case measure=>have:=G.out.1;omega
    ·rw[if_neg hnm]at Rq
     have F:=Lib.hid Rq
     have KW:=Lib.hid hW
     clear hW hg Rq hpl hy
     go_wp2_with fail
     go_ret
     exact⟨OI (by rw[F.out]),KW.out⟩
   ·have F:=Lib.hid (show jL x most=n by
     rw[<-hpl,List.drop_eq_nil_of_le (by omega),pO])
    have KW:=Lib.hid hW
    clear hW hg hpl
    go_wp2_with fail
    go_ret
    exact⟨OI (by rw[F.out]),KW.out⟩
end
section
open Go Go.RowKit
attribute [local irreducible] kC
end
section
open Go Go.RowKit
theorem xU (j:Jb)(a:Array Value)(i:Nat)(w:World)(h:CY w a j)(afQ:j.nodes.length<=1000):Calls Tryz.prog 64 #[.agg a, .int .i64 (i:Int)] w (fun e w'=> ∃v,e= .returned v/\w'.ownsRow w.heap.size 3 1 v (fZ j.nodes i) (ints (dG j.nodes i j.nodes.length))/\Kept none' w w'):=by
 obtain⟨v,rfl,hn,hp⟩:=h
 obtain⟨na,cap,rfl,h1,h2,h3⟩:=hn.at
 unfold maxLen at h2
 have H3:=Lib.hid h3
 clear h3 hn hp
 go_enter Tryz.func64,Tryz.ntmps64
 go_wp2_with fail
 obtain⟨W0,hW0⟩: ∃W0,(w.alloc (.cells #[.int .i64 j.par, .slice na j.nodes.length cap] 24))=W0:=⟨_,rfl⟩
 have k0:Kept none' w W0:=by rw[<-hW0];exact(Kept.refl _ _).alloc _
 have d1:W0.cell? ⟨w.heap.size,1,none⟩=some (.slice na j.nodes.length cap):=by rw[<-hW0];simp
 have hs0:w.heap.size+1=W0.heap.size:=by rw[<-hW0];simp
 rw[hW0]
 have K0:=Lib.hid k0
 clear hW0 k0
 go_loopg [5,6] j.nodes.length (fun g vo vi wr=> ∃(k:Nat),k<=j.nodes.length/\vi= .int .i64 (k:Int)/\j.nodes.length-k<=g/\wr.ownsRow W0.heap.size 3 1 vo (dG j.nodes i k).length (ints (dG j.nodes i k))/\Kept none' W0 wr)
 case atStart=>exact⟨0,by omega,rfl,by omega,World.ownsRow_nil _ _ _ _,Kept.refl _ _⟩
 case round=>
  obtain⟨k,hkl,rfl,hg,hown,hkp⟩:=hrel
  obtain⟨oa,oc,rfl⟩:=dP hown
  have e1:=hkp.cell (p:=⟨w.heap.size,1,none⟩) (fun h=>h) d1
  by_cases hlt:k<j.nodes.length
  ·obtain⟨d,hd⟩: ∃d,j.nodes[k]?=some d:=⟨_,List.getElem?_eq_getElem hlt⟩
   obtain⟨b,off,pi,ci,p,cap',rfl,hc,hj⟩:=H3.out k d hd
   obtain⟨c0,c1,c2,c3,c4,c5,c6⟩:=hc.kept (K0.out.trans hkp) (fun h=>h)
   have hin:Reads w 1 (.slice pi d.ins.length ci) (ints d.ins):=by
    obtain⟨_,_,_,_,e,_,hx,_⟩:=hj
    injection e with e
    simp only[List.cons.injEq,and_true,true_and]at e
    obtain⟨e1,e2⟩:=e
    rw[e1];exact hx
   obtain⟨ia,il,ic,ie,i1,i2,_,NV⟩:=hin.pure (K0.out.trans hkp)
   injection ie with ZO ZN ZM
   subst ZO ZN ZM
   unfold maxLen at i2
   have i3: ∀(m:Nat)(x:Int),d.ins[m]?=some x-> ∃b off,pi=some ⟨b,off,none⟩/\wr.cell? ⟨b,off+m,none⟩=some (.int .i64 x):=by
    intro m x hx
    have hne:ints d.ins≠[]:=fun e=>by unfold ints at e;rw[List.map_eq_nil_iff]at e;rw[e]at hx;cases hx
    obtain⟨b,off,e,hc⟩:=NV.resolve_left hne
    exact⟨b,off,e,hc m _ (by unfold ints;rw[List.getElem?_map,hx];rfl)⟩
   clear NV
   have I3:=Lib.hid i3
   have G:=Lib.hid (And.intro hg (And.intro hown (And.intro hkp hd)))
   clear hd hj hc hg hown hkp hin H3 i3
   go_wp2_with fail
   go_loopg [7,8] d.ins.length (fun g vb vi W=> ∃(m:Nat),m<=d.ins.length/\vi= .int .i64 (m:Int)/\vb= .bool (decide ((i:Int)∈d.ins.take m))/\d.ins.length-m<=g/\W=wr)
   case atStart=>exact⟨0,by omega,rfl,by simp,by omega,rfl⟩
   case round=>
    obtain⟨m,hml,rfl,rfl,hgm,rfl⟩:=hrel
    by_cases hmt:m<d.ins.length
    ·obtain⟨x,hx⟩: ∃x,d.ins[m]?=some x:=⟨_,List.getElem?_eq_getElem hmt⟩
     obtain⟨bi,oi,rfl,y⟩:=I3.out m x hx
     have E:=Lib.hid (show((i:Int)∈d.ins.take (m+1))↔((i:Int)∈d.ins.take m\/x=(i:Int)) by
      rw[List.take_add_one,hx,List.mem_append];simp[eq_comm])
     have HG:=Lib.hid hgm
     clear hx hgm
     by_cases hm:(i:Int)∈d.ins.take m
     ·have b1:decide ((i:Int)∈d.ins.take m)=true:=decide_eq_true hm
      have b2:=Lib.hid (decide_eq_true (E.out.2 (.inl hm)))
      rw[b1]
      clear b1 hm
      go_wp2_with fail
      go_roundg (d.ins.length-(m+1))
      case rel=>exact⟨m+1,by omega,by go_num,by rw[b2.out],Nat.le_refl _,rfl⟩
      case measure=>have:=HG.out;omega
     ·have b1:decide ((i:Int)∈d.ins.take m)=false:=decide_eq_false hm
      have b2:=Lib.hid (show(x==(i:Int))=decide ((i:Int)∈d.ins.take (m+1)) by
       rw[Bool.eq_iff_iff,beq_iff_eq,decide_eq_true_iff,E.out]
       exact⟨.inr,fun h=>h.resolve_left hm⟩)
      rw[b1]
      clear b1 hm
      go_wp2_with fail
      go_roundg (d.ins.length-(m+1))
      case rel=>exact⟨m+1,by omega,by go_num,by rw[<-b2.out],Nat.le_refl _,rfl⟩
      case measure=>have:=HG.out;omega
    ·obtain rfl:m=d.ins.length:=by omega
     rw[List.take_length]
     clear hgm
     have hle:=FX j.nodes i k
     by_cases hm:(i:Int)∈d.ins
     ·have b1:decide ((i:Int)∈d.ins)=true:=decide_eq_true hm
      rw[b1]
      have E1:=Lib.hid (oD (i:=i) G.out.2.2.2)
      rw[if_pos hm]at E1
      obtain⟨ti,hi3,hz3,hs3,hb3⟩:=rM
      obtain⟨v',w',b1,b2,b3⟩:=Qg (x:= .int .i64 (k:Int)) (bytes:=8) Tryz.underlying74 hi3 hz3 hs3 hb3 rfl rfl G.out.2.1 (by omega) (by omega) G.out.2.2.1.size 37
      have hnew:w'.ownsRow W0.heap.size 3 1 v' (dG j.nodes i (k+1)).length (ints (dG j.nodes i (k+1))):=by
       rw[E1.out,List.length_append]
       unfold ints at b2⊢
       rw[List.map_append]
       exact b2
      have F:=Lib.hid (And.intro hnew (G.out.2.2.1.new b3 (fun i hi h=>by omega)))
      have B1:=Lib.hid b1
      clear b1 b2 b3 hnew hi3 hz3 hs3 hb3 hm
      go_wp2_with (at_builtin;refine wpList_append_run rfl (.tmp 42) (.tmp 44) 74 rfl (.slice oa (dG j.nodes i k).length oc) (.slice (some ⟨wr.heap.size,0,none⟩) 1 1) v' rfl rfl B1.out ?_)
      go_roundg (j.nodes.length-(k+1))
      case rel=>exact⟨k+1,by omega,by go_num,Nat.le_refl _,F.out⟩
      case measure=>have:=G.out.1;omega
     ·have b1:decide ((i:Int)∈d.ins)=false:=decide_eq_false hm
      rw[b1]
      have E1:=oD (i:=i) G.out.2.2.2
      rw[if_neg hm,List.append_nil]at E1
      have F:=Lib.hid (show wr.ownsRow W0.heap.size 3 1 (.slice oa (dG j.nodes i k).length oc) (dG j.nodes i (k+1)).length (ints (dG j.nodes i (k+1))) by rw[E1];exact G.out.2.1)
      clear hm b1 E1
      go_wp2_with fail
      go_roundg (j.nodes.length-(k+1))
      case rel=>exact⟨k+1,by omega,by go_num,Nat.le_refl _,F.out,G.out.2.2.1⟩
      case measure=>have:=G.out.1;omega
  ·have e1:k=j.nodes.length:=by omega
   subst e1
   have hF:(dG j.nodes i j.nodes.length).length=fZ j.nodes i:=by rw[tC _ _ _ (Nat.le_refl _),List.take_length];rfl
   rw[hF]at hown
   rw[hF]
   have HK:=Lib.hid (And.intro (K0.out.trans hkp) (show wr.ownsRow w.heap.size 3 1 (.slice oa (fZ j.nodes i) oc) (fZ j.nodes i) (ints (dG j.nodes i j.nodes.length))from⟨hown.1,hown.2.imp id fun⟨g,cap,cur,e1,e2,rest⟩=>⟨g,cap,cur,e1,by omega,rest⟩⟩))
   clear hkp hown hF
   go_wp2_with fail
   go_ret
   exact⟨_,rfl,HK.out.2,HK.out.1⟩
mutual
def kU:Ex->Ex->Bool
 | .mk o n l,y=>(o==y.op)&&(n==y.n)&&(l.length==y.args.length)&&lU l y.args
def lU:List Ex->List Ex->Bool
 |x::l,y::m=>kU x y&&lU l m
 |[],_=>true
 |_,[]=>true
end
theorem N9 (x y:Ex):kU x y=((x.op==y.op)&&(x.n==y.n)&&(x.args.length==y.args.length)&&lU x.args y.args):=by
 cases x;rw[kU];rfl
theorem Gl: ∀(l m:List Ex),(∀(k:Nat)(a b:Ex),l[k]?=some a->m[k]?=some b->kU a b=true)->lU l m=true
 |x::l,y::m,h=>by
  rw[lU,h 0 x y rfl rfl,Bool.true_and]
  exact Gl l m fun k a b ha hb=>h (k+1) a b (by simpa using ha) (by simpa using hb)
 |[],_,_=>by rw[lU]
 |_::_,[],_=>by rw[lU];simp
theorem J7: ∀(l m:List Ex)(k:Nat)(a b:Ex),l[k]?=some a->m[k]?=some b->kU a b=false->lU l m=false
 |x::l,y::m,0,a,b,ha,hb,h=>by
  rw[List.getElem?_cons_zero]at ha hb
  injection ha with ha;injection hb with hb
  rw[lU,ha,hb,h,Bool.false_and]
 |x::l,y::m,k+1,a,b,ha,hb,h=>by
  rw[List.getElem?_cons_succ]at ha hb
  rw[lU,J7 l m k a b ha hb h,Bool.and_false]
 |[],_,k,_,_,ha,_,_=>by simp at ha
 |_::_,[],k,_,_,_,hb,_=>by simp at hb
theorem Na: ∀(N:Nat)(x y:Ex)(a b:Array Value)(w:World),SizeOf.sizeOf x<=N->bg w a x->bg w b y->Calls Tryz.prog 70 #[.agg a, .agg b] w (Gives w (.bool (kU x y)))
 |0,x,_,_,_,_,h,_,_=>by cases x;simp at h
 |N+1,x,y,a,b,w,hN,h,g=>by
  obtain⟨p,cap,rfl,h0,h1,h2,h3,h4,h5⟩:=h.parts
  obtain⟨q,caq,rfl,g0,g1,g2,g3,g4,g5⟩:=g.parts
  have sub: ∀(i:Nat)(z:Ex),x.args[i]?=some z->SizeOf.sizeOf z<=N:=by
   intro i y hy
   obtain⟨op,n,args⟩:=x
   have h1:=List.sizeOf_lt_of_mem (List.mem_of_getElem? (show args[i]?=some y from hy))
   simp at hN
   omega
  have IH:=Lib.hid (fun x y a b w hy=>Na N x y a b w hy)
  have SB:=Lib.hid sub
  have H5:=Lib.hid h5
  have G5:=Lib.hid g5
  have HX:=Lib.hid (N9 x y)
  unfold maxLen at h4 g4
  unfold aO at h2 g2
  obtain⟨h2,h2'⟩:=h2
  obtain⟨g2,g2'⟩:=g2
  clear h h5 g g5 sub hN
  by_cases c0:x.op=y.op
  ·have b0:(x.op !=y.op)=false:=by simp[c0]
   by_cases c1:x.n=y.n
   ·have b1:(x.n !=y.n)=false:=by simp[c1]
    by_cases c2:x.args.length=y.args.length
    ·have b2:((x.args.length:Int) !=(y.args.length:Int))=false:=by simp[c2]
     have HS:=Lib.hid (show kU x y=lU x.args y.args by rw[HX.out];simp[c0,c1,c2])
     clear c0 c1
     have C2:=Lib.hid c2
     clear c2
     go_enter Tryz.func70,Tryz.ntmps70
     go_wp2_with fail
     obtain⟨W0,hW0⟩: ∃W0,(w.alloc (.cells #[.int .u8 x.op, .int .i64 x.n, .slice p x.args.length cap] 77)).alloc (.cells #[.int .u8 y.op, .int .i64 y.n, .slice q y.args.length caq] 77)=W0:=⟨_,rfl⟩
     have k0:Kept none' w W0:=by rw[<-hW0];exact((Kept.refl _ _).alloc _).alloc _
     have d0:W0.cell? ⟨w.heap.size,0,none⟩=some (.int .u8 x.op):=by rw[<-hW0];simp
     have d1:W0.cell? ⟨w.heap.size,1,none⟩=some (.int .i64 x.n):=by rw[<-hW0];simp
     have d2:W0.cell? ⟨w.heap.size,2,none⟩=some (.slice p x.args.length cap):=by rw[<-hW0];simp
     have e0:W0.cell? ⟨w.heap.size+1,0,none⟩=some (.int .u8 y.op):=by rw[<-hW0];simp
     have e1:W0.cell? ⟨w.heap.size+1,1,none⟩=some (.int .i64 y.n):=by rw[<-hW0];simp
     have e2:W0.cell? ⟨w.heap.size+1,2,none⟩=some (.slice q y.args.length caq):=by rw[<-hW0];simp
     (try simp only[World.ahC,World.size_alloc,Array.size_push]at*)
     rw[hW0]
     have KF:=Lib.hid k0
     clear hW0 k0
     go_loopg [5] x.args.length (fun g vi wr=> ∃(k:Nat),k<=x.args.length/\vi= .int .i64 (k:Int)/\x.args.length-k<=g/\(∀(j:Nat)(a b:Ex),j<k->x.args[j]?=some a->y.args[j]?=some b->kU a b=true)/\Kept none' W0 wr)
     case atStart=>exact⟨0,by omega,rfl,by omega,by intro j a b h;omega,Kept.refl _ _⟩
     case round=>
      obtain⟨k,hkl,rfl,hg,hall,hkp⟩:=hrel
      have d2':=hkp.cell (p:=⟨w.heap.size,2,none⟩) (fun h=>h) d2
      have e2':=hkp.cell (p:=⟨w.heap.size+1,2,none⟩) (fun h=>h) e2
      have HKP:=Lib.hid hkp
      have hW:=(KF.out.trans hkp:Kept none' w wr)
      clear hkp
      by_cases hlt:k<x.args.length
      ·obtain⟨u,hu⟩: ∃u,x.args[k]?=some u:=⟨_,List.getElem?_eq_getElem hlt⟩
       obtain⟨v,hv⟩: ∃v,y.args[k]?=some v:=⟨_,List.getElem?_eq_getElem (by have:=C2.out;omega)⟩
       have hlt2:k<y.args.length:=by have:=C2.out;omega
       obtain⟨b,off,p',cap',rfl,q0,q1,q2,hy2⟩:=H5.out k u hu
       obtain⟨b',off',p'',cap'',rfl,q0',q1',q2',afH⟩:=G5.out k v hv
       have r0:=hW.cell (p:=⟨b,off+k*3,none⟩) (fun h=>h) q0
       have r1:=hW.cell (p:=⟨b,off+k*3+1,none⟩) (fun h=>h) q1
       have r2:=hW.cell (p:=⟨b,off+k*3+2,none⟩) (fun h=>h) q2
       have s0:=hW.cell (p:=⟨b',off'+k*3,none⟩) (fun h=>h) q0'
       have s1:=hW.cell (p:=⟨b',off'+k*3+1,none⟩) (fun h=>h) q1'
       have s2:=hW.cell (p:=⟨b',off'+k*3+2,none⟩) (fun h=>h) q2'
       have G:=Lib.hid (And.intro hg (And.intro (bg.pure hW hy2) (And.intro (bg.pure hW afH) (And.intro (SB.out k u hu) (And.intro hu (And.intro hv hall))))))
       have KW:=Lib.hid hW
       clear q0 q1 q2 hy2 q0' q1' q2' afH hW hg hall hu hv
       go_wp2_with fail
       refine aZ [0,1,2,3,4,5,6,7,8,9,10,11] (fun W=>Kept none' wr W) (by kernel_rfl) (by kernel_rfl) rfl (Kept.refl _ _).drew ?_
       simp only[List.map_cons,List.map_nil,List.getElem?_toArray,List.getElem?_cons_zero,List.getElem?_cons_succ,Option.getD_some]
       iterate 10 (apply bC rfl rfl;(intro W hW;have z0:=hW.cell (fun h=>h) d2';have z1:=hW.cell (fun h=>h) e2';have t0:=hW.cell (fun h=>h) r0;have t1:=hW.cell (fun h=>h) r1;have t2:=hW.cell (fun h=>h) r2;have t3:=hW.cell (fun h=>h) s0;have t4:=hW.cell (fun h=>h) s1;have t5:=hW.cell (fun h=>h) s2;go_simp;rfl);go_frame)
       apply iC rfl rfl
       intro K hK
       go_wp2_with fail
       have c:=IH.out u v _ _ _ G.out.2.2.2.1 (bg.pure (Kept.refl _ _).drew G.out.2.1) (bg.pure (Kept.refl _ _).drew G.out.2.2.1)
       (with_reducible refine c.mono ?_)
       clear c
       rintro e w2 ⟨rfl,k2⟩
       have k2':Kept none' wr w2:=k2.kL
       have K2:=Lib.hid (And.intro (KW.out.trans k2') (HKP.out.trans k2'))
       obtain⟨B,hB⟩: ∃B,kU u v=B:=⟨_,rfl⟩
       rw[hB]
       go_wp2_with fail
       refine hK _ _ (fun _=>k2') ?_
       clear hK k2
       (apply bC rfl rfl;(intro W hW;go_simp;rfl);go_frame)
       refine fU (fun _=>k2') ?_
       clear k2'
       cases B with
       |false=>
        have F:=Lib.hid (show kU x y=false by rw[HS.out];exact J7 _ _ k u v G.out.2.2.2.2.1 G.out.2.2.2.2.2.1 hB)
        clear hB
        go_wp2_with fail
        go_ret
        exact⟨aU F.out.symm,K2.out.1⟩
       |true=>
        have F:=Lib.hid hB
        clear hB
        go_wp2_with fail
        go_roundg (x.args.length-(k+1))
        case rel=>
         refine⟨k+1,by omega,by go_num,Nat.le_refl _,?_,K2.out.2⟩
         intro j a b hj ha hb
         by_cases hjk:j<k
         ·exact G.out.2.2.2.2.2.2 j a b hjk ha hb
         ·obtain rfl:j=k:=by omega
          have e1:=G.out.2.2.2.2.1
          have e2:=G.out.2.2.2.2.2.1
          rw[e1]at ha;rw[e2]at hb
          injection ha with ha;injection hb with hb
          subst ha;subst hb
          exact F.out
        case measure=>have:=G.out.1;omega
      ·have F:=Lib.hid (show kU x y=true by
        rw[HS.out]
        refine Gl _ _ fun j a b ha hb=>hall j a b ?_ ha hb
        have:j<x.args.length:=by rcases Nat.lt_or_ge j x.args.length with h'|h';exact h';rw[List.getElem?_eq_none h']at ha;cases ha
        omega)
       have KF2:=Lib.hid hW
       clear hall hW hg
       go_wp2_with fail
       go_ret
       exact⟨aU F.out.symm,KF2.out⟩
    ·have b2:((x.args.length:Int) !=(y.args.length:Int))=true:=by simp only[bne_iff_ne,ne_eq];omega
     have F:=Lib.hid (show kU x y=false by rw[HX.out];simp[c2])
     clear c2
     go_enter Tryz.func70,Tryz.ntmps70
     go_wp2_with fail
     go_ret
     exact⟨aU F.out.symm,((Kept.refl _ _).alloc _).alloc _⟩
   ·have b1:(x.n !=y.n)=true:=by simp only[bne_iff_ne,ne_eq];omega
    have F:=Lib.hid (show kU x y=false by rw[HX.out];simp[c1])
    clear c1
    go_enter Tryz.func70,Tryz.ntmps70
    go_wp2_with fail
    go_ret
    exact⟨aU F.out.symm,((Kept.refl _ _).alloc _).alloc _⟩
  ·have b0:(x.op !=y.op)=true:=by simp only[bne_iff_ne,ne_eq];omega
   have F:=Lib.hid (show kU x y=false by rw[HX.out];simp[c0])
   clear c0
   go_enter Tryz.func70,Tryz.ntmps70
   go_wp2_with fail
   go_ret
   exact⟨aU F.out.symm,((Kept.refl _ _).alloc _).alloc _⟩
end
end Go.Proofs.YtakhobfamnjnoaaGreatDoor
