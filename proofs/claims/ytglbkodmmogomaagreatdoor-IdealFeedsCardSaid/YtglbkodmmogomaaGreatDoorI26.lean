/- Numbers as bytes: the turned form; its bytes. -/
import Derived.Test.YtglbkodmmogomaaGreatDoorI18
import Derived.OneCell
import Derived.Lib.IndexBytes
set_option linter.unusedVariables false
set_option linter.unusedSimpArgs false
set_option maxHeartbeats 1000000
set_option maxRecDepth 100000
namespace Go.Proofs.YtglbkodmmogomaaGreatDoor
section
open Go Go.RowKit
theorem ZR {a:Nat}(h:a<2^64):a^^^(2^64-1)=2^64-1-a:=by have:= @BitVec.toNat_not 64 (BitVec.ofNat 64 a);have h2:=BitVec.xor_allOnes (x:=BitVec.ofNat 64 a);rw[<-h2,BitVec.toNat_xor,BitVec.toNat_allOnes,BitVec.toNat_ofNat,Nat.mod_eq_of_lt h]at this;exact this
theorem Xz {n:Int}(h: -9223372036854775808<=n/\n<=9223372036854775807):
 bits BinOp.xor IntKind.u64 (IntKind.u64.wrap (IntKind.u64.wrap n*2)) (IntKind.u64.wrap (n/9223372036854775808))=((je n:Nat):Int):=by
 rw[IntKind.wrap_u64,IntKind.wrap_u64,IntKind.wrap_u64];by_cases h0:0<=n
 ·obtain⟨m,rfl⟩:=Int.eq_ofNat_of_zero_le h0
  rw[show((m:Int)%18446744073709551616*2%18446744073709551616)=((2*m:Nat):Int) by omega,show((m:Int)/9223372036854775808%18446744073709551616)=((0:Nat):Int) by omega,
   bits_xor_u64_nat _ _ (by omega) (by omega),Nat.xor_zero]
  unfold je;rw[if_pos h0];omega
 ·obtain⟨m,hm⟩: ∃m:Nat,n= -(m:Int)-1:=⟨(-n-1).toNat,by omega⟩
  subst hm
  rw[show((-(m:Int)-1)%18446744073709551616*2%18446744073709551616)=((18446744073709551616-2-2*m:Nat):Int) by omega,
   show((-(m:Int)-1)/9223372036854775808%18446744073709551616)=((2^64-1:Nat):Int) by omega,
   bits_xor_u64_nat _ _ (by omega) (by omega),ZR (by omega)]
  unfold je;rw[if_neg h0];omega
theorem Uz (n:Int)(h:aH n)(w:World):Calls Tryz.prog 151 #[.int .i64 n] w fun e w'=>e= .returned (.int .u64 (je n))/\w=w':=by unfold aH at h;have e:=Xz h;go_enter Tryz.func151,Tryz.ntmps151;go_wp2;go_ret;exact⟨rfl,rfl⟩
def xU (l:List UInt8):List Value:=l.map fun x=> .int .u8 x.toNat
theorem adL:(List.range 256).all (fun a=>bits BinOp.or IntKind.u8 (a:Int) 128==((a%128+128:Nat):Int))=true:=by kernel_rfl
theorem adM (u:Nat):bits BinOp.or IntKind.u8 ((u:Int)%256) 128=((u%128+128:Nat):Int):=by
 have:=List.all_eq_true.1 adL (u%256) (List.mem_range.2 (Nat.mod_lt _ (by omega)));rw[beq_iff_eq]at this;rw[show((u:Int)%256)=((u%256:Nat):Int) by omega,this]
 congr 1;omega
@[simp] theorem yQ (l:List UInt8):(xU l).length=l.length:=by simp[xU]
theorem QB {q:Nat}(h:q<256):Value.int .u8 (q:Int)= .int .u8 ((UInt8.ofNat q).toNat:Int):=by rw[UInt8.toNat_ofNat_of_lt' (by simpa using h)]
theorem OZ {w:World}{base e n:Nat}{v:Value}{xs:List Value}(h:w.ownsRow base e 1 v n xs):n=xs.length:=by have:=h.1;omega
theorem Tryz.info5:(Tryz.prog.info? 5).map (fun i=>(i.zero,i.size,i.bytes))=some (some (.int .u8 0),1,1):=by kernel_rfl
theorem Jg {w:World}{base e size n:Nat}{v:Value}{xs:List Value}(h:w.ownsRow base e size v n xs){b:Nat}(hb:v.ownBlock=some b):base<=b/\b<w.heap.size:=by
 rcases h.2 with⟨rfl,_⟩|⟨g,cap,cur,rfl,h1,h2,_⟩
 ·cases hb
 ·cases hb;exact⟨h1,(κ.1 h2).1⟩
theorem put_walk (v:Value)(l:List Int)(w:World)(h:Reads w 1 v (ints l))(h64: ∀n∈l,aH n)(hb:l.length<=1073741824):
 Calls Tryz.prog 119 #[v] w fun e w'=>e= .returned (.string ⟨(dV l).toArray⟩)/\ε η w w':=by
 obtain⟨i0,hi,hz0,hz1,hz2⟩:=info_parts Tryz.info5;obtain⟨a,cap,rfl,h1,h2,h3⟩:=h.at;unfold maxLen at h2;have H3:=γ h3;have JY:=γ h64;clear h h3 h64;go_enter Tryz.func119,Tryz.ntmps119;go_wp2;go_loopg [3,9] l.length (fun g vb vi wr=> ∃(k n:Nat),vi= .int .i64 (k:Int)/\k<=l.length/\l.length-k<=g/\wr.ownsRow w.heap.size 5 1 vb n (xU (dV (l.take k)))/\ε η w wr)
 case atStart=>exact⟨0,0,rfl,by omega,by omega,⟨by simp[xU,dV],.inl ⟨rfl,rfl⟩⟩,ε.refl _ _⟩
 case round=>
  obtain⟨k,n,rfl,hk,hg,ho,hkp⟩:=hrel;have HG:=γ (θ hg hkp);by_cases hlt:k<l.length
  ·obtain⟨x,hx⟩: ∃x,l[k]?=some x:=⟨_,ι hlt⟩
   obtain⟨b0,off,rfl,hcl⟩:=H3.o.resolve_left (fun h=>by rw[h]at hx;cases hx);have q0:=hkp.cell (p:=⟨b0,off+k,none⟩) id (hcl k _ hx);have Ij:=JY.o x (ς hx);have HX:=γ hx;have HT:=γ (fun W=>Uz x Ij W);obtain⟨oa,oc,rfl⟩:=au ho;have HO:=γ ho;clear hcl hx Ij ho hg hkp;go_wp2_with fail;refine(HT.o _).mono ?_;rintro e w2 ⟨rfl,rfl⟩;go_wp2_with fail;obtain⟨u0,hu0⟩: ∃u0,je x=u0:=⟨_,rfl⟩;rw[hu0];have HU:=γ hu0;clear hu0;go_loopg [3,6] u0 (fun g vb vu wr2=> ∃(u n:Nat)(dn:List UInt8),vu= .int .u64 (u:Int)/\u<=g/\jW u0=dn++jW u/\wr2.ownsRow w.heap.size 5 1 vb n (xU (dV (l.take k)++dn))/\ε η w wr2)
   case atStart=>exact⟨u0,n,[],rfl,ξ _,rfl,by simpa using HO.o,HG.o.2⟩
   case round=>
    obtain⟨u,n,dn,rfl,AU,hdig,ho,hkp⟩:=hrel;by_cases hbig:128<=u
    ·obtain⟨DY,DX,rfl⟩:=au ho
     have hi1:(128:Int)<=(u:Int):=(by omega);have eo:=adM u;obtain⟨q,hq⟩: ∃q,u%128+128=q:=⟨_,rfl⟩;rw[hq]at eo;have hn:=OZ ho;have hd1:=Aj (JY.o x (ς HX.o));rw[HU.o,hdig,ν]at hd1;have hd2:=uH (l:=l.take k) (fun n hn=>JY.o n (List.mem_of_mem_take hn));rw[υ]at hd2;rw[yQ,ν]at hn;have hks:=hkp.size;have B1:ace ((n*1+[Value.int .u8 (q:Int)].length)*1<=140737488355328):=(by show _<=_;simp only[φ,Γ];omega);have B2:ace (n*1+[Value.int .u8 (q:Int)].length<=maxLen):=(by show _<=_;unfold maxLen;simp only[φ,Γ];omega);have B3:ace (w.heap.size<=(wr.alloc (.cells #[.int .u8 (q:Int)] 5)).heap.size):=(by show _<=_;simp;omega);have kk:ε η wr (wr.alloc (.cells #[.int .u8 (q:Int)] 5)):=δ.alloc _;have ZL:=γ (kk.owns ho (fun _ _ h=>h));have HR2:=γ (Reads.lit wr [.int .u8 (q:Int)] 5 1 1 rfl (by unfold maxLen;omega));have A:=γ (θ AU (θ hdig (θ (hkp.trans kk) (θ hq (θ (by omega:q<256) hbig)))));have ho1: ∀y∈[Value.int .u8 (q:Int)],y.oneCell'=true:=(by intro y hy;simp at hy;subst hy;rfl);have es:(u:Int)/128=((u/128:Nat):Int):=(by omega);obtain⟨u2,hu2⟩: ∃u2,u/128=u2:=⟨_,rfl⟩;rw[hu2]at es;have JV:=γ hu2;clear ho hn hd1 hd2 hks kk AU hdig hq hkp hu2;go_wp2_with (at_builtin;(refine jl rfl (.tmp 19) (.tmp 23) 220 rfl w.heap.size 5 i0 (.int .u8 0) 1 1 Tryz.underlying220 hi hz0 hz1 hz2 rfl (by decide) _ n _ rfl ZL.o _ [.int .u8 (q:Int)] rfl HR2.o ho1 B1.o B2.o B3.o ?_);intro v' n' w' g1 g2 g3 g4);obtain⟨va,vc,rfl⟩:=au g1;have F:ace (w'.ownsRow w.heap.size 5 1 (.slice va n' vc) n' (xU (dV (l.take k)++(dn++[UInt8.ofNat q])))/\ε η w w'):=(by refine⟨?_,A.o.2.2.1.new (ε.grown (S:=fun j=>w.heap.size<=j) g3 (fun j hj _=>(Jg ZL.o hj).1)) (fun j hj e=>by omega)⟩;rw[QB A.o.2.2.2.2.1]at g1;simpa[xU]using g1);clear g1 g2 g3 g4;go_wp2_with fail;go_roundg u2
     case rel=>refine⟨u2,n',dn++[UInt8.ofNat q],rfl,ξ _,?_,F.o.1,F.o.2⟩;rw[A.o.2.1,xR (by have:=A.o.2.2.2.2.2;omega),A.o.2.2.2.1,JV.o];simp
     case measure=>have:=A.o.1;have:=JV.o;omega
    ·obtain⟨DY,DX,rfl⟩:=au ho
     have hi1: ¬(128:Int)<=(u:Int):=(by omega);have eu:(u:Int)%256=(u:Int):=(by omega);have hn:=OZ ho;have hd1:=Aj (JY.o x (ς HX.o));rw[HU.o,hdig,ν]at hd1;have hd2:=uH (l:=l.take k) (fun n hn=>JY.o n (List.mem_of_mem_take hn));rw[υ]at hd2;rw[yQ,ν]at hn;have hks:=hkp.size;have B1:ace ((n*1+[Value.int .u8 (u:Int)].length)*1<=140737488355328):=(by show _<=_;simp only[φ,Γ];omega);have B2:ace (n*1+[Value.int .u8 (u:Int)].length<=maxLen):=(by show _<=_;unfold maxLen;simp only[φ,Γ];omega);have B3:ace (w.heap.size<=(wr.alloc (.cells #[.int .u8 (u:Int)] 5)).heap.size):=(by show _<=_;simp;omega);have kk:ε η wr (wr.alloc (.cells #[.int .u8 (u:Int)] 5)):=δ.alloc _;have ZL:=γ (kk.owns ho (fun _ _ h=>h));have HR2:=γ (Reads.lit wr [.int .u8 (u:Int)] 5 1 1 rfl (by unfold maxLen;omega));have A:=γ (θ AU (θ hdig (θ (hkp.trans kk) hbig)));have ho1: ∀y∈[Value.int .u8 (u:Int)],y.oneCell'=true:=(by intro y hy;simp at hy;subst hy;rfl);clear ho hn hd1 hd2 hks kk AU hdig hkp;go_wp2_with (at_builtin;(refine jl rfl (.tmp 25) (.tmp 28) 220 rfl w.heap.size 5 i0 (.int .u8 0) 1 1 Tryz.underlying220 hi hz0 hz1 hz2 rfl (by decide) _ n _ rfl ZL.o _ [.int .u8 (u:Int)] rfl HR2.o ho1 B1.o B2.o B3.o ?_);intro v' n' w' g1 g2 g3 g4);obtain⟨va,vc,rfl⟩:=au g1;have F:ace (w'.ownsRow w.heap.size 5 1 (.slice va n' vc) n' (xU (dV (l.take (k+1))))/\ε η w w'):=(by refine⟨?_,A.o.2.2.1.new (ε.grown (S:=fun j=>w.heap.size<=j) g3 (fun j hj _=>(Jg ZL.o hj).1)) (fun j hj e=>by omega)⟩;have hub:=A.o.2.2.2;rw[QB (by omega)]at g1;rw[Jd HX.o,HU.o,A.o.2.1,qE (by omega)];simpa[xU]using g1);clear g1 g2 g3 g4;go_wp2_with fail;go_roundg (l.length-(k+1))
     case rel=>exact⟨k+1,n',by go_num,by omega,ξ _,F.o.1,F.o.2⟩
     case measure=>have:=HG.o.1;omega
  ·have hkl:k=l.length:=by omega
   subst hkl;rw[χ (ξ _)]at ho;obtain⟨DY,DX,rfl⟩:=au ho;have hcv:(convert 220 9 (.slice DY n DX)).run Tryz.prog wr= .ok (.string ⟨(dV l).toArray⟩) wr:=by
    have hn:=OZ ho;rw[yQ]at hn
    rcases ho.2 with⟨h1,h2⟩|⟨g,cp,cur,h1,_,hg2,_,_,_,ht⟩
    ·injection h1 with h1 _ _
     subst h1;have e1:dV l=[]:=τ (by omega);rw[e1];exact run_convert_bytes_nil _ 220 5 Tryz.underlying220 Tryz.underlying5 _ _ 9 Tryz.underlying9
    ·injection h1 with h1 _ _
     subst h1;rw[hn];refine run_convert_bytes_back wr 220 9 5 ⟨g,0,none⟩ DX (dV l) Tryz.underlying220 Tryz.underlying5 Tryz.underlying9 (fun j hj=>?_);rw[Addr.add_lit,Nat.zero_add,cell_of_row wr g j cur 5 (0,0) hg2];have h3:(xU (dV l))[j]?=some (.int .u8 ((dV l)[j].toNat:Int)):=(by unfold xU;rw[abJ,ι hj];rfl);rw[<-ht,abO]at h3;split at h3
     ·simpa using h3
     ·cases h3
   have HK:=γ hkp;clear ho hg hkp HG;go_wp2_with fail;go_ret;exact⟨rfl,HK.o⟩
end
section
open Go Go.RowKit
attribute [local irreducible] cZ
theorem XD {w:World}{B:Nat->Prop}{b m:Nat}{T:Tab}(h:TabAt w B b m T)(ty:TypeId):(Builtin.len_ #[113] ty #[.map (some m)]).run Tryz.prog w= .ok (.int .i64 T.length) w:=by obtain⟨l,h1,h2,_⟩:=h.map;have:=h2.length_eq;unfold bT at this;simp only[List.length_map]at this;rw[h1.len (P:=Tryz.prog) Tryz.underlying113 ty,this]
theorem Zy (B:Nat->Prop)(b m:Nat)(T:Tab)(w:World)(h:TabAt w B b m T):Calls Tryz.prog 74 #[.pointer (some ⟨b,0,none⟩)] w (Gives w (.string (strOf (dV (uy T))))):=by
 have hcb:=h.cell;have hlen:=fun ty=>XD h ty;have HT:=γ h;clear h;go_enter Tryz.func74,Tryz.ntmps74;go_wp2_with fail;have kk:ε η w (w.alloc (.cells #[.int .i64 (T.length:Int)] 2)):=δ.alloc _;have hTl:=HT.o.ok.len;refine(put_walk _ [(T.length:Int)] _ (Reads.lit w (ints [(T.length:Int)]) 2 1 1 rfl (by unfold maxLen;omega)) (by intro n hn;simp at hn;subst hn;exact .small (by omega) (by omega)) (by simp)).mono ?_;rintro e w1 ⟨rfl,k1⟩;go_wp2_with fail;refine(Py B b m T w1 (HT.o.pure (kk.trans k1))).mono ?_;rintro e w2 ⟨kv,rfl,g1,g2,g3⟩;have hr:=Reads.aN g1;obtain⟨pa,ca,rfl,ka1,ka2,D7⟩:=hr.at;unfold maxLen at ka2;have K2:=γ (θ D7 ((kk.trans k1).trans g3));clear g1 g2 g3 D7 hr hlen kk k1;have yA:(bT T).length=T.length:=(by simp[bT]);have qJ:=γ yA;clear yA;go_wp2_with fail;go_loopg [3,19] T.length (fun g vs vi wr=> ∃k:Nat,vi= .int .i64 (k:Int)/\vs= .string (strOf (dV ((T.length:Int)::(T.take k).flatMap ku)))/\k<=T.length/\T.length-k<=g/\ε η w2 wr)
 case atStart=>exact⟨0,rfl,rfl,by omega,by omega,ε.refl _ _⟩
 case round=>
  obtain⟨k,rfl,rfl,hk,hg,hkp⟩:=hrel;by_cases hlt:k<T.length
  ·obtain⟨p,hp⟩: ∃p,T[k]?=some p:=⟨_,ι hlt⟩
   have hkey:(bT T)[k]?=some p.1:=(by unfold bT;rw[abJ,hp];rfl);obtain⟨kb,ko,rfl,hkc⟩:=K2.o.1.resolve_left (fun h=>by rw[h]at hkey;cases hkey);have r0:=hkp.cell (p:=⟨kb,ko+k,none⟩) id (hkc k _ hkey);have hT2:=HT.o.pure (K2.o.2.trans hkp);have hcb2:=hT2.cell;obtain⟨l,hml,hperm,hcs⟩:=hT2.map;have hlk:=hml.TT (P:=Tryz.prog) Tryz.underlying113 Tryz.underlying2 p.1 (Tryz.zeroValue109 wr);have hget:bY T p.1=some p.2:=(nS HT.o.ok.rises).2 (ς hp)
   rcases zI HT.o.ok.rises hperm hcs p.1 with⟨_,h2⟩|⟨cv,c,h1,h2,lv,rfl,hrd,_⟩
   ·rw[hget]at h2;cases h2
   ·rw[hget]at h2
    cases h2;rw[h1]at hlk;simp only[Δ]at hlk;obtain⟨la,lc,rfl,hl1,hl2,_⟩:=hrd.at;unfold maxLen at hl2;have hlt2:((k:Nat):Int)<((bT T).length:Int):=(by rw[qJ.o];omega);have A:=γ (θ hg (θ hkp (θ hp (θ hrd (HT.o.ok.cell p (ς hp))))));have hkT:k<(bT T).length:=(by omega);clear hml hperm hcs hget h1 hrd hp hkey hkc hg hkp hT2;go_wp2_with fail;obtain⟨W1,hW1⟩:=acf (wr.alloc (.cells #[.int .i64 p.2.1,.slice la p.2.2.length lc] 109));have kw:ε η wr W1:=(by rw[<-hW1];exact δ.alloc _);have d0:W1.cell? ⟨wr.heap.size,0,none⟩=some (.int .i64 p.2.1):=(by rw[<-hW1];simp);have d1:W1.cell? ⟨wr.heap.size,1,none⟩=some (.slice la p.2.2.length lc):=(by rw[<-hW1];simp);rw[hW1];clear hW1 hlk r0 hcb2;obtain⟨s0,hs0⟩: ∃s0,strOf (dV ((T.length:Int)::(T.take k).flatMap ku))=s0:=⟨_,rfl⟩;rw[hs0];have HS:=γ hs0;clear hs0;refine ak [0,1,2,3,4,5,6,9,10,7,8,11,12,13,14] (fun W=>ε η W1 W) (by kernel_rfl) (by kernel_rfl) rfl δ.drew ?_;simp only[abU];iterate 9 (apply aj rfl rfl;(intro W hW;have c0:=hW.cell id d0;have c1:=hW.cell id d1;go_simp;rfl);go_frame)
    apply aA rfl rfl;intro K hK;go_wp2_with fail;have k3:ε η W1 (W1.drew.alloc (.cells #[.int .i64 p.1,.int .i64 p.2.1,.int .i64 (p.2.2.length:Int)] 2)):=δ.drew.alloc _;refine hK _ _ (fun _=>k3) ?_;clear hK;apply aA rfl rfl;intro K2 hK2;go_wp2_with fail;have hck:=A.o.2.2.2.2;have ab1:=HT.o.ok.key p (ς A.o.2.2.1)
    have c1:=put_walk _ [p.1,p.2.1,(p.2.2.length:Int)] _ (Reads.lit W1.drew (ints [p.1,p.2.1,(p.2.2.length:Int)]) 2 1 3 rfl (by unfold maxLen;omega)) (by
     intro n hn;simp only[abR,List.not_mem_nil,or_false]at hn
     rcases hn with rfl|rfl|rfl
     ·exact ab1
     ·exact hck.1
     ·have:=hck.2.2;exact .small (by omega) (by omega)) (by simp)
    refine c1.mono ?_;clear c1;rintro e w5 ⟨rfl,k5⟩;obtain⟨b1,hb1⟩: ∃b1,(⟨(dV [p.1,p.2.1,(p.2.2.length:Int)]).toArray⟩:ByteArray)=b1:=⟨_,rfl⟩;rw[hb1];have HB1:=γ hb1;clear hb1;have k6:ε η W1 w5:=k3.trans k5;go_wp2_with fail;refine hK2 _ _ (fun _=>k6) ?_;clear hK2;apply aA rfl rfl;intro K3 hK3;go_wp2_with fail;have c2:=put_walk _ p.2.2 _ (A.o.2.2.2.1.pure (kw.trans k6)) hck.2.1 (by have:=hck.2.2;omega);refine c2.mono ?_;clear c2;rintro e w7 ⟨rfl,k7⟩;obtain⟨b2,hb2⟩: ∃b2,(⟨(dV p.2.2).toArray⟩:ByteArray)=b2:=⟨_,rfl⟩;rw[hb2];have HB2:=γ hb2;clear hb2;have k8:ε η W1 w7:=k6.trans k7;go_wp2_with fail;refine hK3 _ _ (fun _=>k8) ?_;clear hK3;have z1:b1.size<=30:=by
     rw[<-HB1.o]
     exact uH (l:=[p.1,p.2.1,(p.2.2.length:Int)]) (by
      intro n hn;simp only[abR,List.not_mem_nil,or_false]at hn
      rcases hn with rfl|rfl|rfl
      ·exact ab1
      ·exact hck.1
      ·have:=hck.2.2;exact .small (by omega) (by omega))
    have z2:b2.size<=160:=(by rw[<-HB2.o];have:=uH hck.2.1;show(dV p.2.2).length<=160;have:=hck.2.2;omega);have z0:s0.size<=1000000:=by
     rw[<-HS.o,sN];have hr:=rows_ok (T:=T.take k) (fun q hq=>HT.o.ok.key q (List.mem_of_mem_take hq)) (fun q hq=>HT.o.ok.cell q (List.mem_of_mem_take hq))
     have h1:=uH (l:=(T.length:Int)::(T.take k).flatMap ku) (by
      intro n hn
      rcases abR.1 hn with rfl|hn
      ·exact .small (by omega) (by omega)
      ·exact hr.1 n hn)
     have h2:=hr.2;rw[υ]at h2;rw[φ]at h1;omega
    have z3: ¬9223372036854775807<b1.size+b2.size:=(by omega);have z4: ¬9223372036854775807<s0.size+(b1.size+b2.size):=(by omega);iterate 3 (apply aj rfl rfl;(intro W hW;go_simp;rfl);go_frame)
    refine aG (fun _=>k8) ?_;go_wp2_with fail;go_roundg (T.length-(k+1))
    case rel=>refine⟨k+1,by go_num,?_,by omega,ξ _,A.o.2.1.trans (kw.trans k8)⟩;rw[IY A.o.2.2.1,<-HS.o,<-HB1.o,<-HB2.o];have e1:((T.length:Int)::((T.take k).flatMap ku++ku p))=((T.length:Int)::(T.take k).flatMap ku)++([p.1,p.2.1,(p.2.2.length:Int)]++p.2.2):=(by simp[ku]);rw[e1,yL,yL,<-kP,<-kP];rfl
    case measure=>have:=A.o.1;omega
  ·have hkl:k=T.length:=by omega
   subst hkl;have hlt2: ¬((T.length:Nat):Int)<((bT T).length:Int):=(by rw[qJ.o];omega);rw[χ (ξ _)];go_wp2_with fail;go_ret;exact⟨rfl,K2.o.2.trans hkp⟩
end
section
open Go Go.RowKit
theorem Sl (a:Nat)(ha:a<9223372036854775808):bits .xor .i64 (a:Int) (-1)= -1-(a:Int):=by show IntKind.i64.wrap ((BitVec.ofInt 64 (a:Int)^^^BitVec.ofInt 64 (-1)).toNat:Int)=_;have h1:BitVec.ofInt 64 (-1)=BitVec.allOnes 64:=(by decide);rw[h1,BitVec.xor_allOnes,BitVec.toNat_not,ofInt_u64 a (by omega)];simp[IntKind.wrap,IntKind.bits,IntKind.signed];omega
theorem PK (a:Nat)(ha:a<9223372036854775808):bits .xor .i64 (a:Int) 0=(a:Int):=by show IntKind.i64.wrap ((BitVec.ofInt 64 (a:Int)^^^BitVec.ofInt 64 0).toNat:Int)=_;have h1:BitVec.ofInt 64 0=0#64:=(by decide);rw[h1,BitVec.xor_zero,ofInt_u64 a (by omega)];simp[IntKind.wrap,IntKind.bits,IntKind.signed];omega
theorem ZA {u:Nat}(hu:u<18446744073709551616):bits .xor .i64 ((u/2:Nat):Int) (-((u%2:Nat):Int))=lD u:=by
 unfold lD;have h2:u%2=0\/u%2=1:=by omega
 rcases h2 with h2|h2
 ·rw[h2,if_pos rfl];exact PK _ (by omega)
 ·rw[h2,if_neg (by omega)]
  have:=Sl (u/2) (by omega);rw[show(-((1:Nat):Int))= -1 from rfl,this];omega
theorem Am (u:Nat)(hu:u<18446744073709551616)(w:World):Calls Tryz.prog 96 #[.int .u64 (u:Int)] w fun e w'=>e= .returned (.int .i64 (lD u))/\w=w':=by have e1:bits .and .u64 (u:Int) 1=((u%2:Nat):Int):=(by have:=u64_and_nat u 1 hu (by omega);rw[nat_mask1]at this;exact this);have hb:=ZA hu;obtain⟨v,hv⟩: ∃v,u%2=v:=⟨_,rfl⟩;have hv2:v<2:=(by omega);rw[hv]at e1 hb;have HV:=γ hv;have HB:=γ hb;clear hv hb;go_enter Tryz.func96,Tryz.ntmps96;go_wp2;go_ret;exact⟨gW (by rw[show((u:Int)/2)=((u/2:Nat):Int) by omega];exact HB.o),rfl⟩
theorem aar (k:Nat):(2:Nat)^(7*k)=128^k:=by rw[Nat.pow_mul]
theorem acZ {U d k:Nat}(h1:U<128^k)(h2:U+d*128^k<18446744073709551616):bits .or .u64 (U:Int) (IntKind.u64.wrap ((d:Int)*2^(7*k)))=((U+d*128^k:Nat):Int):=by
 have e1:(d:Int)*2^(7*k)=((d*128^k:Nat):Int):=(by rw[<-aar];simp);rw[e1,IntKind.wrap_u64,Int.emod_eq_of_lt (by omega) (by omega),u64_or_nat _ _ (by omega) (by omega),Nat.or_comm,nat_join (7*k) _ _ (by rw[aar];simp) (by rw[aar];exact h1)]
 congr 1
 omega
theorem adl {c:Nat}(h:c<256):bits .and .u8 (c:Int) 128=if 128<=c then 128 else 0:=by
 have:=u8_and_nat c 128 h (by omega);rw[show(128:Nat)=2^7 from rfl,nat_bit]at this;have e:c/2^7%2=if 128<=c then 1 else 0:=(by split<;>omega);rw[e]at this;split
 ·rename_i hc;rw[if_pos hc]at this;exact this
 ·rename_i hc;rw[if_neg hc]at this;exact this
def TkQ (w:World)(x:Int×Nat×Int)(e:Ending)(w':World):Prop:=e= .returned (.tuple #[.int .i64 x.1,.int .i64 (x.2.1:Int),.int .i64 x.2.2])/\w=w'
theorem Zz (s:ByteArray)(hs:s.size<=maxLen)(w:World):Calls Tryz.prog 48 #[.string s] w (TkQ w (tk s.data.toList)):=by
 unfold maxLen at hs;go_enter Tryz.func48,Tryz.ntmps48;go_wp2_with fail
 go_step3
 go_wp2_with fail
 go_step3
 go_wp2_with fail;go_loopg [5,6] 11 (fun g vu vi wr=> ∃k U:Nat,vi= .int .i64 (k:Int)/\vu= .int .u64 (U:Int)/\k<=9/\k<=s.size/\U<128^k/\11-k<=g/\tk s.data.toList=gJ k U (s.data.toList.drop k)/\wr=w)
 case atStart=>exact⟨0,0,rfl,rfl,by omega,by omega,by decide,by omega,rfl,rfl⟩
 case round=>
  obtain⟨k,U,rfl,rfl,hk9,hks,hU,hg,hT,rfl⟩:=hrel;have HT:=γ (θ hT (θ hU hg));clear hT hU hg;by_cases hlt:k<s.size
  ·obtain⟨c,hc⟩: ∃c,s[k].toNat=c:=⟨_,rfl⟩
   have hc256:c<256:=(by rw[<-hc];exact s[k].toNat_lt);have hU2:U<9223372036854775808:=(by have h1:128^k<=128^9:=Nat.pow_le_pow_right (by omega) hk9;rw[Va]at h1;have:=HT.o.2.1;omega);have hdr:s.data.toList.drop k=s[k]::s.data.toList.drop (k+1):=(by rw[abS (by simpa using hlt)];rfl);have HD:=γ hdr;have HC:=γ hc;clear hdr;by_cases hbad:k=9/\1<c
   ·obtain⟨rfl,hc1⟩:=hbad
    have hcb:(1:Int)<(s[9].toNat:Int):=(by omega);clear hc;go_wp2_with fail;try rw[Exit.noGoto_ret]
    go_ret3
    have e:=HT.o.1;rw[HD.o,gJ,HC.o,if_pos ⟨rfl,hc1⟩]at e;rw[e];exact⟨rfl,rfl⟩
   ·have h9:k=9-> ¬(1:Int)<(s[k].toNat:Int):=fun h h1=>hbad ⟨h,by omega⟩
    have b1:bits .andNot .u8 (s[k].toNat:Int) 128=((c%128:Nat):Int):=by rw[hc];have:=u8_andNot_nat c 128 hc256 (by omega);rw[show 255-128=127 from rfl,nat_mask7]at this;exact this
    obtain⟨d,hd⟩: ∃d,c%128=d:=⟨_,rfl⟩;rw[hd]at b1;have hd2:d<128:=(by omega);have hV:U+d*128^k<18446744073709551616/\(k<=8->U+d*128^k<128^(k+1)):=by
     have hUk:=HT.o.2.1;constructor
     ·by_cases hk:k=9
      ·subst hk
       have:d<=1:=(by have:=h9 rfl;omega);rw[Va]at*;have:d*9223372036854775808<=1*9223372036854775808:=Nat.mul_le_mul_right _ this;omega
      ·have h1:128^k<=128^8:=Nat.pow_le_pow_right (by omega) (by omega)
       have h2:d*128^k<=127*128^k:=Nat.mul_le_mul_right _ (by omega);have h3:(128:Nat)^8=72057594037927936:=(by decide);omega
     ·intro _
      have h2:d*128^k<=127*128^k:=Nat.mul_le_mul_right _ (by omega);rw[Nat.pow_succ];omega
    have b2:=acZ HT.o.2.1 hV.1;obtain⟨V,hVV⟩: ∃V,U+d*128^k=V:=⟨_,rfl⟩;rw[hVV]at b2 hV;have b4:bits .and .u8 (s[k].toNat:Int) 128=if 128<=c then 128 else 0:=(by rw[hc];exact adl hc256);have hsk: ∀h:c=0,((s[k].toNat:Int)==0)=true:=fun h=>(by rw[hc,h];rfl);have Vp: ∀h:c≠0,((s[k].toNat:Int)==0)=false:=fun h=>(by rw[hc];exact beq_eq_false_iff_ne.2 (by omega));have hV1:=hV.1;have e0:=HT.o.1;rw[HD.o,gJ,HC.o,if_neg hbad,hd,hVV]at e0;have E0:=γ e0;have HH:=γ (θ hd (θ hV.2 hbad));clear hd hc hbad e0 hV hVV;by_cases hbig:128<=c
    ·have hk9':((k:Int)==9)=false:=beq_eq_false_iff_ne.2 (by have:=HH.o.2.2;omega)
     have hk8:k<=8:=(by have:=HH.o.2.2;omega);have F:=γ (show tk s.data.toList=gJ (k+1) V (s.data.toList.drop (k+1))/\V<128^(k+1)from⟨by rw[E0.o,if_pos hbig],HH.o.2.1 hk8⟩);rw[if_pos hbig]at b4;clear h9 hsk Vp;go_wp2_with fail;go_roundg (11-(k+1))
     case rel=>exact⟨k+1,V,by go_num,rfl,by omega,by omega,F.o.2,ξ _,F.o.1,rfl⟩
     case measure=>have:=HT.o.2.2;omega
    ·rw[if_neg hbig]at b4 E0
     have hk:((k:Int)==9)=false\/(((k:Int)==9)=true/\ ¬(1:Int)<(s[k].toNat:Int)):=by
      by_cases h:k=9
      ·exact .inr ⟨by rw[h];rfl,h9 h⟩
      ·exact .inl (beq_eq_false_iff_ne.2 (by omega))
     clear h9;by_cases c0:c=0
     ·have z0:=hsk c0
      clear hsk Vp;by_cases k0:0<k
      ·have F:=γ (show tk s.data.toList=(0,0,21) by rw[E0.o,if_pos ⟨c0,k0⟩])
       have k1:(1:Int)<(k:Int)+1:=by omega
       rcases hk with hk|⟨hk,h1⟩
       ·go_wp2_with fail
        try rw[Exit.noGoto_ret]
        go_ret3
        rw[F.o];exact⟨rfl,rfl⟩
       ·go_wp2_with fail
        try rw[Exit.noGoto_ret]
        go_ret3
        rw[F.o];exact⟨rfl,rfl⟩
      ·have F:=γ (show tk s.data.toList=(lD V,k+1,0) by rw[E0.o,if_neg (fun h=>k0 h.2)])
       have k1: ¬(1:Int)<(k:Int)+1:=by omega
       rcases hk with hk|⟨hk,h1⟩
       ·go_wp2_with fail
        (with_reducible refine(Am V hV1 _).mono ?_);rintro e w' ⟨rfl,rfl⟩;go_wp2_with fail;try rw[Exit.noGoto_ret]
        go_ret3
        rw[F.o];exact⟨rfl,rfl⟩
       ·go_wp2_with fail
        (with_reducible refine(Am V hV1 _).mono ?_);rintro e w' ⟨rfl,rfl⟩;go_wp2_with fail;try rw[Exit.noGoto_ret]
        go_ret3
        rw[F.o];exact⟨rfl,rfl⟩
     ·have z0:=Vp c0
      have F:=γ (show tk s.data.toList=(lD V,k+1,0) by rw[E0.o,if_neg (fun h=>c0 h.1)]);clear hsk Vp
      rcases hk with hk|⟨hk,h1⟩
      ·go_wp2_with fail
       (with_reducible refine(Am V hV1 _).mono ?_);rintro e w' ⟨rfl,rfl⟩;go_wp2_with fail;try rw[Exit.noGoto_ret]
       go_ret3
       rw[F.o];exact⟨rfl,rfl⟩
      ·go_wp2_with fail
       (with_reducible refine(Am V hV1 _).mono ?_);rintro e w' ⟨rfl,rfl⟩;go_wp2_with fail;try rw[Exit.noGoto_ret]
       go_ret3
       rw[F.o];exact⟨rfl,rfl⟩
  ·go_wp2_with fail
   try rw[Exit.noGoto_ret]
   go_ret3
   have e:=HT.o.1;rw[List.drop_eq_nil_of_le (by simpa using hlt)]at e;rw[e];exact⟨rfl,rfl⟩
def jX {α:Type}(w:World)(E S:Nat):Rd α->Prop
 | .ok _ r=>w.heap[E]?=some (.cells #[.int .i64 0] 28 (0,0))/\ ∃s:ByteArray,w.heap[S]?=some (.cells #[.string s] 9 (0,0))/\s.data.toList=r/\s.size<=maxLen
 | .err f=>w.heap[E]?=some (.cells #[.int .i64 f] 28 (0,0))/\f≠0/\ ∃s:ByteArray,w.heap[S]?=some (.cells #[.string s] 9 (0,0))
def adv (a b:Nat):Nat->Prop:=fun k=>k=a\/k=b
def numAt {α:Type}(lo hi:Int)(x:Rd α):Rd Int:=x.bind fun _ r=>num lo hi r
def dM (lo:Int):Rd Int->Int
 | .ok n _=>n
 | .err _=>lo
def rG {α:Type}(w:World)(E S:Nat)(lo hi:Int)(x:Rd α)(e:Ending)(w':World):Prop:=
 e= .returned (.int .i64 (dM lo (numAt lo hi x)))/\jX w' E S (numAt lo hi x)/\ε (adv E S) w w'
theorem Fv: ∀(l:List UInt8)(i u:Nat),(gJ i u l).2.1<=i+l.length
 |[],_,_=>Nat.zero_le _
 |c::r,i,u=>by
  have h:=Fv r (i+1) (u+c.toNat%128*128^i);unfold gJ;rw[φ];split
  ·exact Nat.zero_le _
  ·split
   ·omega
   ·split
    ·exact Nat.zero_le _
    ·show i+1<=_;omega
theorem XC (l:List UInt8):(tk l).2.1<=l.length:=by have:=Fv l 0 0;unfold tk;omega
theorem jX.set {w:World}{E S:Nat}{a u:Value}{f:Int}{s:ByteArray}(xH:E≠S)(h1:w.heap[E]?=some (.cells #[a] 28 (0,0)))(h2:w.heap[S]?=some (.cells #[u] 9 (0,0)))(hu:u= .string s):
 (w.setCell ⟨E,0,none⟩ (.int .i64 f)).heap[E]?=some (.cells #[.int .i64 f] 28 (0,0))/\(w.setCell ⟨E,0,none⟩ (.int .i64 f)).heap[S]?=some (.cells #[.string s] 9 (0,0)):=
 ⟨one_setCell h1,by rw[Below.heap_setCell _ _ _ _ (fun e=>xH e.symm),h2,hu]⟩
theorem jX.set2 {w:World}{E S:Nat}{a u:Value}{t:ByteArray}(xH:E≠S)(h1:w.heap[E]?=some (.cells #[a] 28 (0,0)))(h2:w.heap[S]?=some (.cells #[u] 9 (0,0))):
 (w.setCell ⟨S,0,none⟩ (.string t)).heap[E]?=some (.cells #[a] 28 (0,0))/\(w.setCell ⟨S,0,none⟩ (.string t)).heap[S]?=some (.cells #[.string t] 9 (0,0)):=
 ⟨by rw[Below.heap_setCell _ _ _ _ xH,h1],one_setCell h2⟩
theorem tq {α:Type}(lo hi:Int)(E S:Nat)(x:Rd α)(w:World)(xH:E≠S)(h:jX w E S x):
 Calls Tryz.prog 47 #[.int .i64 lo,.int .i64 hi,.pointer (some ⟨E,0,none⟩),.pointer (some ⟨S,0,none⟩)] w (rG w E S lo hi x):=by
 cases x with
 |err f=>obtain⟨h1,h2,s,h3⟩:=h;have c0:=cell_of_one h1;have F:rG (α:=α) w E S lo hi (.err f) (.returned (.int .i64 lo)) w:=⟨rfl,⟨h1,h2,s,h3⟩,ε.refl _ _⟩;have FF:=γ F;have hf:(f !=0)=true:=bne_iff_ne.2 h2;clear F h1 h2 h3;go_enter Tryz.func47,Tryz.ntmps47;go_wp2_with fail;go_ret;exact FF.o
 |ok a r=>
  obtain⟨h1,s,h2,rfl,h3⟩:=h;have c0:=cell_of_one h1;have c1:=cell_of_one h2;have f0:=free_of_one h1;have f1:=free_of_one h2;have hE:=lt_of_block h1;have hS:=lt_of_block h2;have hb:=Zz s h3;obtain⟨x,hx⟩: ∃x,tk s.data.toList=x:=⟨_,rfl⟩;rw[hx]at hb;obtain⟨n,z,f⟩:=x;have HX:=γ (θ hx (θ h1 (θ h2 h3)));have HB:=γ hb;clear hx h1 h2 h3 hb;by_cases hf:f=0
  ·subst hf
   have hz:z<=s.size:=(by have:=XC s.data.toList;rw[HX.o.1]at this;exact this);have hzi: ¬(s.size:Int)<(z:Int):=(by omega);have hE0:=fun(f:Int)=>jX.set (w:=w) (f:=f) xH HX.o.2.1 HX.o.2.2.1 rfl
   have hst: ∀f:Int,((((w.setCell ⟨E,0,none⟩ (.int .i64 0)).setCell ⟨S,0,none⟩ (.string (s.extract z s.size))).setCell ⟨E,0,none⟩ (.int .i64 f)).heap[E]?=some (.cells #[.int .i64 f] 28 (0,0))/\(((w.setCell ⟨E,0,none⟩ (.int .i64 0)).setCell ⟨S,0,none⟩ (.string (s.extract z s.size))).setCell ⟨E,0,none⟩ (.int .i64 f)).heap[S]?=some (.cells #[.string (s.extract z s.size)] 9 (0,0))):=fun f=>
    have h2:=jX.set2 (t:=s.extract z s.size) xH (hE0 0).1 (hE0 0).2
    jX.set (f:=f) xH h2.1 h2.2 rfl
   have h2:=jX.set2 (t:=s.extract z s.size) xH (hE0 0).1 (hE0 0).2;have hk2:ε (adv E S) w ((w.setCell ⟨E,0,none⟩ (.int .i64 0)).setCell ⟨S,0,none⟩ (.string (s.extract z s.size))):=(δ.setCell (.inl (.inl rfl)) _).setCell (.inl (.inr rfl)) _;have hsz:(s.extract z s.size).size<=maxLen:=(by have:=HX.o.2.2.2;simp;omega);have ST:=γ (θ hst (θ h2 (θ hk2 hsz)));have hnum:num lo hi s.data.toList=if n<lo\/hi<n then .err 21 else .ok n (s.data.toList.drop z):=(by unfold num;rw[HX.o.1];simp);have HN:=γ hnum;clear hE0 hst h2 hk2 hsz hnum;have ways:n<lo\/(¬n<lo/\hi<n)\/(¬n<lo/\ ¬hi<n):=by omega
   rcases ways with w1|⟨w1,w2⟩|⟨w1,w2⟩
   ·have hn:numAt lo hi (Rd.ok a s.data.toList)= .err 21:=by show num lo hi _=_;rw[HN.o,if_pos (.inl w1)]
    have F:ace (rG w E S lo hi (.ok a s.data.toList) (.returned (.int .i64 lo)) (((w.setCell ⟨E,0,none⟩ (.int .i64 0)).setCell ⟨S,0,none⟩ (.string (s.extract z s.size))).setCell ⟨E,0,none⟩ (.int .i64 21))):=(by unfold rG;rw[hn];exact⟨rfl,⟨(ST.o.1 21).1,by decide,_,(ST.o.1 21).2⟩,ST.o.2.2.1.setCell (.inl (.inl rfl)) _⟩);clear hn;go_enter Tryz.func47,Tryz.ntmps47;go_wp2_with fail;(with_reducible refine(HB.o _).mono ?_);rintro e w' ⟨rfl,rfl⟩;go_wp2_with fail;go_ret;exact F.o
   ·have hn:numAt lo hi (Rd.ok a s.data.toList)= .err 21:=by show num lo hi _=_;rw[HN.o,if_pos (.inr w2)]
    have F:ace (rG w E S lo hi (.ok a s.data.toList) (.returned (.int .i64 lo)) (((w.setCell ⟨E,0,none⟩ (.int .i64 0)).setCell ⟨S,0,none⟩ (.string (s.extract z s.size))).setCell ⟨E,0,none⟩ (.int .i64 21))):=(by unfold rG;rw[hn];exact⟨rfl,⟨(ST.o.1 21).1,by decide,_,(ST.o.1 21).2⟩,ST.o.2.2.1.setCell (.inl (.inl rfl)) _⟩);clear hn;go_enter Tryz.func47,Tryz.ntmps47;go_wp2_with fail;(with_reducible refine(HB.o _).mono ?_);rintro e w' ⟨rfl,rfl⟩;go_wp2_with fail;go_ret;exact F.o
   ·have hn:numAt lo hi (Rd.ok a s.data.toList)= .ok n (s.data.toList.drop z):=by show num lo hi _=_;rw[HN.o,if_neg (by omega)]
    have F:ace (rG w E S lo hi (.ok a s.data.toList) (.returned (.int .i64 n)) ((w.setCell ⟨E,0,none⟩ (.int .i64 0)).setCell ⟨S,0,none⟩ (.string (s.extract z s.size)))):=(by unfold rG;rw[hn];exact⟨rfl,⟨ST.o.2.1.1,_,ST.o.2.1.2,Lib.extract_to_end s z,ST.o.2.2.2⟩,ST.o.2.2.1⟩);clear hn;go_enter Tryz.func47,Tryz.ntmps47;go_wp2_with fail;(with_reducible refine(HB.o _).mono ?_);rintro e w' ⟨rfl,rfl⟩;go_wp2_with fail;go_ret;exact F.o
  ·have hfb:(f !=0)=true:=bne_iff_ne.2 hf
   go_enter Tryz.func47,Tryz.ntmps47;go_wp2_with fail;(with_reducible refine(HB.o _).mono ?_);rintro e w1 ⟨rfl,rfl⟩;have F:ace (rG w E S lo hi (.ok a s.data.toList) (.returned (.int .i64 lo)) (w.setCell ⟨E,0,none⟩ (.int .i64 f))):=(by have hn:numAt lo hi (Rd.ok a s.data.toList)= .err f:=(by show num lo hi _=_;unfold num;rw[HX.o.1,if_pos hf]);unfold rG;rw[hn];have hs:=jX.set (f:=f) xH HX.o.2.1 HX.o.2.2.1 rfl;exact⟨rfl,⟨hs.1,hf,s,hs.2⟩,δ.setCell (.inl (.inl rfl)) _⟩);go_wp2_with fail;go_ret;exact F.o
theorem modify_last {α:Type}(a:α)(f:α->α): ∀l:List α,(l++[a]).modify l.length f=l++[f a]
 |[]=>rfl
 |b::l=>by simp[modify_last a f l]
section
variable {P:Program} {w:World} {m:Nat} {l:List (Int×Value)} {T K E:TypeId} {q:IntKind}
theorem dQ.entry (h:dQ w m l)(hT:P.underlying T=some (.map K E))(hK:P.underlying K=some (.int q)){key:Int}(hn:key∉l.map (·.1)){z:Value}(hz:(zeroValue E).run P w= .ok z w):
 ∃(w1:World)(born:Int),(Instr.mapEntry T (.map (some m)) (.int .i64 key)).run P w= .ok (.tuple #[z,.int .i64 born]) w1/\ε (one m) w w1/\w1.heap.size=w.heap.size/\
  ∀v:Value,∃w2,(Instr.entryStore T (.map (some m)) (.int .i64 born) v).run P w1= .ok () w2/\dQ w2 m (upd key v l)/\ε (one m) w w2/\w2.heap.size=w.heap.size:=by
 obtain⟨L,clock,h,rfl⟩:=h;have hf:uo key L 0=none:=by
  cases hf:uo key L 0 with
  |none=>rfl
  |some x=>exfalso;have h1:=Ad key L 0;rw[hf]at h1;obtain⟨j,y⟩:=x;have:=Ph (l:=L.map kv) (key:=key) (v:=y) (by rw[<-h1];rfl);exact hn (abK.2 ⟨_,this,rfl⟩)
 have hno:=Ac hf;refine⟨World.gX w m (((L++[(key,z,clock)]).map ent).toArray) (clock+1),(clock:Int),?_,mO _ _ _ _,by simp[World.gX],fun v=>?_⟩
 ·simp[Instr.mapEntry,run_underlying hT,gq h.heap,run_checkKey hK,run_findKey hK,hf,nY h.heap,ent,hz,goInt]
 ·have hh:=mP h.heap (((L++[(key,z,clock)]).map ent).toArray) (clock+1)
  refine⟨World.gX w m (((L++[(key,v,clock)]).map ent).toArray) (clock+1),?_,?_,mO _ _ _ _,by simp[World.gX]⟩
  ·have hidx:((L++[(key,z,clock)]).map ent).toArray.findIdx? (fun e=>(e.born:Int)==(clock:Int))=some L.length:=by
    rw[List.findIdx?_toArray,abM,List.findIdx?_append];have h0:(L.map ent).findIdx? (fun e=>(e.born:Int)==(clock:Int))=none:=(by rw[List.findIdx?_eq_none_iff];intro e he;obtain⟨t,ht,rfl⟩:=abK.1 he;have:=h.old t ht;simp[ent];omega);rw[h0];simp[ent]
   have hmod:((L++[(key,z,clock)]).map ent).toArray.modify L.length (fun e=>{e with val:=v})=((L++[(key,v,clock)]).map ent).toArray:=by
    rw[List.modify_toArray,abM,abM]
    congr 1
    have e:(L.map ent).length=L.length:=(by simp);rw[<-e,Θ,Ξ,modify_last];simp[ent]
   simp only[Instr.entryStore,Sem.run_bind,gq hh,Result.andThen_ok,asInt,asIntOf,Sem.run_pure,hidx,hmod];rw[nY hh];simp[World.gX]
  ·refine⟨L++[(key,v,clock)],clock+1,⟨mP h.heap _ _,?_,?_,?_⟩,?_⟩
   ·rw[abM,List.nodup_append]
    refine⟨h.keys,by simp,?_⟩;intro a ha b hb;obtain⟨t,ht,rfl⟩:=abK.1 ha;simp at hb;subst hb;exact hno t ht
   ·rw[abM,List.nodup_append]
    refine⟨h.born,by simp,?_⟩;intro a ha b hb;obtain⟨t,ht,rfl⟩:=abK.1 ha;simp at hb;subst hb;exact Nat.ne_of_lt (h.old t ht)
   ·intro t ht
    rcases abL.1 ht with ht|ht
    ·exact Nat.lt_succ_of_lt (h.old t ht)
    ·simp at ht;subst ht;exact Nat.lt_succ_self _
   ·rw[abM,He]
    ·rfl
    ·intro p hp
     obtain⟨t,ht,rfl⟩:=abK.1 hp;exact hno t ht
end
end
section
open Go Go.RowKit
def bU (j:Nat)(x:Rd Int):Rd (List Int):=x.bind fun _ r=>nums j r
theorem Jj: ∀(k:Nat)(l:List UInt8),nums (k+1) l=(nums k l).bind fun ns r=>(num bg hi64 r).bind fun n r'=> .ok (ns++[n]) r'
 |0,l=>rfl
 |k+1,l=>by
  rw[nums,nums]
  cases h1:num bg hi64 l with
  |err e=>rfl
  |ok n r=>
   simp only[Rd.bind];rw[Jj k r]
   cases h2:nums k r with
   |err e=>rfl
   |ok ns r2=>
    simp only[Rd.bind]
    cases h3:num bg hi64 r2 with
    |err e=>rfl
    |ok n' r3=>rfl
theorem vC (j:Nat)(x:Rd Int):bU (j+1) x=(bU j x).bind fun ns r=>(num bg hi64 r).bind fun n r'=> .ok (ns++[n]) r':=by
 cases x with
 |err f=>rfl
 |ok n r=>exact Jj j r
theorem jX.same {α β:Type}{w:World}{E S:Nat}{x:Rd α}{y:Rd β}(h:jX w E S x)(hok: ∀a r,x= .ok a r-> ∃b,y= .ok b r)(herr: ∀f,x= .err f->y= .err f):jX w E S y:=by
 cases x with
 |ok a r=>obtain⟨b,rfl⟩:=hok a r rfl;exact h
 |err f=>rw[herr f rfl];exact h
theorem jX.Ve {w:World}{E S j:Nat}{x:Rd Int}(h:jX w E S (numAt bg hi64 (bU j x))):jX w E S (bU (j+1) x):=by
 rw[vC];refine h.same (fun a r e=>?_) (fun f e=>?_)
 ·cases h1:bU j x with
  |err f=>rw[h1]at e;cases e
  |ok ns r1=>rw[h1]at e;have e:num bg hi64 r1= .ok a r:=e;exact⟨ns++[a],by simp only[Rd.bind];rw[e]⟩
 ·cases h1:bU j x with
  |err f'=>
   rw[h1]at e;have e:Rd.err f'=Rd.err f:=e
   injection e with e
   rw[e];rfl
  |ok ns r1=>rw[h1]at e;have e:num bg hi64 r1= .err f:=e;simp only[Rd.bind];rw[e]
theorem jX.kept {α:Type}{w w':World}{E S:Nat}{x:Rd α}{Q:Nat->Prop}(h:jX w E S x)(hk:ε Q w w')(hE: ¬Q E)(hS: ¬Q S):jX w' E S x:=by
 cases x with
 |ok a r=>obtain⟨h1,s,h2,h3⟩:=h;exact⟨hk.heap h1 hE,s,hk.heap h2 hS,h3⟩
 |err f=>obtain⟨h1,h0,s,h2⟩:=h;exact⟨hk.heap h1 hE,h0,s,hk.heap h2 hS⟩
theorem jX.lt {α:Type}{w:World}{E S:Nat}{x:Rd α}(h:jX w E S x):E<w.heap.size/\S<w.heap.size:=by
 cases x with
 |ok a r=>obtain⟨h1,s,h2,h3⟩:=h;exact⟨lt_of_block h1,lt_of_block h2⟩
 |err f=>obtain⟨h1,h0,s,h2⟩:=h;exact⟨lt_of_block h1,lt_of_block h2⟩
theorem adC (l:List UInt8):row l=(numAt bg hi64 (Rd.ok () l)).bind fun key _=>(numAt bg hi64 (numAt bg hi64 (Rd.ok () l))).bind fun acc _=>
 (numAt 0 16 (numAt bg hi64 (numAt bg hi64 (Rd.ok () l)))).bind fun n _=>(bU n.toNat (numAt 0 16 (numAt bg hi64 (numAt bg hi64 (Rd.ok () l))))).bind fun ns r=> .ok (key,(acc,ns)) r:=by
 unfold row
 cases h1:num bg hi64 l with
 |err e=>have e1:numAt bg hi64 (Rd.ok () l)= .err e:=h1
         rw[e1];rfl
 |ok key r1=>
  have e1:numAt bg hi64 (Rd.ok () l)= .ok key r1:=h1;rw[e1];simp only[Rd.bind]
  cases h2:num bg hi64 r1 with
  |err e=>have e2:numAt bg hi64 (Rd.ok key r1)= .err e:=h2
          rw[e2]
  |ok acc r2=>
   have e2:numAt bg hi64 (Rd.ok key r1)= .ok acc r2:=h2;rw[e2];simp only
   cases h3:num 0 16 r2 with
   |err e=>have e3:numAt 0 16 (Rd.ok acc r2)= .err e:=h3
           rw[e3]
   |ok n r3=>have e3:numAt 0 16 (Rd.ok acc r2)= .ok n r3:=h3;rw[e3];rfl
theorem vF {α:Type}{lo hi:Int}{x:Rd α}(h:lo<=hi):lo<=dM lo (numAt lo hi x)/\dM lo (numAt lo hi x)<=hi:=by
 cases x with
 |err f=>exact⟨Int.le_refl _,h⟩
 |ok a r=>
  show lo<=dM lo (num lo hi r)/\dM lo (num lo hi r)<=hi;unfold num;split
  ·exact⟨Int.le_refl _,h⟩
  ·split
   ·exact⟨Int.le_refl _,h⟩
   ·simp only[dM];omega
def iU (w:World)(l:List UInt8)(e:Ending)(w':World):Prop:=
 match mZ l with
 | .ok T _=> ∃b m,e= .returned (.tuple #[.pointer (some ⟨b,0,none⟩),.int .i64 0])/\TabAt w' (up w.heap.size) b m T/\ε η w w'
 | .err f=>e= .returned (.tuple #[.pointer none,.int .i64 f])/\f≠0/\ε η w w'
def qw (T:Tab):Int:=match T.getLast? with|some p=>p.1|none=>0
abbrev DC (w:World)(E S:Nat):Nat->Prop:=fun k=>w.heap.size<=k/\k≠E/\k≠S
structure Ap {α:Type}(w wr:World)(B:Nat->Prop)(E S b m:Nat)(T:Tab)(x:Rd α):Prop where
 st:jX wr E S x
 tab:TabAt wr B b m T
 kept:ε η w wr
theorem Ap.num {α:Type}{w wr w':World}{B:Nat->Prop}{E S b m:Nat}{T:Tab}{x:Rd α}{lo hi:Int}{e:Ending}(h:Ap w wr B E S b m T x)(hB: ∀k,B k->k≠E/\k≠S)(hE:w.heap.size<=E)(hS:w.heap.size<=S)(hq:rG wr E S lo hi x e w'):Ap w w' B E S b m T (numAt lo hi x):=
 ⟨hq.2.1,h.tab.kept hq.2.2 (fun k hk hb=>by
   rcases hk with rfl|rfl
   ·exact absurd rfl (hB _ hb).1
   ·exact absurd rfl (hB _ hb).2) (fun hk=>by
   rcases hk with e|e
   ·exact(hB _ h.tab.hm).1 e
   ·exact(hB _ h.tab.hm).2 e),
   h.kept.new hq.2.2 (fun i hi hk=>by rcases hk with e|e<;>omega)⟩
structure CU (w wr:World)(B:Nat->Prop)(E S C b m:Nat)(T:Tab)(v2:Int)(x:Rd Int)(j:Nat)(lv:Value)(n:Nat)(L:List Int):Prop where
 inn:Ap w wr B E S b m T (bU j x)
 cell:wr.heap[C]?=some (.cells #[.int .i64 v2,lv] 109 (0,0))
 own:wr.ownsRow (C+1) 2 1 lv n (ints L)
 len:L.length=j
 val: ∀ns r,bU j x= .ok ns r->L=ns
theorem lW {w:World}{C:Nat}{a u:Value}{E:TypeId}(h:w.heap[C]?=some (.cells #[a,u] E (0,0))):w.cell? ⟨C,0,none⟩=some a/\w.cell? ⟨C,1,none⟩=some u/\w.frozen? ⟨C,1,none⟩=false/\ ∀v,(w.setCell ⟨C,1,none⟩ v).heap[C]?=some (.cells #[a,v] E (0,0)):=by refine⟨by simp[World.cell?,h],by simp[World.cell?,h],by simp[World.frozen?,h],fun v=>?_⟩;have hlt:=lt_of_block h;have h':w.heap[C]= .cells #[a,u] E (0,0):=(by simpa[Array.getElem?_eq_getElem hlt]using h);show(w.heap.modify C _)[C]?=_;rw[Array.getElem?_eq_getElem (by simpa using hlt),Array.getElem_modify_self,h'];rfl
theorem dY {w:World}{base e size n:Nat}{v:Value}{xs:List Value}(h:w.ownsRow base e size v n xs){b:Nat}(hb:v.ownBlock=some b):base<=b/\b<w.heap.size:=by
 rcases h.2 with⟨rfl,_⟩|⟨g,cap,cur,rfl,h1,h2,_⟩
 ·cases hb
 ·cases hb;exact⟨h1,(κ.1 h2).1⟩
theorem KE {P:Program}{w w':World}{o:Oper}{a:Act}{K:Act->World->Prop}{Q:Exit->Act->World->Prop}(s x:Operand)(t:TypeId)
 (ho:o.op= .call {callee:= .builtin .append,args:= #[s,x],argTypes:= #[t,t]}) (v u v':Value) (hs:a.eval s=v) (hx:a.eval x=u) (hr:(Builtin.append_ #[t,t] o.type #[v,u]).run P w= .ok v' w')
 (h:K (a.put o.dst v') w'):o.wp P a w K Q:=by
 unfold Oper.wp execOp;simp only[ho,resolve,invoke,builtin,Sem.run_bind,Sem.run_pure,Result.andThen_ok,List.map_toArray,Θ,Ξ,hs,hx,hr];exact h
def yw (E S C:Nat):Nat->Prop:=fun k=>k=E\/k=S\/C<k
theorem CU.step {w wr w3:World}{B:Nat->Prop}{E S C b m:Nat}{T:Tab}{v2:Int}{x:Rd Int}{j n:Nat}{lv:Value}{L:List Int}{e:Ending}(h:CU w wr B E S C b m T v2 x j lv n L)(hB: ∀k,B k->k<C/\k≠E/\k≠S)
 (hE:w.heap.size<=E/\E<C) (hS:w.heap.size<=S/\S<C) (hj:j<16) (hq:rG wr.drew E S bg hi64 (bU j x) e w3):
 ∃v7 n7 w7,(Builtin.append_ #[97,97] 97 #[lv,.slice (some ⟨w3.heap.size,0,none⟩) 1 1]).run Tryz.prog (w3.alloc (.cells #[.int .i64 (dM bg (numAt bg hi64 (bU j x)))] 2))= .ok v7 w7/\
  ε (yw E S C) wr w3/\ε (yw E S C) wr w7/\w7.cell? ⟨C,1,none⟩=some lv/\w7.frozen? ⟨C,1,none⟩=false/\(∃a c,v7= .slice a n7 c)/\
  CU w (w7.setCell ⟨C,1,none⟩ v7) B E S C b m T v2 x (j+1) v7 n7 (L++[dM bg (numAt bg hi64 (bU j x))]):=by
 have hCl:=lt_of_block h.cell;have k3:ε (yw E S C) wr w3:=(hq.2.2.aZ).mono (fun k _ hk=>by rcases hk with h|h;exact .inl h;exact .inr (.inl h))
 have hnS: ¬yw E S C C:=fun h=>by rcases h with h|h|h<;>omega
 have hown3:w3.ownsRow (C+1) 2 1 lv n (ints L):=(hq.2.2.aZ).owns h.own (fun k hk hs=>by have:=(dY h.own hk).1;rcases hs with h|h<;>omega);have kA:ε η w3 (w3.alloc (.cells #[.int .i64 (dM bg (numAt bg hi64 (bU j x)))] 2)):=δ.alloc _;obtain⟨vv,hvv⟩: ∃vv,dM bg (numAt bg hi64 (bU j x))=vv:=⟨_,rfl⟩;have hval: ∀n r,numAt bg hi64 (bU j x)= .ok n r->vv=n:=fun n r hn=>(by rw[<-hvv,hn];rfl);rw[hvv]at kA⊢;clear hvv;have hn:n=L.length:=(by have:=hown3.1;simp[ints]at this;omega);have hl:=h.len;obtain⟨i2,hi2,hz2,hs2,hb2⟩:=info_parts Tryz.info2;obtain⟨v7,n7,w7,b1,b2,b3,b4,b5⟩:=aW (P:=Tryz.prog) (C+1) 97 97 2 i2 (.int .i64 0) 1 8 Tryz.underlying97 hi2 hz2 hs2 hb2 rfl (by omega) (kA.owns hown3 (fun _ _ h=>h)) (Reads.lit w3 [.int .i64 vv] 2 1 1 rfl (by unfold maxLen;omega)) (mQ [vv]) (by simp;omega) (by unfold maxLen;simp;omega) (by have:=k3.size;simp;omega);have k7:ε (yw E S C) wr w7:=k3.trans (kA.pure.trans (ε.grown b4 (fun g hg _=> .inr (.inr (by have:=(dY (kA.owns hown3 (fun _ _ h=>h)) hg).1;omega)))));have k37:ε (fun k=>C<k) w3 w7:=kA.pure.trans (ε.grown b4 (fun g hg _=>by have:=(dY (kA.owns hown3 (fun _ _ h=>h)) hg).1;omega));have c7:=lW (k7.heap h.cell hnS);have k8:ε (one C) w7 (w7.setCell ⟨C,1,none⟩ v7):=(ε.refl (one C) w7).setCell (p:=⟨C,1,none⟩) (.inl rfl) _;refine⟨v7,n7,w7,b1,k3,k7,c7.2.1,c7.2.2.1,au b2,⟨⟨?_,?_,?_⟩,c7.2.2.2 v7,?_,?_,?_⟩⟩
 ·refine jX.Ve ?_
  exact((hq.2.1.kept k37 (fun h=>by omega) (fun h=>by omega)).kept k8 (fun h=>by unfold one at h;omega) (fun h=>by unfold one at h;omega))
 ·have t3:=h.inn.tab.kept k7 (fun k hk hb=>by
   exfalso;have:=hB k hb
   rcases hk with h|h|h
   ·exact this.2.1 h
   ·exact this.2.2 h
   ·omega) (fun hk=>by
   have:=hB m h.inn.tab.hm
   rcases hk with h|h|h
   ·exact this.2.1 h
   ·exact this.2.2 h
   ·omega)
  exact t3.kept k8 (fun k hk hb=>by have:=hB k hb;unfold one at hk;omega) (fun e=>by have:=hB m h.inn.tab.hm;unfold one at e;omega)
 ·refine(h.inn.kept.new k7 (fun i hi hs=>?_)).new k8 (fun i hi hs=>by unfold one at hs;omega)
  have:=h.inn.kept.size
  rcases hs with h|h|h<;>omega
 ·refine k8.owns ?_ (fun k hk e=>by have:=(dY b2 hk).1;unfold one at e;omega)
  unfold ints at b2⊢;rw[abM];exact b2
 ·rw[ν,hl];rfl
 ·intro ns r hnr
  rw[vC]at hnr
  cases h1:bU j x with
  |err f=>rw[h1]at hnr;cases hnr
  |ok ms r1=>
   rw[h1]at hnr;simp only[Rd.bind]at hnr
   cases h2:num bg hi64 r1 with
   |err f=>rw[h2]at hnr;cases hnr
   |ok q r2=>
    rw[h2]at hnr
    injection hnr with h3 h4
    rw[<-h3,h.val ms r1 h1,hval q r2 (by rw[h1];exact h2)]
end
