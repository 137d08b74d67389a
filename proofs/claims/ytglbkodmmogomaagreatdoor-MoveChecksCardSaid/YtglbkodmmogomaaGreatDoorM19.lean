/- script: words of kinds; the index of a text; a node by the words of its line. -/
import Derived.Test.YtglbkodmmogomaaGreatDoorM14
import Derived.Test.YtglbkodmmogomaaGreatDoorM18
set_option linter.unusedVariables false
set_option linter.unusedSimpArgs false
set_option maxHeartbeats 4000000
set_option maxRecDepth 100000
namespace Go.Proofs.YtglbkodmmogomaaGreatDoor
open Go Go.RowKit
attribute [local irreducible] bH dP
def VP (w:World)(l:List ByteArray)(g:ByteArray)(e:Ending)(w':World):Prop:= ∃n:Nat,e= .returned (.int .i64 (n:Int))/\l[n]?=some g/\w=w'
theorem yO (v:Value)(l:List ByteArray)(g:ByteArray)(hg:g∈l)(w:World)(h:Reads w 1 v (strs l)):Calls Tryz.prog 167 #[v, .string g] w (VP w l g):=by
 obtain⟨pa,ca,rfl,a1,a2,a3⟩:=h.GZ
 unfold maxLen at a2
 have A3:=Lib.hid a3
 have HM:=Lib.hid hg
 clear h a3 hg
 go_enter Tryz.func167,Tryz.ntmps167
 go_wp2_with fail
 go_loopw [8] (fun i wr=> ∃k:Nat,k<=l.length/\i= .int .i64 (k:Int)/\g∉l.take k/\wr=w) (fun i _=>l.length-(intOf i).toNat)
 case atStart=>exact⟨0,by omega,rfl,by simp,rfl⟩
 case round=>
  obtain⟨k,hk,rfl,ht,rfl⟩:=hrel
  have HT:=Lib.hid ht
  clear ht
  by_cases hlt:k<l.length
  ·obtain⟨y,hy⟩: ∃y,l[k]?=some y:=⟨_,List.getElem?_eq_getElem hlt⟩
   obtain⟨b,off,rfl,hc⟩:=A3.out.resolve_left (fun h=>by rw[h]at hlt;simp at hlt)
   have y0:=hc k y hy
   have HY:=Lib.hid hy
   clear hc hy A3
   by_cases he:g=y
   ·subst he
    have hse:(g.toList==g.toList)=true:=by simp
    go_wp2_with fail
    go_ret
    exact⟨k,rfl,HY.out,rfl⟩
   ·have hse:(g.toList==y.toList)=false:=by rw[str_eq,decide_eq_false he]
    go_wp2_with fail
    go_roundw
    case rel=>
     refine⟨k+1,by omega,by go_num,?_,by first|trivial|rfl⟩
     rw[List.take_add_one,HY.out]
     simp[HT.out,he]
    case measure=>simp[intOf];omega
  ·have hE:g∉l:=by have:=HT.out;rwa[List.take_of_length_le (by omega)]at this
   exact absurd HM.out hE
def kH:List ByteArray:=[⟨#[]⟩,⟨#[115,111,117,114,99,101]⟩,⟨#[109,97,112]⟩,⟨#[102,105,108,116,101,114]⟩,⟨#[102,108,97,116]⟩,⟨#[107,101,121]⟩,⟨#[114,101,100,117,99,101]⟩,⟨#[119,105,110,100,111,119]⟩,⟨#[117,110,105,111,110]⟩,⟨#[115,105,110,107]⟩]
theorem KI (w:World):Calls Tryz.prog 191 #[] w fun e w'=>e= .returned (.agg #[.string ⟨#[]⟩, .string ⟨#[115,111,117,114,99,101]⟩, .string ⟨#[109,97,112]⟩, .string ⟨#[102,105,108,116,101,114]⟩, .string ⟨#[102,108,97,116]⟩, .string ⟨#[107,101,121]⟩, .string ⟨#[114,101,100,117,99,101]⟩, .string ⟨#[119,105,110,100,111,119]⟩, .string ⟨#[117,110,105,111,110]⟩, .string ⟨#[115,105,110,107]⟩])/\Kept none' w w':=by
 go_enter Tryz.func191,Tryz.ntmps191
 go_wp2_with fail
 refine bodyPost_ret (v:= .agg #[.string ⟨#[]⟩, .string ⟨#[115,111,117,114,99,101]⟩, .string ⟨#[109,97,112]⟩, .string ⟨#[102,105,108,116,101,114]⟩, .string ⟨#[102,108,97,116]⟩, .string ⟨#[107,101,121]⟩, .string ⟨#[114,101,100,117,99,101]⟩, .string ⟨#[119,105,110,100,111,119]⟩, .string ⟨#[117,110,105,111,110]⟩, .string ⟨#[115,105,110,107]⟩]) (by simp[results,Tryz.results191,go_sem]) rfl ⟨rfl,?_⟩
 exact(Kept.refl _ _).alloc _
def jM (w:World)(D:Nat->Prop)(a:Array Value)(d:JN):Prop:= ∀(S:Nat->Prop)(w':World),Kept S w w'->(∀k,D k-> ¬S k)->lV w' a d
theorem jM.at {w:World}{D:Nat->Prop}{a:Array Value}{d:JN}(h:jM w D a d):lV w a d:=h none' w (Kept.refl _ _) (fun _ _ h=>h)
theorem jM.kept {w w':World}{S D:Nat->Prop}{a:Array Value}{d:JN}(h:jM w D a d)(hk:Kept S w w')(hS: ∀k,D k-> ¬S k):jM w' D a d:=fun S2 w2 h2 hd=>
 h (fun k=>S k\/S2 k) w2 ((hk.mono (fun _ _ h=> .inl h)).trans (h2.mono (fun _ _ h=> .inr h))) (fun k hk=>by rintro(h|h);exact hS k hk h;exact hd k hk h)
theorem Td {w:World}{base n:Nat}{va:Value}{l:List Int}(h:w.ownsRow base 3 1 va n (ints l))(x:Int)(hb:base<=w.heap.size)(hn:n<=100000):
 ∃iH w',(Builtin.append_ #[37,37] 37 #[va, .slice (some ⟨w.heap.size,0,none⟩) 1 1]).run Tryz.prog (w.alloc (.cells #[.int .i64 x] 3))= .ok iH w'/\w'.ownsRow base 3 1 iH (n+1) (ints (l++[x]))/\Kept (fun j=>base<=j) w w':=by
 have h3:(Tryz.prog.info? 3).map (fun i=>(i.zero,i.size,i.bytes))=some (some (.int .i64 0),1,8):=by kernel_rfl
 obtain⟨i,hi,hzz⟩:=Option.map_eq_some_iff.1 h3
 simp only[Prod.mk.injEq]at hzz
 have:=QD Tryz.underlying37 hi hzz.1 hzz.2.1 hzz.2.2 rfl (x:= .int .i64 x) rfl h hn (by omega) hb 37
 rwa[show ints (l++[x])=ints l++[.int .i64 x] by unfold ints;rw[List.map_append];rfl]
theorem SQ {w:World}{b E:Nat}{x0 x1 x2 x3 x4 x5 x6:Value}(h:w.heap[b]?=some (.cells #[x0,x1,x2,x3,x4,x5,x6] E (0,0)))(y0 y1 y2 y3 y4 y5 y6:Value):
 (((((((w.setCell ⟨b,0,none⟩ y0).setCell ⟨b,1,none⟩ y1).setCell ⟨b,2,none⟩ y2).setCell ⟨b,3,none⟩ y3).setCell ⟨b,4,none⟩ y4).setCell ⟨b,5,none⟩ y5).setCell ⟨b,6,none⟩ y6).heap[b]?=some (.cells #[y0,y1,y2,y3,y4,y5,y6] E (0,0))/\
   Kept (one b) w (((((((w.setCell ⟨b,0,none⟩ y0).setCell ⟨b,1,none⟩ y1).setCell ⟨b,2,none⟩ y2).setCell ⟨b,3,none⟩ y3).setCell ⟨b,4,none⟩ y4).setCell ⟨b,5,none⟩ y5).setCell ⟨b,6,none⟩ y6):=by
 refine⟨?_,?_⟩
 ·have:=aS (aS (aS (aS (aS (aS (aS h 0 y0) 1 y1) 2 y2) 3 y3) 4 y4) 5 y5) 6 y6
  simpa using this
 ·have k0:Kept (one b) w (w.setCell ⟨b,0,none⟩ y0):=Kept.setCell (p:=⟨b,0,none⟩) (Kept.refl (one b) w) (.inl rfl) y0
  have k1:=k0.setCell (p:=⟨b,1,none⟩) (.inl rfl) y1
  have k2:=k1.setCell (p:=⟨b,2,none⟩) (.inl rfl) y2
  have k3:=k2.setCell (p:=⟨b,3,none⟩) (.inl rfl) y3
  have k4:=k3.setCell (p:=⟨b,4,none⟩) (.inl rfl) y4
  have k5:=k4.setCell (p:=⟨b,5,none⟩) (.inl rfl) y5
  exact k5.setCell (p:=⟨b,6,none⟩) (.inl rfl) y6
def vW (w:World)(d:JN)(e:Ending)(w':World):Prop:=
 ∃pi ci p c D,e= .returned (.tuple #[.agg (aZ d pi ci p c), .bool true])/\jM w' D (aZ d pi ci p c) d/\(∀k,D k->w.heap.size<=k/\k<w'.heap.size)/\Kept none' w w'
theorem vW.drew {w w':World}{d:JN}{e:Ending}(h:vW w d e w'):vW w d e w'.drew:=by
 obtain⟨pi,ci,p,c,D,h1,h2,h3,h4⟩:=h
 have hk:Kept none' w' w'.drew:=(Kept.refl _ _).drew
 exact⟨pi,ci,p,c,D,h1,h2.kept hk (fun _ _ h=>h),h3,h4.trans hk⟩
theorem NV (nodes:List JN)(hn:nodes.length<=1000)(x:ByteArray):bF (aA nodes x):=by
 rcases dI nodes x with⟨h,_⟩|⟨i,d,h,hd,_⟩
 ·rw[h];exact .small (by omega) (by omega)
 ·rw[h]
  have:=(List.getElem?_eq_some_iff.1 hd).1
  exact⟨by omega,by omega⟩
theorem Fe (j:Jb)(a:Array Value)(uid kw:ByteArray)(ins:List ByteArray)(k:Nat)(v:Value)(w:World)(hJ:fA w a j)(hv:Reads w 1 v (strs (uid::kw::ins)))(hk:kH[k]?=some kw)(hk1:1<=k)(QT:k≠7)
 (hins: ∀x∈ins,0<=aA j.nodes x) (hu:uid.size<=maxLen) (hil:ins.length<=1000) (hnl:j.nodes.length<=1000):
 Calls Tryz.prog 158 #[.agg a,v] w (vW w ⟨uid,(k:Int),ins.map (aA j.nodes), .mk 0 0 [],0⟩):=by
 have hk9:k<=9:=by
  have:=(List.getElem?_eq_some_iff.1 hk).1
  have h10:kH.length=10:=rfl
  omega
 obtain⟨jv,rfl,hn,hp⟩:=hJ
 obtain⟨na,dU,rfl,n1,n2,n3⟩:=hn.at
 obtain⟨pa,ca,rfl,a1,a2,a3⟩:=hv.GZ
 obtain⟨lb,BM,rfl,hl⟩:=a3.resolve_left (by simp)
 have l0:=hl 0 uid rfl
 rw[Nat.add_zero]at l0
 have l1:=hl 1 kw rfl
 have hdr:=hv.drop (i:=2) (by simp)
 have hsl: ∀W,(Instr.slice 163 (.slice (some ⟨lb,BM,none⟩) (uid::kw::ins).length ca) (some (.int .i64 2)) none none).run Tryz.prog W= .ok (.slice (if ca=2 then some ⟨lb,BM,none⟩else(some (⟨lb,BM,none⟩:Addr)).map (·.add (2*1))) ((uid::kw::ins).length-2) (ca-2)) W:=fun W=>
  Bz (P:=Tryz.prog) (w:=W) (k:=1) (i:=2) Tryz.underlying163 (Tryz.sizeOf9 W) (by simp) a1
 have hcap2:ca-2<=9223372036854775807:=by unfold maxLen at a2;omega
 generalize(if ca=2 then some (⟨lb,BM,none⟩:Addr)else(some (⟨lb,BM,none⟩:Addr)).map (·.add (2*1)))=sa at hsl hdr
 have hsd:(strs (uid::kw::ins)).drop (2*1)=strs ins:=rfl
 have hls:(uid::kw::ins).length-2=ins.length:=by simp
 rw[hsd,hls]at hdr
 rw[hls]at hsl
 have hlen2:(uid::kw::ins).length=ins.length+2:=rfl
 rw[hlen2]at a1 hsl⊢
 obtain⟨sa',sc',e,d1,d2,d3⟩:=hdr.GZ
 simp only[Value.slice.injEq,true_and]at e
 obtain⟨rfl,rfl⟩:=e
 have hkw:kw∈kH:=List.mem_of_getElem? hk
 have hu8:IntKind.u8.wrap (k:Int)=(k:Int):=by rw[IntKind.wrap_u8];omega
 unfold maxLen at n2 a2
 have hlb:lb<w.heap.size:=by have:=block_lt_of_cell l0;simpa using this
 have HW:=fun W=>KI W
 have H:=Lib.hid (And.intro hn (And.intro hp (And.intro hk (And.intro hins (And.intro hu (And.intro d3 n3))))))
 clear hn hp hk hins hu d3 n3 hl hdr hv a3
 go_enter Tryz.func158,Tryz.ntmps158
 go_wp2_with fail
 (with_reducible refine(HW _).mono ?_)
 rintro e W2 ⟨rfl,k2⟩
 have Nk:Kept none' w W2:=(((Kept.refl none' w).alloc _).alloc _).trans k2
 have Xn:W2.heap[w.heap.size]?=some (.cells #[.int .i64 j.par, .slice na j.nodes.length dU] 24 (0,0)):=k2.heap (((Kept.refl none' _).alloc _).heap (heap_alloc_new w (.cells #[.int .i64 j.par, .slice na j.nodes.length dU] 24)) (fun h=>h)) (fun h=>h)
 have Xm:W2.heap[w.heap.size+1]?=some (.cells #[.string ⟨#[]⟩, .int .u8 0, .slice none 0 0, .int .u8 0, .int .i64 0, .slice none 0 0, .int .i64 0] 42 (0,0)):=by
  have:=heap_alloc_new (w.alloc (.cells #[.int .i64 j.par, .slice na j.nodes.length dU] 24)) (.cells #[.string ⟨#[]⟩, .int .u8 0, .slice none 0 0, .int .u8 0, .int .i64 0, .slice none 0 0, .int .i64 0] 42)
  rw[World.size_alloc]at this
  exact k2.heap this (fun h=>h)
 obtain⟨W3,hW3⟩: ∃W3,W2.alloc (.cells (strs kH).toArray 267)=W3:=⟨_,rfl⟩
 have UO:W2.alloc (.cells #[.string ⟨#[]⟩, .string ⟨#[115,111,117,114,99,101]⟩, .string ⟨#[109,97,112]⟩, .string ⟨#[102,105,108,116,101,114]⟩, .string ⟨#[102,108,97,116]⟩, .string ⟨#[107,101,121]⟩, .string ⟨#[114,101,100,117,99,101]⟩, .string ⟨#[119,105,110,100,111,119]⟩, .string ⟨#[117,110,105,111,110]⟩, .string ⟨#[115,105,110,107]⟩] 267)=W3:=hW3
 have yN:Kept none' W2 W3:=by rw[<-hW3];exact(Kept.refl _ _).alloc _
 have V9:Reads W3 1 (.slice (some ⟨W2.heap.size,0,none⟩) 10 10) (strs kH):=by rw[<-hW3];exact Reads.lit W2 (strs kH) 267 1 10 rfl (by unfold maxLen;omega)
 have l0:=(Nk.trans yN).cell (fun h=>h) l0
 have l1:=(Nk.trans yN).cell (fun h=>h) l1
 have hsz3:W3.heap.size=W2.heap.size+1:=by rw[<-hW3];simp
 have K3:=Lib.hid (And.intro (Nk.trans yN) (And.intro (yN.heap Xn (fun h=>h)) (And.intro (yN.heap Xm (fun h=>h)) V9)))
 have HW3:=Lib.hid UO
 have hlb3:lb<W3.heap.size:=Nat.lt_of_lt_of_le hlb (Nk.trans yN).size
 have hA3:W2.heap.size<W3.heap.size:=by omega
 have hr3:w.heap.size+1<W3.heap.size:=(Array.getElem?_eq_some_iff.1 K3.out.2.2.1).1
 clear Nk Xn Xm hW3 UO yN V9 k2 HW
 go_wp2_with fail
 rw[HW3.out]
 have kD:Kept none' W3 W3.drew:=(Kept.refl _ _).drew
 have hkk: ∀n:Nat,kH[n]?=some kw->n=k:=fun n h=>by
  have h1:=(List.getElem?_eq_some_iff.1 h).1
  exact(List.getElem?_inj h1 (by decide)).1 (h.trans H.out.2.2.1.symm)
 have HKK:=Lib.hid (And.intro hkk hkw)
 have e0:max (k:Int) 0=(k:Int):=by omega
 have e1: ¬(k:Int)=7:=by omega
 have e2:((k:Int)==7)=false:=by simpa using e1
 have KD:=Lib.hid kD
 have i0:(0:Int)<(ins.length:Int)+2:=by omega
 have i1:(1:Int)<(ins.length:Int)+2:=by omega
 clear kD hkk hkw
 refine oN (fun W=>Kept none' W3 W) (by kernel_rfl) (by kernel_rfl) KD.out ?_
 refine aH (k:=0) (by kernel_rfl) rfl rfl (fun W hW=>by go_simp;rfl) ?_
 go_frame
 refine aH (k:=1) (by kernel_rfl) rfl rfl (fun W hW=>by go_simp;rfl) ?_
 go_frame
 refine aH (k:=2) (by kernel_rfl) rfl rfl (fun W hW=>by have z:=hW.cell (fun h=>h) l0;go_simp;rfl) ?_
 go_frame
 refine aH (k:=3) (by kernel_rfl) rfl rfl (fun W hW=>by go_simp;rfl) ?_
 go_frame
 refine aH (k:=4) (by kernel_rfl) rfl rfl (fun W hW=>by go_simp;rfl) ?_
 go_frame
 refine aH (k:=5) (by kernel_rfl) rfl rfl (fun W hW=>by go_simp;rfl) ?_
 go_frame
 refine aH (k:=6) (by kernel_rfl) rfl rfl (fun W hW=>by have z:=hW.cell (fun h=>h) l1;go_simp;rfl) ?_
 go_frame
 refine qZ (i:=7) (k:=11) (by kernel_rfl) (by kernel_rfl) rfl rfl rfl rfl ?brA ?brB
 case' brA=>
  intro K hK
  go_wp2_with fail
  (with_reducible refine(yO _ kH kw HKK.out.2 W3.drew (K3.out.2.2.2.pure KD.out)).mono ?_)
  rintro e w5 ⟨n,rfl,hn,rfl⟩
  rw[HKK.out.1 n hn]
  go_wp2_with fail
  refine hK _ _ KD.out ?_
  clear hK hn
  refine aH (k:=8) (by kernel_rfl) rfl rfl (fun W hW=>by go_simp;rfl) ?_
  go_frame
  refine aH (k:=9) (by kernel_rfl) rfl rfl (fun W hW=>by go_simp;rfl) ?_
  go_frame
  refine aH (k:=10) (by kernel_rfl) rfl rfl (fun W hW=>by go_simp;rfl) ?_
  go_frame
  refine dJ (k:=11) (by kernel_rfl) (by kernel_rfl) rfl rfl ?_
  intro K hK
  go_wp2_with fail
  refine hK _ _ (KD.out.alloc _) ?_
  clear hK
  refine dJ (k:=12) (by kernel_rfl) (by kernel_rfl) rfl rfl ?_
  intro K hK
  go_wp2_with fail
  refine hK _ _ (KD.out.alloc _) ?_
  clear hK
  refine ru (by kernel_rfl) (KD.out.alloc _) ?_
 case' brB=>
  intro K hK
  go_wp2_with fail
  refine hK _ _ (KD.out.alloc _) ?_
  clear hK
  refine dJ (k:=7) (by kernel_rfl) (by kernel_rfl) rfl rfl ?_
  intro K hK
  go_wp2_with fail
  (with_reducible refine(yO _ kH kw HKK.out.2 _ (K3.out.2.2.2.pure (((Kept.refl none' W3).alloc _).drew))).mono ?_)
  rintro e w5 ⟨n,rfl,hn,rfl⟩
  rw[HKK.out.1 n hn]
  go_wp2_with fail
  refine hK _ _ (KD.out.alloc _) ?_
  clear hK hn
  refine aH (k:=8) (by kernel_rfl) rfl rfl (fun W hW=>by go_simp;rfl) ?_
  go_frame
  refine aH (k:=9) (by kernel_rfl) rfl rfl (fun W hW=>by go_simp;rfl) ?_
  go_frame
  refine aH (k:=10) (by kernel_rfl) rfl rfl (fun W hW=>by go_simp;rfl) ?_
  go_frame
  refine dJ (k:=12) (by kernel_rfl) (by kernel_rfl) rfl rfl ?_
  intro K hK
  go_wp2_with fail
  refine hK _ _ (KD.out.alloc _) ?_
  clear hK
  refine ru (by kernel_rfl) (KD.out.alloc _) ?_
 all_goals
  obtain⟨W4,gJ⟩: ∃W4,W3.drew.alloc (.cells #[.string uid, .int .u8 (k:Int), .slice none 0 0, .int .u8 0, .int .i64 0, .slice none 0 0, .int .i64 0] 42)=W4:=⟨_,rfl⟩
  have UN:(W3.alloc (.cells #[.string uid, .int .u8 (k:Int), .slice none 0 0, .int .u8 0, .int .i64 0, .slice none 0 0, .int .i64 0] 42)).drew=W4:=gJ
  first|rw[gJ]|rw[UN]
  have k34:Kept none' W3 W4:=by rw[<-gJ];exact KD.out.alloc _
  have U9:W4.heap[W2.heap.size+1]?=some (.cells #[.string uid, .int .u8 (k:Int), .slice none 0 0, .int .u8 0, .int .i64 0, .slice none 0 0, .int .i64 0] 42 (0,0)):=by rw[<-hsz3,<-gJ];exact heap_alloc_new W3.drew _
  have TY:W4.heap.size=W2.heap.size+2:=by
   rw[<-gJ]
   show(W3.heap.push _).size=_
   rw[Array.size_push,hsz3]
  have HSL:=hsl W4
  have nb1:=cells_at U9 (j:=1) rfl
  have K4:=Lib.hid (And.intro (K3.out.1.trans k34) (And.intro (k34.heap K3.out.2.1 (fun h=>h)) (And.intro (k34.heap K3.out.2.2.1 (fun h=>h)) U9)))
  have hn4:W2.heap.size+1<W4.heap.size:=by omega
  have xH:w.heap.size+1<W2.heap.size+1:=by omega
  clear gJ UN k34 U9 hsl l0 l1 hA3 hsz3 HW3 hr3
  go_wp2_with fail
  clear HSL nb1
  go_loopg [60] ins.length (fun g vi wr=> ∃(q:Nat)(vo:Value),q<=ins.length/\vi= .int .i64 (q:Int)/\ins.length-q<=g/\wr.heap[W2.heap.size+1]?=some (.cells #[.string uid, .int .u8 (k:Int),vo, .int .u8 0, .int .i64 0, .slice none 0 0, .int .i64 0] 42 (0,0))/\
   wr.ownsRow (W2.heap.size+2) 3 1 vo q (ints ((ins.take q).map (aA j.nodes)))/\Kept (fun z=>z=W2.heap.size+1\/W2.heap.size+2<=z) W4 wr)
  case atStart=>exact⟨0, .slice none 0 0,by omega,rfl,by omega,K4.out.2.2.2,World.ownsRow_nil _ _ _ _,Kept.refl _ _⟩
  case round=>
   obtain⟨q,vo,hql,rfl,hg,hnb,hown,hkp⟩:=hrel
   obtain⟨wo,rfl⟩: ∃wo:World,wo=wr:=⟨_,rfl⟩
   obtain⟨va,vc,rfl⟩:=ay hown
   have kw:=K4.out.1.new hkp (fun i hi hs=>by omega)
   have bj:=hkp.heap K4.out.2.1 (by omega)
   have br:=hkp.heap K4.out.2.2.1 (by omega)
   by_cases hlt:q<ins.length
   ·obtain⟨x,hx⟩: ∃x,ins[q]?=some x:=⟨_,List.getElem?_eq_getElem hlt⟩
    obtain⟨sb,soff,rfl,hsc⟩:=H.out.2.2.2.2.2.1.resolve_left (fun h=>by rw[h]at hx;cases hx)
    have x0:=kw.cell (fun h=>h) (hsc q x hx)
    have p0:=cells_at bj (j:=0) rfl
    have p1:=cells_at bj (j:=1) rfl
    have hin:=H.out.2.2.2.1 x (List.mem_of_getElem? hx)
    have cf:=lS j #[.int .i64 j.par, .slice na j.nodes.length dU] x wo ⟨_,rfl,H.out.1.pure kw,H.out.2.1⟩
    have hjw:w.heap.size<wo.heap.size:=(Array.getElem?_eq_some_iff.1 bj).1
    obtain⟨f,hf⟩: ∃f,aA j.nodes x=f:=⟨_,rfl⟩
    rw[hf]at cf hin
    have hf0: ¬f<0:=by omega
    have G:=Lib.hid (And.intro hg (And.intro hnb (And.intro hown (And.intro hkp (And.intro hx hf)))))
    clear hg hnb hown hkp hx hf bj br hsc kw hin
    go_wp2_with fail
    (with_reducible refine cf.mono ?_)
    clear cf
    rintro e w5 ⟨rfl,k5⟩
    have TB:=k5.heap G.out.2.1 (fun h=>h)
    have y2:=cells_at TB (j:=2) rfl
    have Vy:W2.heap.size+2<=w5.heap.size:=by have:=G.out.2.2.2.1.size;have:=k5.size;omega
    obtain⟨iH,w6,g1,g2,g3⟩:=Td (k5.owns G.out.2.2.1 (fun _ _ h=>h)) f Vy (by omega)
    obtain⟨a2',c2',rfl⟩:=ay g2
    have QH:=g3.heap TB (by omega)
    have z2:=cells_at QH (j:=2) rfl
    have fz:=free_at QH 2
    have hs6:=g3.size
    have hb6:W2.heap.size+1<w6.heap.size:=by omega
    have hb5:W2.heap.size+1<w5.heap.size:=by omega
    have Wp:=aS QH 2 (Value.slice a2' (q+1) c2')
    have k7:Kept (one (W2.heap.size+1)) w6 (w6.setCell ⟨W2.heap.size+1,2,none⟩ (Value.slice a2' (q+1) c2')):=Kept.setCell (p:=⟨W2.heap.size+1,2,none⟩) (Kept.refl (one (W2.heap.size+1)) _) (.inl rfl) _
    have htk:(ins.take (q+1)).map (aA j.nodes)=(ins.take q).map (aA j.nodes)++[f]:=by
     rw[List.take_add_one,G.out.2.2.2.2.1]
     simp[G.out.2.2.2.2.2]
    have Z:=Lib.hid (And.intro g1 (And.intro (show(w6.setCell ⟨W2.heap.size+1,2,none⟩ (Value.slice a2' (q+1) c2')).heap[W2.heap.size+1]?=some (.cells #[.string uid, .int .u8 (k:Int),(Value.slice a2' (q+1) c2'), .int .u8 0, .int .i64 0, .slice none 0 0, .int .i64 0] 42 (0,0)) by simpa using Wp)
     (And.intro (show(w6.setCell ⟨W2.heap.size+1,2,none⟩ (Value.slice a2' (q+1) c2')).ownsRow (W2.heap.size+2) 3 1 (Value.slice a2' (q+1) c2') (q+1) (ints ((ins.take (q+1)).map (aA j.nodes))) by
       rw[htk]
       exact k7.owns g2 (fun z hz hs=>by have:=(g2.lt z hz).1;unfold one at hs;omega))
     (((G.out.2.2.2.1.new k5 (fun _ _ h=>h.elim)).new g3 (fun i hi hs=> .inr hs)).new k7 (fun i hi hs=> .inl hs)))))
    clear g1 g2 g3 TB QH Wp k7 k5
    go_wp2_with (at_builtin;refine iL rfl (.tmp 71) (.tmp 73) 37 rfl _ _ _ rfl rfl Z.out.1 ?_)
    go_roundg (ins.length-(q+1))
    case rel=>exact⟨q+1,_,by omega,by go_num,Nat.le_refl _,Z.out.2.1,Z.out.2.2.1,Z.out.2.2.2⟩
    case measure=>have:=G.out.1;omega
   ·have hqe:q=ins.length:=by omega
    subst hqe
    rw[List.take_of_length_le (Nat.le_refl _)]at hown
    have hBr:w.heap.size+1<wo.heap.size:=(Array.getElem?_eq_some_iff.1 br).1
    have hBn:W2.heap.size+1<wo.heap.size:=(Array.getElem?_eq_some_iff.1 hnb).1
    have f0:=free_at br 0
    have f1:=free_at br 1
    have f2:=free_at br 2
    have f3:=free_at br 3
    have f4:=free_at br 4
    have f5:=free_at br 5
    have f6:=free_at br 6
    have z0:=cells_at br (j:=0) rfl
    have z1:=cells_at br (j:=1) rfl
    have z2:=cells_at br (j:=2) rfl
    have z3:=cells_at br (j:=3) rfl
    have z4:=cells_at br (j:=4) rfl
    have z5:=cells_at br (j:=5) rfl
    have z6:=cells_at br (j:=6) rfl
    obtain⟨s8,k8⟩:=SQ br (.string uid) (.int .u8 (k:Int)) (.slice va ins.length vc) (.int .u8 0) (.int .i64 0) (.slice none 0 0) (.int .i64 0)
    have F:vW w ⟨uid,(k:Int),ins.map (aA j.nodes), .mk 0 0 [],0⟩ (.returned (.tuple #[.agg #[.string uid, .int .u8 (k:Int), .slice va ins.length vc, .int .u8 0, .int .i64 0, .slice none 0 0, .int .i64 0], .bool true])) (((((((wo.setCell ⟨w.heap.size+1,0,none⟩ (.string uid)).setCell ⟨w.heap.size+1,1,none⟩ (.int .u8 (k:Int))).setCell ⟨w.heap.size+1,2,none⟩ (.slice va ins.length vc)).setCell ⟨w.heap.size+1,3,none⟩ (.int .u8 0)).setCell ⟨w.heap.size+1,4,none⟩ (.int .i64 0)).setCell ⟨w.heap.size+1,5,none⟩ (.slice none 0 0)).setCell ⟨w.heap.size+1,6,none⟩ (.int .i64 0)):=by
     have h8:=k8.size
     have hlm:(ins.map (aA j.nodes)).length=ins.length:=by rw[List.length_map]
     refine⟨va,vc,none,0,fun z=>(Value.slice va ins.length vc).ownBlock=some z,by rw[show aZ ⟨uid,(k:Int),ins.map (aA j.nodes), .mk 0 0 [],0⟩ va vc none 0= #[.string uid, .int .u8 (k:Int), .slice va ins.length vc, .int .u8 0, .int .i64 0, .slice none 0 0, .int .i64 0] by simp[aZ,Ex.op,Ex.n,Ex.args]],?_,fun z hz=>?_,kw.new k8 (fun i hi hs=>by unfold one at hs;omega)⟩
     ·intro S w' hk hS
      have Vz:=hk.owns (k8.owns hown (fun z hz hs=>by have:=(hown.lt z hz).1;unfold one at hs;omega)) (fun z hz=>hS z hz)
      refine⟨va,vc,none,0,rfl, .mk (show(0:Int)<=0 by decide) (show(0:Int)<=255 by decide) nH (Reads.nil w' 3) rfl (by simp),?_,?_,(show(0:Int)<=(k:Int) by omega),(show(k:Int)<=255 by omega),nH,H.out.2.2.2.2.1⟩
      ·have:=Reads.bQ Vz
       simp only[List.length_map]
       exact this
      ·intro z hz
       obtain⟨x,_,rfl⟩:=List.mem_map.1 hz
       exact NV j.nodes hnl x
     ·have:=hown.lt z hz
      omega
    have FF:=Lib.hid (And.intro F s8)
    have HNB:=Lib.hid hnb
    have K8:=Lib.hid k8
    have hk0: ¬((k:Int)=0):=by omega
    have gk0:((k:Int)==0)=false:=by simpa using hk0
    clear F s8 k8 hown hkp kw bj br hg hnb
    go_wp2_with fail
    refine ak [0,1,2,3,4,5] (fun W=>Kept (one (w.heap.size+1)) wo W) (by kernel_rfl) (by kernel_rfl) rfl ((Kept.refl _ _).drew) ?_
    simp only[List.map_cons,List.map_nil,List.getElem?_toArray,List.getElem?_cons_zero,List.getElem?_cons_succ,Option.getD_some]
    iterate 4 (apply aj rfl rfl;(intro W hW;have nW:=hW.heap HNB.out (show ¬(W2.heap.size+1=w.heap.size+1) by omega);have m0:=cells_at nW (j:=0) rfl;have m1:=cells_at nW (j:=1) rfl;have m2:=cells_at nW (j:=2) rfl;have m3:=cells_at nW (j:=3) rfl;have m4:=cells_at nW (j:=4) rfl;have m5:=cells_at nW (j:=5) rfl;have m6:=cells_at nW (j:=6) rfl;clear nW;go_simp;rfl);go_frame)
    apply aB rfl rfl
    intro K hK
    go_wp2_with fail
    obtain⟨WF,ji⟩: ∃WF,(((((((wo.setCell ⟨w.heap.size+1,0,none⟩ (.string uid)).setCell ⟨w.heap.size+1,1,none⟩ (.int .u8 (k:Int))).setCell ⟨w.heap.size+1,2,none⟩ (.slice va ins.length vc)).setCell ⟨w.heap.size+1,3,none⟩ (.int .u8 0)).setCell ⟨w.heap.size+1,4,none⟩ (.int .i64 0)).setCell ⟨w.heap.size+1,5,none⟩ (.slice none 0 0)).setCell ⟨w.heap.size+1,6,none⟩ (.int .i64 0))=WF:=⟨_,rfl⟩
    obtain⟨F,s8⟩:=FF.out
    have k8:=K8.out
    rw[ji]at s8 F k8⊢
    refine hK _ _ (fun _=>k8.drew) ?_
    clear hK
    apply aj rfl rfl
    ·intro W hW;go_simp;rfl
    go_frame
    refine aG (fun _=>k8.drew) ?_
    have s9:WF.drew.heap[w.heap.size+1]?=some (.cells #[.string uid, .int .u8 (k:Int), .slice va ins.length vc, .int .u8 0, .int .i64 0, .slice none 0 0, .int .i64 0] 42 (0,0)):=s8
    have q0:=cells_at s9 (j:=0) rfl
    have q1:=cells_at s9 (j:=1) rfl
    have q2:=cells_at s9 (j:=2) rfl
    have q3:=cells_at s9 (j:=3) rfl
    have q4:=cells_at s9 (j:=4) rfl
    have q5:=cells_at s9 (j:=5) rfl
    have q6:=cells_at s9 (j:=6) rfl
    clear s8 s9 k8
    go_wp2_with fail
    refine bodyPost_ret (v:= .tuple #[.agg #[.string uid, .int .u8 (k:Int), .slice va ins.length vc, .int .u8 0, .int .i64 0, .slice none 0 0, .int .i64 0], .bool true]) (by simp[results,Tryz.results158,go_sem,q0,q1,q2,q3,q4,q5,q6];omega) rfl F.drew
end Go.Proofs.YtglbkodmmogomaaGreatDoor
