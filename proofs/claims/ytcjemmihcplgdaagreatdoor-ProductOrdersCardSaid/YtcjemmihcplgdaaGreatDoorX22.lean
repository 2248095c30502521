/- The walks of the functions and the plain laws. Own texts of this claim, packed: Zdprodc. -/
import Derived.Test.YtcjemmihcplgdaaGreatDoorX16
import Derived.Test.YtcjemmihcplgdaaGreatDoorX20
import Derived.Test.YtcjemmihcplgdaaGreatDoorX18
import Derived.Test.YtcjemmihcplgdaaGreatDoorX05
import Derived.Test.YtcjemmihcplgdaaGreatDoorX21
set_option linter.all false
namespace Go.Proofs.YtcjemmihcplgdaaGreatDoor
open AL Go
set_option maxRecDepth 100000
section
open ref01 ref03 ref04 ref06 prog prog2 prog3 prog4 prog5 prog6 prog7 prog8 prog9 prog13 starts Part Rungs LeftM TrimM Itoa Keys RoundM MergeM BisM BisM4 BisM5 WalkM StepM WitM JudgM JudgM2 refw judg wit refj sysw divr divs divd dive divg divw divv LevM LevM2 ChsM TrimI QuoM FailM DivM GenW CompM CrossM shelfI
theorem HE {key:Nat} {x v:Value} {w:World} {F:Fz} (h:(osl key x).p w F v):(eqv x).p w F v:=by rw[gZ] at h;exact h
theorem EK {n m:Nat} {p:Int × Int} (h:0≤p.1∧p.1<(n:Int)∧0≤p.2∧p.2<(m:Int)) (hn:n≤10000) (hm:m≤10000):(fC p).size≤aU:=by
 have:=xR p.1 [p.2] O (fun y hy=>by rw[List.mem_singleton.1 hy];omega)
 unfold fC aU
 simp at this
 omega
theorem Th (a b:Int):(iD a++(⟨#[32]⟩:ByteArray))++iD b=lG a [b]:=by
 show _=lG a ([]++ [b])
 rw[←Eo,←Gg,ByteArray.append_assoc]
noncomputable def fL (S U:SS):SS × Bool:=if (cL S U).length≤500 then((tR (bD S U)).1,true) else(⟨[],[]⟩,false)
theorem DE {s t:SS} (h:eO s t):bB s t=(nothing s.aC,true):=by unfold bB;rw[if_pos h]
theorem HF {s t:SS} (h:¬eO s t):bB s t=fL (tR s).1 (tR t).1:=by unfold bB fL;rw[if_neg h]
theorem DF {s:SS} (h:(tR s).2.length=0):ix (hOl s) 0=true:=by
 cases e:ix (hOl s) 0 with
 |true=>rfl
 |false=>
  rw[bX e] at h
  have:=iU s
  have h:(aH s).length=0:=h
  omega
theorem DG {s:SS} (h:ix (hOl s) 0=true):(tR s).2.length=0:=by rw[dK h];rfl
theorem wL {s t:SS}:(decide (((tR s).2.length:Int)=0)||decide (((tR t).2.length:Int)=0))=true↔eO s t:=by
 unfold eO
 rw[Bool.or_eq_true,decide_eq_true_eq,decide_eq_true_eq]
 exact⟨fun h=>h.imp (fun g=>DF O) (fun g=>DF O),fun h=>h.imp (fun g=>by have:=DG g;omega) (fun g=>by have:=DG g;omega)⟩
theorem DH {S U:SS} (h:500<(cL S U).length):fL S U=(⟨[],[]⟩,false):=by unfold fL;rw[if_neg O]
namespace T
theorem vJ:pL Tryz.prog 173 9 3 smE smD:=Ov kR kR
theorem zv3:∀w F,∃u,(zeroValue 3).run Tryz.prog w= .ok u w∧(int 0).p w F u:=AA (v:= .int .i64 0) kR _ (fun _ _=>Dg)
theorem WF:Ent Tryz.prog 91:=aG kR
theorem HG:Ent Tryz.prog 115:=aG kR
theorem VD:Ent Tryz.prog 116:=aG kR
theorem VE:Ent Tryz.prog 117:=aG kR
theorem NG:Ent Tryz.prog 140:=aG kR
theorem NH:Ent Tryz.prog 141:=aG kR
theorem Fp:Ent Tryz.prog 88:=aG kR
theorem Rx:Ent Tryz.prog 90:=aG kR
theorem HH:dF Tryz.prog 147:=dH kR
theorem z173:dM Tryz.prog 173 [.map none]:=cC kR
theorem vK:dF Tryz.prog 173:=dH kR
theorem z67:dM Tryz.prog 67 [.slice none 0 0]:=cC kR
theorem VF:dF Tryz.prog 149:=dH kR
theorem VG:Ent Tryz.prog 114:=aG kR
theorem Ry:Ent Tryz.prog 62:=aG kR
end T
namespace prodc
theorem VH (x y:Int) (hx:0≤x∧x<256) (hy:0≤y∧y<256):
 Fn0 Tryz.prog 91 [int x,int y] (int (bV x y)):=by
 refine fnI Tryz.func91 rfl rfl (fun w0 F0=> ?_)
 refine sq (rg (ag (nl (th (sq (rg (mv (mv (bi J J (FF O O O O) (ag (nl (th (rt ?_)))))))))))))
 have hr0:(((x.toNat&&&y.toNat:Nat):Int):Int)=(bV x y):=by
  rfl
 exact rE () [.tmp 4] J [int ((x.toNat&&&y.toNat:Nat):Int)] ⟨.tmp J,tV⟩ (cA1 (fun x0=>rV [int x0]) hr0) trivial eX
theorem Ld (a b:List Int) (ha:∀k,k<a.length→0≤ix a k∧ix a k<256) (hb:∀k,k<b.length→0≤ix b k∧ix b k<256) (hal:a.length≤10000) (hbl:b.length≤256):
 AL.Fn Tryz.prog 90 [ints a,ints b,clo 91 []] [] (ι:=Unit) (fun N _=>fre N (ints (iN a b))) (fun _=> []):=by
 refine fnI Tryz.func90 rfl rfl (fun w0 F0=> ?_)
 refine fcC (aL 0 J) (fun hm0=> ?_)
 refine fcC (aL 1 J) (fun hm1=> ?_)
 refine sq (rg (ag (nl (th (sq (rg (nw 7 3 1 nE (ag (rtg (key:=7) 7 J (nl (th (sq (sq (rg (mv (lnF J T.aM (mv (nl (th (bk ?_))))))))))))))))))))
 have hI0_0:0≤a.length:=by
  first|omega|simp
 have hI0_1:([]:List Int)=prods (a.take 0) b:=by
  rfl
 refine lp (κ:=Nat × Value × (List Int)) (fun p=> [(1,sl 1 nE b),(2,clo 91 []),(6,eqv (.slice none 0 0)),(7,osl 7 p.2.1),(12,sl 1 nE a),(13,int (a.length:Int)),(14,int (p.1:Int))]) (fun p=> [(7,own p.2.1 3 1 nE p.2.2)]) (fun p=>(p.1≤a.length)∧(p.2.2=prods (a.take p.1) b)) (fun p=>a.length- p.1) ⟨0,(.slice none 0 0),([]:List Int)⟩ ⟨hI0_0,hI0_1⟩ ⟨id,id,id,id,id,id,id,tV⟩ ⟨rI,tV⟩ ?_
 intro⟨k,v7x,out⟩ hG0
 obtain⟨hk0,hI0⟩:(k≤a.length)∧(out=prods (a.take k) b):=hG0
 show Ct _ _ _ _ [(1,sl 1 nE b),(2,clo 91 []),(6,eqv (.slice none 0 0)),(7,osl 7 v7x),(12,sl 1 nE a),(13,int (a.length:Int)),(14,int (k:Int))] [(7,own v7x 3 1 nE out)] _
 refine sq (rg (bi J J aN (nl (th (sq ?_)))))
 refine cd J (fun hc0=> ?_) (fun hc0=> ?_)
 ·try simp at hc0
  have hak:=ha k O
  have hkb:k*b.length≤10000*256:=Nat.mul_le_mul O hbl
  refine sk (th (sq (bk (sq (rg (iF J J T.aM O gB (lF J J T.aF (ag (nl (th (sq (rg (mv (lnF J T.aM (mv (nl (th (bk ?_))))))))))))))))))
  have hI1_0:0≤b.length:=by
   first|omega|simp
  have hI1_1:out=prods (a.take k) b++(b.take 0).map (bV (ix a k)):=by
   rw[hI0];simp
  refine lp (κ:=Nat × Value × (List Int)) (fun p=> [(1,sl 1 nE b),(2,clo 91 []),(6,eqv (.slice none 0 0)),(7,osl 7 p.2.1),(9,int (ix a k)),(12,sl 1 nE a),(13,int (a.length:Int)),(14,int (k:Int)),(18,sl 1 nE b),(19,int (b.length:Int)),(20,int (p.1:Int))]) (fun p=> [(7,own p.2.1 3 1 nE p.2.2)]) (fun p=>(p.1≤b.length)∧(p.2.2=prods (a.take k) b++(b.take p.1).map (bV (ix a k)))) (fun p=>b.length- p.1) ⟨0,v7x,out⟩ ⟨hI1_0,hI1_1⟩ ⟨id,id,id,id,id,id,id,id,id,id,id,tV⟩ ⟨rI,tV⟩ ?_
  intro⟨k1,v7y,ou2⟩ hG1
  obtain⟨hk1,hI1⟩:(k1≤b.length)∧(ou2=prods (a.take k) b++(b.take k1).map (bV (ix a k))):=hG1
  show Ct _ _ _ _ [(1,sl 1 nE b),(2,clo 91 []),(6,eqv (.slice none 0 0)),(7,osl 7 v7y),(9,int (ix a k)),(12,sl 1 nE a),(13,int (a.length:Int)),(14,int (k:Int)),(18,sl 1 nE b),(19,int (b.length:Int)),(20,int (k1:Int))] [(7,own v7y 3 1 nE ou2)] _
  have hol:ou2.length≤2560000+256:=by rw[hI1,List.length_append,NC,List.length_map,List.length_take,List.length_take,Nat.min_eq_left O];omega
  refine sq (rg (bi J J aN (nl (th (sq ?_)))))
  refine cd J (fun hc1=> ?_) (fun hc1=> ?_)
  ·try simp at hc1
   have hbk:=hb k1 O
   refine sk (th (sq (bk (sq (rg (iF J J T.aM O gB (lF J J T.aF (ag (nl (th (rg (mv (mv (mv (mv (nH (φs:= [int (ix a k),int (ix b k1)]) (φ:=int (bV (ix a k) (ix b k1))) J ⟨J,J,tV⟩ (VH (ix a k) (ix b k1) O O) T.WF (bsE (enc:=nE) (xs:= [(bV (ix a k) (ix b k1))]) (css:= [[int (bV (ix a k) (ix b k1))]]) T.cE ⟨J,J,p1 (φ:=int (bV (ix a k) (ix b k1))) J,tV⟩ J J J J (ap (key:=7) (zs:= [(bV (ix a k) (ix b k1))]) cH J J J T.cE (by unfold aU at*;simp;omega) (by unfold aU at*;simp;omega) fun v30=>(ag (nl (eb (th (rg (bi J J (aK i6) (mv (nl ?_))))))))))))))))))))))))))
   have hN0:(k1+1)≤b.length:=by
    first|omega|simp_all
   have hN1:(ou2++ [(bV (ix a k) (ix b k1))])=prods (a.take k) b++(b.take (k1+1)).map (bV (ix a k)):=by
    rw[hI1,bL O,List.map_append,List.append_assoc];rfl
   exact ln (⟨k1+1,v30,ou2++ [(bV (ix a k) (ix b k1))]⟩:Nat × Value × (List Int)) ⟨hN0,hN1⟩ dO ⟨id,id,id,id,id,id,id,id,id,id,id,tV⟩ ⟨rI,tV⟩
  ·try simp at hc1
   refine ex (xt_ (xt_ (xb (eb (th (rg (bi J J (aK i6) (mv (nl ?_)))))))))
   have hN0:(k+1)≤a.length:=by
    first|omega|simp_all
   have hN1:ou2=prods (a.take (k+1)) b:=by
    rw[hI1,Lc O,show k1=b.length by omega,List.take_length]
   exact ln (⟨k+1,v7y,ou2⟩:Nat × Value × (List Int)) ⟨hN0,hN1⟩ dO ⟨id,id,id,id,id,id,id,tV⟩ ⟨rI,tV⟩
 ·try simp at hc0
  refine ex (xt_ (xt_ (xb (th (sq (rg (mv (cal (Hi:= [(7,own v7x 3 1 nE out)]) (φs:= [osl 7 v7x]) ⟨J,tV⟩ (zG 5 7 (shelfI.HB _ v7x out)) T.NG ⟨rI,tV⟩ fun _ _=>(nl (th (sq (rg (mv (cal (Hi:= [(7,own v7x 3 1 nE (pI out))]) (φs:= [osl 7 v7x]) ⟨J,tV⟩ (JI 5 7 (shelfI.HC _ v7x (pI out))) T.NH ⟨rI,tV⟩ fun _ v36=>(ag (nl (th (rt ?_))))))))))))))))))
  refine OE nE 7 6 noM flat rfl rfl ?_
  have hr0:(Lib.compact (pI out))=(iN a b):=by
   rw[hI0,show k=a.length by omega,List.take_length];exact Hy (Vx ha)
  exact rE () [.tmp 6] J [fre w0.heap.size (sl 1 nE (Lib.compact (pI out)))] ⟨.tmp J,tV⟩ (cA1 (fun x0=>rV [fre w0.heap.size (sl 1 nE x0)]) hr0) trivial eX
theorem EL (a b:List Int) (ha:∀k,k<a.length→0≤ix a k∧ix a k<256) (hb:∀k,k<b.length→0≤ix b k∧ix b k<256) (hal:a.length≤10000) (hbl:b.length≤256):AL.Fn Tryz.prog 90 [ints a,ints b,eqv (.func (.func 91) #[] #[])] [] (ι:=Unit) (fun N _=>fre N (ints (iN a b))) (fun _=> []):=
 pO (fun {w F vs} h=>by
  match vs,h with
  | [_,_,_],⟨h1,h2,h3,_⟩=>exact⟨h1,h2,Hz h3,tV⟩) (Ld a b ha hb hal hbl)
theorem key_ok (p:Int × Int) (hp:0≤p.1∧p.1<10000∧0≤p.2∧p.2<10000):
 Fn0 Tryz.prog 115 [kQ (agg [int p.1,int p.2])] (str (fC p)):=by
 refine fnI Tryz.func115 rfl rfl (fun w0 F0=> ?_)
 have z1:=xQ (n:=p.1) O O
 have z2:=xQ (n:=p.2) O O
 refine tbI 0 9999 rfl ?_
 refine GD (ψ:=tab) 9999 997 rfl ?_
 refine sq (rg (bx (key:=1) (cs:= [int p.1,int p.2]) J fun b1=>(ag (nl (th (sq (dr (nh:=9) [0,1,3,7,0,16,55,127,255] T.mixed kR ?_)))))))
 refine st_ J (fun _ _ _ gq kq=>iPA (gq.1.trans J) J T.fA T.aF J kq) ?_
 refine st_ J (fun _ _ _ gq kq=>lP (gq.1.trans J) J J T.aF kq) ?_
 refine st_ J (fun _ _ _ gq kq=>tbK (ψ:=tab) 4 997 (gq.1.trans J) J (aO (φs:= [both (int p.1) tab]) (φ:=str (iD p.1)) ⟨J,tV⟩ (Itoa.yY p.1 O O) T.Fp (tbX (gq.1.trans J) kq))) ?_
 refine st_ J (fun _ _ _ gq kq=>bi (gq.1.trans J) J (BV (by show _+1≤aU;unfold aU;omega)) kq) ?_
 refine st_ J (fun _ _ _ gq kq=>iPA (gq.1.trans J) J T.fA T.aF J kq) ?_
 refine st_ J (fun _ _ _ gq kq=>lP (gq.1.trans J) J J T.aF kq) ?_
 refine st_ J (fun _ _ _ gq kq=>tbK (ψ:=tab) 8 997 (gq.1.trans J) J (aO (φs:= [both (int p.2) tab]) (φ:=str (iD p.2)) ⟨J,tV⟩ (Itoa.yY p.2 O O) T.Fp (tbX (gq.1.trans J) kq))) ?_
 refine st_ J (fun _ _ _ gq kq=>bi (gq.1.trans J) (gq.2.1.trans J) (BV (by rw[ByteArray.size_append];show _+1+_≤aU;unfold aU;omega)) kq) ?_
 refine st_ J (fun _ _ _ gq kq=>ag' (gq.1.trans J) kq) ?_
 refine pn (nl (th (rt ?_)))
 have hr0:(((iD p.1)++({ data:= #[32] }))++(iD p.2))=(fC p):=by
  exact Th _ _
 exact rE () [.tmp 2] J [str (((iD p.1)++({ data:= #[32] }))++(iD p.2))] ⟨.tmp J,tV⟩ (cA1 (fun x0=>rV [str x0]) hr0) trivial eX
theorem Ti (S U:SS) (hS:oK S) (hT:oK U) (p:Int × Int) (hp:cOk S U p):
 Fn0 Tryz.prog 116 [agg [int p.1,int p.2],fp [strs S.aC,sl 2 sE S.sT],fp [strs U.aC,sl 2 sE U.sT]] (ints (cA S U p)):=by
 refine fnI Tryz.func116 rfl rfl (fun w0 F0=> ?_)
 obtain⟨hp1,hp2,hp3,hp4⟩:=hp
 have hss:=hS.st p.1.toNat O
 have hst:=hT.st p.2.toNat O
 have hsl:=hss.len
 have htl:=hst.len
 have hsz:=hS.few1
 have htz:=hT.few1
 have hsa:=hss.ac
 have hta:=hst.ac
 have hs8:=hss.acl
 have ht8:=hst.acl
 refine sq (rg (bx (key:=3) (cs:= [int p.1,int p.2]) J fun b3=>(ag (nl (th (sq (dr (nh:=16) [0,1,0,4,15,31,63,0,128,0,512,1920,3968,8064,16383,32767] T.mixed kR ?_)))))))
 refine st_ J (fun _ _ _ gq kq=>fF (gq.1.trans J) T.aY kq) ?_
 refine st_ J (fun _ _ _ gq kq=>lF (gq.1.trans J) J T.bI kq) ?_
 refine st_ J (fun _ _ _ gq kq=>iPA (gq.1.trans J) J T.fA T.aF J kq) ?_
 refine st_ J (fun _ _ _ gq kq=>lP (gq.1.trans J) J J T.aF kq) ?_
 refine st_ J (fun _ _ _ gq kq=>iF (gq.1.trans J) (gq.2.1.trans J) T.bU O gB kq) ?_
 refine st_ J (fun _ _ _ gq kq=>fF (gq.1.trans J) T.cM kq) ?_
 refine st_ J (fun _ _ _ gq kq=>lF (gq.1.trans J) J T.aV kq) ?_
 refine st_ J (fun _ _ _ gq kq=>fF (gq.1.trans J) T.aY kq) ?_
 refine st_ J (fun _ _ _ gq kq=>lF (gq.1.trans J) J T.bI kq) ?_
 refine st_ J (fun _ _ _ gq kq=>iPA (gq.1.trans J) J T.fA T.aF J kq) ?_
 refine st_ J (fun _ _ _ gq kq=>lP (gq.1.trans J) J J T.aF kq) ?_
 refine st_ J (fun _ _ _ gq kq=>iF (gq.1.trans J) (gq.2.1.trans J) T.bU O gB kq) ?_
 refine st_ J (fun _ _ _ gq kq=>fF (gq.1.trans J) T.cM kq) ?_
 refine st_ J (fun _ _ _ gq kq=>lF (gq.1.trans J) J T.aV kq) ?_
 refine st_ J (fun _ _ _ gq kq=>dU (φs:= [sl 1 nE (ix S.sT p.1.toNat).aP,sl 1 nE (ix U.sT p.2.toNat).aP,eqv (.func (.func 91) #[] #[])]) (φ:=sl 1 nE (iN (ix S.sT p.1.toNat).aP (ix U.sT p.2.toNat).aP)) ⟨(gq.1.trans J),(gq.2.1.trans J),J,tV⟩ (EL (ix S.sT p.1.toNat).aP (ix U.sT p.2.toNat).aP hsa hta O ht8) T.Rx (fun N hN=>fun h=>bP h) kq) ?_
 refine st_ J (fun _ _ _ gq kq=>ag' (gq.1.trans J) kq) ?_
 refine pn (nl (th (rt ?_)))
 have hr0:(iN (ix S.sT p.1.toNat).aP (ix U.sT p.2.toNat).aP)=(cA S U p):=by
  rfl
 exact rE () [.tmp 4] J [sl 1 nE (iN (ix S.sT p.1.toNat).aP (ix U.sT p.2.toNat).aP)] ⟨.tmp J,tV⟩ (cA1 (fun x0=>rV [sl 1 nE x0]) hr0) trivial eX
theorem Tj (S U:SS) (hS:oK S) (hT:oK U) (p:Int × Int) (hp:cOk S U p) (a:Nat) (ha:a<S.aC.length) (hb:a<U.aC.length):
 Fn0 Tryz.prog 117 [agg [int p.1,int p.2],int (a:Int),fp [strs S.aC,sl 2 sE S.sT],fp [strs U.aC,sl 2 sE U.sT]] (agg [int (cN S U p a).1,int (cN S U p a).2]):=by
 refine fnI Tryz.func117 rfl rfl (fun w0 F0=> ?_)
 obtain⟨hp1,hp2,hp3,hp4⟩:=hp
 have hss:=hS.st p.1.toNat O
 have hst:=hT.st p.2.toNat O
 have hsl:=hss.len
 have htl:=hst.len
 have hsz:=hS.few1
 have htz:=hT.few1
 refine sq (rg (bx (key:=4) (cs:= [int p.1,int p.2]) J fun b4=>(al (key:=6) T.z84 (eC (eC eZ)) fun b6=>(nl (th (sq (dr (nh:=21) [0,1,0,4,15,31,63,0,255,511,0,1024,0,4096,15360,31744,64512,0,261120,523264,1048575,2097151] T.mixed kR ?_)))))))
 refine st_ J (fun _ _ _ gq kq=>fF (gq.1.trans J) T.aY kq) ?_
 refine st_ J (fun _ _ _ gq kq=>lF (gq.1.trans J) J T.bI kq) ?_
 refine st_ J (fun _ _ _ gq kq=>iPA (gq.1.trans J) J T.fA T.aF J kq) ?_
 refine st_ J (fun _ _ _ gq kq=>lP (gq.1.trans J) J J T.aF kq) ?_
 refine st_ J (fun _ _ _ gq kq=>iF (gq.1.trans J) (gq.2.1.trans J) T.bU O gB kq) ?_
 refine st_ J (fun _ _ _ gq kq=>fF (gq.1.trans J) T.bQ kq) ?_
 refine st_ J (fun _ _ _ gq kq=>lF (gq.1.trans J) J T.aV kq) ?_
 refine st_ J (fun _ _ _ gq kq=>mv' (gq.1.trans J) kq) ?_
 refine st_ J (fun _ _ _ gq kq=>iF (gq.1.trans J) (gq.2.1.trans J) T.aM O gB kq) ?_
 refine st_ J (fun _ _ _ gq kq=>lF (gq.1.trans J) J T.aF kq) ?_
 refine st_ J (fun _ _ _ gq kq=>fF (gq.1.trans J) T.aY kq) ?_
 refine st_ J (fun _ _ _ gq kq=>lF (gq.1.trans J) J T.bI kq) ?_
 refine st_ J (fun _ _ _ gq kq=>iPA (gq.1.trans J) J T.fA T.aF J kq) ?_
 refine st_ J (fun _ _ _ gq kq=>lP (gq.1.trans J) J J T.aF kq) ?_
 refine st_ J (fun _ _ _ gq kq=>iF (gq.1.trans J) (gq.2.1.trans J) T.bU O gB kq) ?_
 refine st_ J (fun _ _ _ gq kq=>fF (gq.1.trans J) T.bQ kq) ?_
 refine st_ J (fun _ _ _ gq kq=>lF (gq.1.trans J) J T.aV kq) ?_
 refine st_ J (fun _ _ _ gq kq=>mv' (gq.1.trans J) kq) ?_
 refine st_ J (fun _ _ _ gq kq=>iF (gq.1.trans J) (gq.2.1.trans J) T.aM O gB kq) ?_
 refine st_ J (fun _ _ _ gq kq=>lF (gq.1.trans J) J T.aF kq) ?_
 refine st_ J (fun _ _ _ gq kq=>bd (css:= [(0,_),(1,_)]) T.sW (eC (eC eZ)) ⟨J,J,p1 (φ:=int (ix (ix S.sT p.1.toNat).next a)) (by exact(gq.1.trans J)),⟨J,J,p1 (φ:=int (ix (ix U.sT p.2.toNat).next a)) (by exact(gq.2.1.trans J)),tV⟩⟩ kq) ?_
 refine pn (sPA (cs':= [int (ix (ix S.sT p.1.toNat).next a),int (ix (ix U.sT p.2.toNat).next a)]) J J J T.eY J J (nl (th (rt ?_))))
 have hr0:((ix (ix S.sT p.1.toNat).next a):Int)=((cN S U p a).1):=by
  rfl
 have hr1:((ix (ix U.sT p.2.toNat).next a):Int)=((cN S U p a).2):=by
  rfl
 exact rE () [.cell 6 84] J [agg [int (ix (ix S.sT p.1.toNat).next a),int (ix (ix U.sT p.2.toNat).next a)]] ⟨.agg J J T.eY J J,tV⟩ (cA2 (fun x0 x1=>rV [agg [int x0,int x1]]) hr0 hr1) trivial eX
theorem Tk (S U:SS) (hS:oK S) (hT:oK U) (hST:S.aC.length=U.aC.length):
 Fn0 Tryz.prog 114 [kQ (strs S.aC),agg [int 0,int 0],clo 115 [],clo 116 [fp [strs S.aC,sl 2 sE S.sT],fp [strs U.aC,sl 2 sE U.sT]],clo 117 [fp [strs S.aC,sl 2 sE S.sT],fp [strs U.aC,sl 2 sE U.sT]]] (tup [spec (fL S U).1,bl (fL S U).2]):=by
 refine fnI Tryz.func114 rfl rfl (fun w0 F0=> ?_)
 have f1:=hS.few1;have f2:=hT.few1;have f3:=hS.few0;have f4:=hT.few0;have hn8:=hS.n8;have hG:=Lb hS hT
 have hk0:(0:Int)≤((0,0):Int × Int).1∧((0,0):Int × Int).1<10000∧0≤((0,0):Int × Int).2∧((0,0):Int × Int).2<10000:=⟨by decide,by decide,by decide,by decide⟩
 have hks0:(fC (0,0)).size≤aU:=EK (n:=10000) (m:=10000) ⟨by decide,by decide,by decide,by decide⟩ O O
 refine tbI 0 9999 rfl ?_
 refine GD (ψ:=tab) 9999 997 rfl ?_
 refine fcC (aL 0 J) (fun hm0=> ?_)
 refine sq (rg (bx (key:=6) (cs:= [int 0,int 0]) J fun b6=>(bx1 (key:=7) (φ:=clo 115 []) J fun b7=>(bx1 (key:=9) (φ:=clo 117 [fp [sl 1 rE_ S.aC,sl 2 sE S.sT],fp [sl 1 rE_ U.aC,sl 2 sE U.sT]]) J fun b9=>(al (key:=10) T.z25 (eC (eC eZ)) fun b10=>(al (key:=11) T.z4 (eC eZ) fun b11=>(nl (th (sq (rg (mkm (key:=24) (kE:=smE) (dom:=smD) (vE:=smV) fun b24=>(lP J J J T.HH (lPA J J T.eY J (tbU (ψ:=tab) 26 9999 J J (nH (φs:= [both (agg [int 0,int 0]) tab]) (φ:=str (fC (0,0))) J ⟨J,tV⟩ (key_ok (0,0) hk0) T.HG (AL.insert (q:=fC (0,0)) (u:=0) J J Ci J T.vJ hks0 (mv (al (key:=12) T.z173 (eC eZ) fun b12=>(sP (φ:=mpv 24 b24) J J J T.vK J (nl (th (sq (rg (lPA J J T.eY J (bsO 30 (enc:=pE) (xs:= [(0,0)]) (css:= [[int 0,int 0]]) T.mD ⟨J,J,pA (cs:= [int 0,int 0]) J,tV⟩ J J J J fun v30=>(al (key:=13) T.z67 (eC eZ) fun b13=>(bY J J J J T.kL J (nl (th (sq (rg (mv (dU (φs:= [sl 1 rE_ S.aC]) (φ:=sl 1 rE_ S.aC) ⟨J,tV⟩ (prog.jV _ O) T.yX (fun N hN=>fun h=>bP h) (bd (css:= [(0,_)]) T.lA (eC (eC eZ)) ⟨J,J,p1 (φ:=sl 1 rE_ S.aC) J,tV⟩ (al (key:=14) T.z25 (eC (eC eZ)) fun b14=>(sPA (cs':= [sl 1 rE_ S.aC,eqv (.slice none 0 0)]) J J J T.aD J J (nl (th (sq (sq (rg (al (key:=15) T.z3 (eC eZ) fun b15=>(sP (φ:=int 0) J J J T.aF J (nl (th (bk ?_))))))))))))))))))))))))))))))))))))))))))))))
 refine nwC 100 81 2 sE (oJ 14 1 (osl 100 (.slice none 0 0)) rfl rfl dY ?_)
 have hI0_0:GW (cA S U) (cN S U) (cOk S U) fC S.aC.length (S.sT.length*U.sT.length) (cL S U) 0 ([(0,0)]:List (Int × Int)) (dI ([]:List (ByteArray × Int)) (fC (0,0)) 0) ([]:List SA):=by
  exact JE hG (Ht hS hT)
 refine lp (κ:=Nat × Nat × Value × (List (Int × Int)) × (List (ByteArray × Int)) × Value × (List SA)) (fun p=> [(0,sl 1 rE_ S.aC),(3,clo 116 [fp [sl 1 rE_ S.aC,sl 2 sE S.sT],fp [sl 1 rE_ U.aC,sl 2 sE U.sT]]),(7,ptr 7 b7 0),(9,ptr 9 b9 0),(10,ptr 10 b10 0),(11,ptr 11 b11 0),(12,ptr 12 b12 0),(13,ptr 13 b13 0),(14,ptr 14 b14 0),(15,ptr 15 p.1 0),(9999,tab)]) (fun p=> [(6,cell b6 [int 0,int 0]),(7,cell b7 [clo 115 []]),(9,cell b9 [clo 117 [fp [sl 1 rE_ S.aC,sl 2 sE S.sT],fp [sl 1 rE_ U.aC,sl 2 sE U.sT]]]),(10,cell b10 [eqv (.slice none 0 0),eqv (.slice none 0 0)]),(11,cell b11 [bl false]),(12,cell b12 [mpv 24 b24]),(13,cell b13 [osl 30 p.2.2.1]),(14,cell b14 [sl 1 rE_ S.aC,osl 100 p.2.2.2.2.2.1]),(15,cell p.1 [int (p.2.1:Int)]),(24,mp b24 smE smD smV p.2.2.2.2.1),(30,own p.2.2.1 84 2 pE p.2.2.2.1),(100,own p.2.2.2.2.2.1 81 2 sE p.2.2.2.2.2.2),(997,eR tab)]) (fun p=>GW (cA S U) (cN S U) (cOk S U) fC S.aC.length (S.sT.length*U.sT.length) (cL S U) p.2.1 p.2.2.2.1 p.2.2.2.2.1 p.2.2.2.2.2.2) (fun p=>501- p.2.1) ⟨b15,0,v30,([(0,0)]:List (Int × Int)),dI ([]:List (ByteArray × Int)) (fC (0,0)) 0,(.slice none 0 0),([]:List SA)⟩ hI0_0 ⟨id,id,id,id,id,id,id,id,id,id,id,tV⟩ ⟨rI,rI,rI,rI,rI,rI,rI,rI,rI,rI,rI,rI,rI,tV⟩ ?_
 intro⟨ib,i,v,ql,mm,v14,bA⟩ hG0
 have hQW:GW (cA S U) (cN S U) (cOk S U) fC S.aC.length (S.sT.length*U.sT.length) (cL S U) i ql mm bA:=hG0
 show Ct _ _ _ _ [(0,sl 1 rE_ S.aC),(3,clo 116 [fp [sl 1 rE_ S.aC,sl 2 sE S.sT],fp [sl 1 rE_ U.aC,sl 2 sE U.sT]]),(7,ptr 7 b7 0),(9,ptr 9 b9 0),(10,ptr 10 b10 0),(11,ptr 11 b11 0),(12,ptr 12 b12 0),(13,ptr 13 b13 0),(14,ptr 14 b14 0),(15,ptr 15 ib 0),(9999,tab)] [(6,cell b6 [int 0,int 0]),(7,cell b7 [clo 115 []]),(9,cell b9 [clo 117 [fp [sl 1 rE_ S.aC,sl 2 sE S.sT],fp [sl 1 rE_ U.aC,sl 2 sE U.sT]]]),(10,cell b10 [eqv (.slice none 0 0),eqv (.slice none 0 0)]),(11,cell b11 [bl false]),(12,cell b12 [mpv 24 b24]),(13,cell b13 [osl 30 v]),(14,cell b14 [sl 1 rE_ S.aC,osl 100 v14]),(15,cell ib [int (i:Int)]),(24,mp b24 smE smD smV mm),(30,own v 84 2 pE ql),(100,own v14 81 2 sE bA),(997,eR tab)] _
 have hlf:=hQW.few
 have hil:=hQW.il
 have hol:bA.length≤i:=by rw[hQW.out];simp;omega
 refine sq (sq (rg (lP J J J T.aF (lP J J J T.kL (lnO J J T.pR (bi J J aN (nl (th ?_))))))))
 refine cd J (fun hc0=> ?_) (fun hc0=> ?_)
 ·try simp at hc0
  have hPm:=aZ hc0
  have hokP:=hQW.okl _ hPm
  have hcr:=EJ (acc S (ix ql i).1.toNat) (acc U (ix ql i).2.toNat)
  have hcl:(cA S U (ix ql i)).length≤256:=hcr
  refine sk (th (sq (bk (sq (rg (mv (lP J J J T.kL (lP J J J T.aF (iO J J J T.pR O O (lOA J J gB T.eY (by decide) (nH (φs:= [agg [int ((ix ql i).1),int ((ix ql i).2)]]) (φ:=sl 1 nE (cA S U (ix ql i))) J ⟨J,tV⟩ (Ti S U hS hT (ix ql i) hokP) T.VD (bsE (enc:=nE) (xs:= [(-1)]) (css:= [[int (-1)]]) T.cE ⟨J,J,p1 (φ:=int (-1)) J,tV⟩ J J J J (mv (lnF J T.eS (cl (NF 30 300 (prog8.uB S.aC.length O)) T.CA trivial fun N49 v49=>(fc (svI 300 J) fun hsv300=> ?_))))))))))))))))
  rw[←hsv300]
  refine kn 49 (eqv (sv v49)) rfl HE (bd (css:= [(0,_),(1,_)]) T.uM (eC (eC eZ)) ⟨rfl,rfl,p1 (φ:=sl 1 nE (cA S U (ix ql i))) rfl,⟨rfl,rfl,p1 (φ:=eqv (sv v49)) rfl,tV⟩⟩ (al (key:=16) T.z81 (eC (eC eZ)) fun b16=>(sPA (cs':= [sl 1 nE (cA S U (ix ql i)),eqv (sv v49)]) rfl rfl rfl T.cP rfl rfl (knc 16 1 (osl 300 (sv v49)) rfl rfl dY (nl (th (sq (rg (ag (nl (th (sq (sq (rg (fP rfl T.cM (lP rfl rfl rfl T.aV (fc (aL 52 rfl) fun hm52=>(lnF rfl T.aM (mv (nl (th (bk ?_))))))))))))))))))))))
  have hI1_0:0≤(cA S U (ix ql i)).length:=by
   first|omega|simp
  have hI1_1:(0:Int)=aT ((cA S U (ix ql i)).take 0)∧0≤(0:Int)∧(0:Int)<256:=by
   exact⟨rfl,O,O⟩
  refine lp (κ:=Nat × Int) (fun p=> [(0,sl 1 rE_ S.aC),(3,clo 116 [fp [sl 1 rE_ S.aC,sl 2 sE S.sT],fp [sl 1 rE_ U.aC,sl 2 sE U.sT]]),(7,ptr 7 b7 0),(9,ptr 9 b9 0),(10,ptr 10 b10 0),(11,ptr 11 b11 0),(12,ptr 12 b12 0),(13,ptr 13 b13 0),(14,ptr 14 b14 0),(15,ptr 15 ib 0),(16,ptr 16 b16 0),(17,int p.2),(52,sl 1 nE (cA S U (ix ql i))),(53,int ((cA S U (ix ql i)).length:Int)),(54,int (p.1:Int)),(9999,tab)]) (fun p=> [(6,cell b6 [int 0,int 0]),(7,cell b7 [clo 115 []]),(9,cell b9 [clo 117 [fp [sl 1 rE_ S.aC,sl 2 sE S.sT],fp [sl 1 rE_ U.aC,sl 2 sE U.sT]]]),(10,cell b10 [eqv (.slice none 0 0),eqv (.slice none 0 0)]),(11,cell b11 [bl false]),(12,cell b12 [mpv 24 b24]),(13,cell b13 [osl 30 v]),(14,cell b14 [sl 1 rE_ S.aC,osl 100 v14]),(15,cell ib [int (i:Int)]),(16,cell b16 [sl 1 nE (cA S U (ix ql i)),osl 300 (sv v49)]),(24,mp b24 smE smD smV mm),(30,own v 84 2 pE ql),(100,own v14 81 2 sE bA),(300,own (sv v49) 3 1 nE (List.replicate S.aC.length (-1))),(997,eR tab)]) (fun p=>(p.1≤(cA S U (ix ql i)).length)∧(p.2=aT ((cA S U (ix ql i)).take p.1)∧0≤p.2∧p.2<256)) (fun p=>(cA S U (ix ql i)).length- p.1) ⟨0,(0:Int)⟩ ⟨hI1_0,hI1_1⟩ ⟨id,id,id,id,id,id,id,id,id,id,id,id,id,id,id,id,tV⟩ ⟨rI,rI,rI,rI,rI,rI,rI,rI,rI,rI,rI,rI,rI,rI,rI,tV⟩ ?_
  intro⟨k1,cn⟩ hG1
  obtain⟨hk1,hI1⟩:(k1≤(cA S U (ix ql i)).length)∧(cn=aT ((cA S U (ix ql i)).take k1)∧0≤cn∧cn<256):=hG1
  show Ct _ _ _ _ [(0,sl 1 rE_ S.aC),(3,clo 116 [fp [sl 1 rE_ S.aC,sl 2 sE S.sT],fp [sl 1 rE_ U.aC,sl 2 sE U.sT]]),(7,ptr 7 b7 0),(9,ptr 9 b9 0),(10,ptr 10 b10 0),(11,ptr 11 b11 0),(12,ptr 12 b12 0),(13,ptr 13 b13 0),(14,ptr 14 b14 0),(15,ptr 15 ib 0),(16,ptr 16 b16 0),(17,int cn),(52,sl 1 nE (cA S U (ix ql i))),(53,int ((cA S U (ix ql i)).length:Int)),(54,int (k1:Int)),(9999,tab)] [(6,cell b6 [int 0,int 0]),(7,cell b7 [clo 115 []]),(9,cell b9 [clo 117 [fp [sl 1 rE_ S.aC,sl 2 sE S.sT],fp [sl 1 rE_ U.aC,sl 2 sE U.sT]]]),(10,cell b10 [eqv (.slice none 0 0),eqv (.slice none 0 0)]),(11,cell b11 [bl false]),(12,cell b12 [mpv 24 b24]),(13,cell b13 [osl 30 v]),(14,cell b14 [sl 1 rE_ S.aC,osl 100 v14]),(15,cell ib [int (i:Int)]),(16,cell b16 [sl 1 nE (cA S U (ix ql i)),osl 300 (sv v49)]),(24,mp b24 smE smD smV mm),(30,own v 84 2 pE ql),(100,own v14 81 2 sE bA),(300,own (sv v49) 3 1 nE (List.replicate S.aC.length (-1))),(997,eR tab)] _
  refine sq (rg (bi J J aN (nl (th (sq ?_)))))
  refine cd J (fun hc1=> ?_) (fun hc1=> ?_)
  ·try simp at hc1
   have hkb:=qY (aZ (l:=(cA S U (ix ql i))) O)
   refine sk (th (sq (bk (sq (rg (iF J J T.aM O gB (lF J J T.aF (ag (nl (th (rg (mv (mv (bi J J (rO O O O O) (ag (nl (eb (th (rg (bi J J (aK i6) (mv (nl ?_))))))))))))))))))))))
   have hN0:(k1+1)≤(cA S U (ix ql i)).length:=by
    first|omega|simp_all
   have hN1:((cn.toNat|||(ix (cA S U (ix ql i)) k1).toNat:Nat):Int)=aT ((cA S U (ix ql i)).take (k1+1))∧0≤((cn.toNat|||(ix (cA S U (ix ql i)) k1).toNat:Nat):Int)∧((cn.toNat|||(ix (cA S U (ix ql i)) k1).toNat:Nat):Int)<256:=by
    refine⟨?_,O,kG hI1.2.2 hkb.2⟩
    rw[bL O,gQ,←hI1.1]
   exact ln (⟨k1+1,((cn.toNat|||(ix (cA S U (ix ql i)) k1).toNat:Nat):Int)⟩:Nat × Int) ⟨hN0,hN1⟩ dO ⟨id,id,id,id,id,id,id,id,id,id,id,id,id,id,id,id,tV⟩ ⟨rI,rI,rI,rI,rI,rI,rI,rI,rI,rI,rI,rI,rI,rI,rI,tV⟩
  ·try simp at hc1
   refine ex (xt_ (xt_ (xb (th (sq (sq (rg (mv (aO (φs:= [int cn]) (φ:=clo 162 [fp [int cn]]) ⟨J,tV⟩ (prog3.qI cn) T.tA (nl (th (bk ?_))))))))))))
   have hcn2:cn=aT (cA S U (ix ql i)):=by rw[hI1.1,show k1=(cA S U (ix ql i)).length by omega,List.take_length]
   have hcn3:listOf 63 cn=dN (cA S U) (ix ql i):=by unfold dN;rw[hcn2]
   have hR0:GN (cA S U) (cN S U) (cOk S U) fC S.aC.length (cL S U) i ql 0 ql mm (List.replicate S.aC.length (-1)):=by
    exact JF hQW
   refine rf (κ:=Value × (List (Int × Int)) × (List (ByteArray × Int)) × (List Int)) 900 (fun p=> [(6,cell b6 [int 0,int 0]),(7,cell b7 [clo 115 []]),(9,cell b9 [clo 117 [fp [sl 1 rE_ S.aC,sl 2 sE S.sT],fp [sl 1 rE_ U.aC,sl 2 sE U.sT]]]),(10,cell b10 [eqv (.slice none 0 0),eqv (.slice none 0 0)]),(11,cell b11 [bl false]),(12,cell b12 [mpv 24 b24]),(13,cell b13 [osl 30 p.1]),(14,cell b14 [sl 1 rE_ S.aC,osl 100 v14]),(15,cell ib [int (i:Int)]),(16,cell b16 [sl 1 nE (cA S U (ix ql i)),osl 300 (sv v49)]),(24,mp b24 smE smD smV p.2.2.1),(30,own p.1 84 2 pE p.2.1),(100,own v14 81 2 sE bA),(300,own (sv v49) 3 1 nE p.2.2.2),(997,eR tab)]) (fun iR p=>GN (cA S U) (cN S U) (cOk S U) fC S.aC.length (cL S U) i ql iR p.2.1 p.2.2.1 p.2.2.2) (fun c p=>c= .ret∧(500<(cL S U).length)) J (AK cn O O) T.tB J (fun _=>J) (fun _=>J) ⟨v,ql,mm,List.replicate S.aC.length (-1)⟩ hR0 ⟨rI,rI,rI,rI,rI,rI,rI,rI,rI,rI,rI,rI,rI,rI,rI,tV⟩ ?_ ?_ ?_ (fun id k h=>nomatch h.1) (fun c k h=> .inl h.1)
   ·intro m0 ⟨v2,l2,mm2,nx⟩ x0 hG0 hx0 l R w1 M1 F1 hRd
    have hR0:GN (cA S U) (cN S U) (cOk S U) fC S.aC.length (cL S U) i ql m0 l2 mm2 nx:=hG0
    show Ct _ _ _ _ _ ((900,obj l (.loop R)):: [(6,cell b6 [int 0,int 0]),(7,cell b7 [clo 115 []]),(9,cell b9 [clo 117 [fp [sl 1 rE_ S.aC,sl 2 sE S.sT],fp [sl 1 rE_ U.aC,sl 2 sE U.sT]]]),(10,cell b10 [eqv (.slice none 0 0),eqv (.slice none 0 0)]),(11,cell b11 [bl false]),(12,cell b12 [mpv 24 b24]),(13,cell b13 [osl 30 v2]),(14,cell b14 [sl 1 rE_ S.aC,osl 100 v14]),(15,cell ib [int (i:Int)]),(16,cell b16 [sl 1 nE (cA S U (ix ql i)),osl 300 (sv v49)]),(24,mp b24 smE smD smV mm2),(30,own v2 84 2 pE l2),(100,own v14 81 2 sE bA),(300,own (sv v49) 3 1 nE nx),(997,eR tab)]) _
    have hx2:(dN (cA S U) (ix ql i))[m0]?=some x0:=by rw[←hcn3];exact hx0
    obtain⟨a,rfl,ha63,hha⟩:=listOf_get hx0
    have hha2:has (aT (cA S U (ix ql i))) (a:Int)=true:=by rw[←hcn2];exact hha
    obtain⟨hal8,hqok1⟩:=nK hS hT hokP hha2
    have hnl:nx.length=S.aC.length:=by rw[hR0.nx];simp
    have hl2f:=hR0.few
    have hixP:ix l2 i=(ix ql i):=KZ hR0 hc0
    have hil2:i<l2.length:=by rw[hR0.pre];exact Nat.lt_of_lt_of_le hc0 (gL _ _ _ _ ql).length_le
    obtain⟨q1,q2,q3,q4⟩:=id hqok1
    have hkN:0≤(cN S U (ix ql i) a).1∧(cN S U (ix ql i) a).1<10000∧0≤(cN S U (ix ql i) a).2∧(cN S U (ix ql i) a).2<10000:=⟨q1,O,q3,O⟩
    have hks:(fC (cN S U (ix ql i) a)).size≤aU:=EK hqok1 f1 f2
    refine rg (ag (nl (aq hRd J (bk (sq ?_)))))
    refine drH (nh:=9) [0,0,0,6,14,0,63,0,255] [(none,[9]),(none,[13]),(none,[15]),(none,[30]),(none,[30]),(none,[]),(none,[]),(some 21,[]),(some 21,[21])] T.mixed kR kR ?_
    refine stv (d:=65) (fun β0=>clo 117 [fp [sl 1 rE_ S.aC,sl 2 sE S.sT],fp [sl 1 rE_ U.aC,sl 2 sE U.sT]]) [9] J bH (fun β0 _ _ _ _ gq gh kq=>lP (gq.1.trans J) (gh.1.trans J) J T.VF kq) ?_
    refine stv (d:=66) (fun β0=>osl 30 v2) [13] J bH (fun β0 _ _ _ _ gq gh kq=>lP (gq.1.trans J) (gh.1.trans J) J T.kL kq) ?_
    refine stv (d:=67) (fun β0=>int (i:Int)) [15] J bH (fun β0 _ _ _ _ gq gh kq=>lP (gq.1.trans J) (gh.1.trans J) J T.aF kq) ?_
    refine stv (d:=68) (fun β0=>eK 30 v2 2 i 0) [30] J bH (fun β0 _ _ _ _ gq gh kq=>iO (gq.1.trans J) (gh.1.trans J) (gq.2.1.trans J) T.pR O O kq) ?_
    refine stv (d:=69) (fun β0=>agg [int ((ix ql i).1),int ((ix ql i).2)]) [30] J bH (fun β0 _ _ _ _ gq gh kq=>lOA (gq.1.trans J) (gh.1.trans J) gB T.eY (by decide) (kd (φ':=agg [int (ix ql i).1,int (ix ql i).2]) (by rw[hixP];exact fun h=>h) kq)) ?_
    refine stv (d:=70) (fun β0=>int (a:Int)) [] J bH (fun β0 _ _ _ _ gq gh kq=>mv' (gq.1.trans J) kq) ?_
    refine stv (d:=71) (fun β0=>agg [int ((cN S U (ix ql i) a).1),int ((cN S U (ix ql i) a).2)]) [] J bH (fun β0 _ _ _ _ gq gh kq=>nH (φs:= [agg [int ((ix ql i).1),int ((ix ql i).2)],int (a:Int)]) (φ:=agg [int ((cN S U (ix ql i) a).1),int ((cN S U (ix ql i) a).2)]) (gq.1.trans J) ⟨(gq.2.1.trans J),(gq.2.2.1.trans J),tV⟩ (Tj S U hS hT (ix ql i) hokP a hal8 O) T.VE kq) ?_
    refine sta 21 T.z84 (eC (eC eZ)) ?_
    refine stw 21 (fun β0=>cell (gbk (β0 7)) [int ((cN S U (ix ql i) a).1),int ((cN S U (ix ql i) a).2)]) [21] J (fun β β' hb=>by first|rw[hb 7 J]|(dsimp only;rw[hb 7 J])) (fun β0 _ _ _ _ gq gh kq=>sPA (cs':= [int ((cN S U (ix ql i) a).1),int ((cN S U (ix ql i) a).2)]) (gq.1.trans J) (gh.1.trans J) (gq.2.1.trans J) T.eY J J kq) ?_
    refine pnH fun β0=>(nl (th (sq (dr (nh:=10) [0,0,0,6,15,31,63,63,127,511] T.mixed kR ?_))))
    refine st_ J (fun _ _ _ gq kq=>lP (gq.1.trans J) J J T.vK kq) ?_
    refine st_ J (fun _ _ _ gq kq=>lP (gq.1.trans J) J J T.HH kq) ?_
    refine st_ J (fun _ _ _ gq kq=>lPA (gq.1.trans J) J T.eY J kq) ?_
    refine st_ J (fun _ _ _ gq kq=>tbK (ψ:=tab) 75 997 (gq.2.1.trans J) J (nH (φs:= [both (agg [int ((cN S U (ix ql i) a).1),int ((cN S U (ix ql i) a).2)]) tab]) (φ:=str (fC (cN S U (ix ql i) a))) (gq.1.trans J) ⟨J,tV⟩ (key_ok (cN S U (ix ql i) a) hkN) T.HG (tbX (gq.2.1.trans J) kq))) ?_
    refine st_ J (fun _ _ _ gq kq=>Dd (z:=0) (q:=fC (cN S U (ix ql i) a)) (gq.1.trans J) J (fun h=>GA (gq.2.1.trans J) h) T.vJ hks T.zv3 kq) ?_
    refine st_ J (fun _ _ _ gq kq=>mv' (gq.1.trans J) kq) ?_
    refine st_ J (fun _ _ _ gq kq=>xt (gq.1.trans J) J kq) ?_
    refine st_ J (fun _ _ _ gq kq=>xt (gq.1.trans J) J kq) ?_
    refine st_ J (fun _ _ _ gq kq=>ag' (gq.1.trans J) kq) ?_
    refine st_ J (fun _ _ _ gq kq=>ag' (gq.1.trans J) kq) ?_
    refine pn (nl (th (sq (sq (rg (mv (no J (nl (th ?_)))))))))
    refine cd J (fun hc2=> ?_) (fun hc2=> ?_)
    ·skip
     have h5:(cX mm2 (fC (cN S U (ix ql i) a))).isSome=false:=by simpa using hc2
     refine sq (sq (rg (lP J J J T.kL (lnO J J T.pR (bi J J eF (nl (th ?_)))))))
     refine cd J (fun hc3=> ?_) (fun hc3=> ?_)
     ·try simp at hc3
      have h6:(l2.length:Int)=500:=by omega
      refine sq (rg (bd (css:= []) T.lA (eC (eC eZ)) trivial (sPA (cs':= [eqv (.slice none 0 0),eqv (.slice none 0 0)]) J J J T.aD J J (sP (φ:=bl false) J J J T.eB J (nl (th (rt (rt_ (rt_ (rb ?_))))))))))
      have hRr:500<(cL S U).length:=by
       exact JG hG hQW hR0 hc0 hqok1 hx2 rfl h5 h6
      exact rqR ⟨v2,l2,mm2,nx⟩ ⟨rfl,hRr⟩ ⟨rI,rI,rI,rI,rI,rI,rI,rI,rI,rI,rI,rI,rI,rI,rI,rI,tV⟩
     ·try simp at hc3
      refine sk (th (sq (rg (lP J J J T.kL (lnO J J T.pR (ag (nl (th (sq (dr (nh:=5) [0,0,0,6,0,31] T.mixed kR ?_))))))))))
      refine st_ J (fun _ _ _ gq kq=>lP (gq.1.trans J) J J T.vK kq) ?_
      refine st_ J (fun _ _ _ gq kq=>lP (gq.1.trans J) J J T.HH kq) ?_
      refine st_ J (fun _ _ _ gq kq=>lPA (gq.1.trans J) J T.eY J kq) ?_
      refine st_ J (fun _ _ _ gq kq=>tbK (ψ:=tab) 90 997 (gq.2.1.trans J) J (nH (φs:= [both (agg [int ((cN S U (ix ql i) a).1),int ((cN S U (ix ql i) a).2)]) tab]) (φ:=str (fC (cN S U (ix ql i) a))) (gq.1.trans J) ⟨J,tV⟩ (key_ok (cN S U (ix ql i) a) hkN) T.HG (tbX (gq.2.1.trans J) kq))) ?_
      refine st_ J (fun _ _ _ gq kq=>mv' (gq.1.trans J) kq) ?_
      refine pn (mapUpdate (q:=fC (cN S U (ix ql i) a)) (u:=(l2.length:Int)) J J Ci J T.vJ hks (nl (th (rg (lP J J J T.kL (lPA J J T.eY J (bs (css:= [[int ((cN S U (ix ql i) a).1),int ((cN S U (ix ql i) a).2)]]) T.mD ⟨J,J,pA (cs:= [int ((cN S U (ix ql i) a).1),int ((cN S U (ix ql i) a).2)]) J,tV⟩ J J J (ap (key:=30) (zs:= [(cN S U (ix ql i) a)]) cH J J J T.mD (by unfold aU at*;simp;omega) (by unfold aU at*;simp;omega) fun v96=>(bY J J J J T.kL J (nl (th (rg (fP J T.bQ (lP J J J T.aV (mv (mv (iO J J J T.aM O O (sO (φ:=int (l2.length:Int)) J J J T.aF gB J (y':=(l2.length:Int)) J (nl (eb ?_))))))))))))))))))))
      have hN0:GN (cA S U) (cN S U) (cOk S U) fC S.aC.length (cL S U) i ql (m0+1) (l2++ [(cN S U (ix ql i) a)]) (dI mm2 (fC (cN S U (ix ql i) a)) (l2.length:Int)) (nx.set a (l2.length:Int)):=by
       exact Nw hG hQW hR0 hc0 hqok1 hx2 hal8 rfl h5 O
      exact rqN ⟨v96,l2++ [(cN S U (ix ql i) a)],dI mm2 (fC (cN S U (ix ql i) a)) (l2.length:Int),nx.set a (l2.length:Int)⟩ hN0 ⟨rI,rI,rI,rI,rI,rI,rI,rI,rI,rI,rI,rI,rI,rI,rI,rI,tV⟩
    ·skip
     have h5:(cX mm2 (fC (cN S U (ix ql i) a))).isSome=true:=by simpa using hc2
     refine sk (th (rg (fP J T.bQ (lP J J J T.aV (mv (mv (iO J J J T.aM O O (sO (φ:=int ((cX mm2 (fC (cN S U (ix ql i) a))).getD 0)) J J J T.aF gB J (y':=((cX mm2 (fC (cN S U (ix ql i) a))).getD 0)) J (nl (eb ?_))))))))))
     have hN0:GN (cA S U) (cN S U) (cOk S U) fC S.aC.length (cL S U) i ql (m0+1) l2 mm2 (nx.set a ((cX mm2 (fC (cN S U (ix ql i) a))).getD 0)):=by
      exact Nv hG hQW hR0 hc0 hqok1 hx2 hal8 rfl h5
     exact rqN ⟨v2,l2,mm2,nx.set a ((cX mm2 (fC (cN S U (ix ql i) a))).getD 0)⟩ hN0 ⟨rI,rI,rI,rI,rI,rI,rI,rI,rI,rI,rI,rI,rI,rI,rI,rI,tV⟩
   ·intro⟨v2,l2,mm2,nx⟩ hG0
    have hR0:GN (cA S U) (cN S U) (cOk S U) fC S.aC.length (cL S U) i ql (listOf 63 cn).length l2 mm2 nx:=hG0
    show At _ _ _ _ [(6,cell b6 [int 0,int 0]),(7,cell b7 [clo 115 []]),(9,cell b9 [clo 117 [fp [sl 1 rE_ S.aC,sl 2 sE S.sT],fp [sl 1 rE_ U.aC,sl 2 sE U.sT]]]),(10,cell b10 [eqv (.slice none 0 0),eqv (.slice none 0 0)]),(11,cell b11 [bl false]),(12,cell b12 [mpv 24 b24]),(13,cell b13 [osl 30 v2]),(14,cell b14 [sl 1 rE_ S.aC,osl 100 v14]),(15,cell ib [int (i:Int)]),(16,cell b16 [sl 1 nE (cA S U (ix ql i)),osl 300 (sv v49)]),(24,mp b24 smE smD smV mm2),(30,own v2 84 2 pE l2),(100,own v14 81 2 sE bA),(300,own (sv v49) 3 1 nE nx),(997,eR tab)]
    refine eb (th (rg (fP rfl T.aY (lP rfl rfl rfl T.bI (fzc 16 300 1 rfl rfl rfl rfl (lPA rfl rfl T.cP rfl (bsE (enc:=sE) (xs:= [(⟨cA S U (ix ql i),nx⟩)]) (css:= [[sl 1 nE (cA S U (ix ql i)),sl 1 nE nx]]) T.mB ⟨rfl,rfl,pA (cs:= [sl 1 nE (cA S U (ix ql i)),sl 1 nE nx]) rfl,tV⟩ rfl rfl rfl rfl (ap (key:=100) (zs:= [(⟨cA S U (ix ql i),nx⟩)]) cH rfl rfl rfl T.mB (by unfold aU at*;simp;omega) (by unfold aU at*;simp;omega) fun v106=>(fP rfl T.aY (bY rfl rfl rfl rfl T.bI rfl (nl (eb (th (sq (sq (rg (lP rfl rfl rfl T.aF (nl (th (rg (al (key:=15) T.z3 (eC eZ) fun b15=>(sP (φ:=int (i:Int)) rfl rfl rfl T.aF rfl (nl (th (rg (lP rfl rfl rfl T.aF (bi rfl rfl (aK i6) (sP (φ:=int ((i+1:Nat):Int)) rfl rfl rfl T.aF rfl (nl ?_)))))))))))))))))))))))))))))
    have hN0:GW (cA S U) (cN S U) (cOk S U) fC S.aC.length (S.sT.length*U.sT.length) (cL S U) (i+1) l2 mm2 (bA++ [(⟨cA S U (ix ql i),nx⟩)]):=by
     rw[show listOf 63 cn=dN (cA S U) (ix ql i) from hcn3] at hR0
     exact Nx hG hQW hR0 hc0
    exact ln (⟨b15,i+1,v2,l2,mm2,v106,bA++ [(⟨cA S U (ix ql i),nx⟩)]⟩:Nat × Nat × Value × (List (Int × Int)) × (List (ByteArray × Int)) × Value × (List SA)) hN0 (by have:=hQW.few;show 501- (i+1)<501- i;omega) ⟨id,id,id,id,id,id,id,id,id,id,id,tV⟩ ⟨rI,rI,rI,rI,rI,rI,rI,rI,rI,rI,rI,rI,rI,tV⟩
   ·intro⟨v2,l2,mm2,nx⟩ hS0
    have hRt0:500<(cL S U).length:=hS0.2
    show At _ _ _ _ [(6,cell b6 [int 0,int 0]),(7,cell b7 [clo 115 []]),(9,cell b9 [clo 117 [fp [sl 1 rE_ S.aC,sl 2 sE S.sT],fp [sl 1 rE_ U.aC,sl 2 sE U.sT]]]),(10,cell b10 [eqv (.slice none 0 0),eqv (.slice none 0 0)]),(11,cell b11 [bl false]),(12,cell b12 [mpv 24 b24]),(13,cell b13 [osl 30 v2]),(14,cell b14 [sl 1 rE_ S.aC,osl 100 v14]),(15,cell ib [int (i:Int)]),(16,cell b16 [sl 1 nE (cA S U (ix ql i)),osl 300 (sv v49)]),(24,mp b24 smE smD smV mm2),(30,own v2 84 2 pE l2),(100,own v14 81 2 sE bA),(300,own (sv v49) 3 1 nE nx),(997,eR tab)]
    refine rb (rt_ (rb (rt_ (rt_ (rb (rt_ ?_))))))
    refine dE 10 0 (sl 1 rE_ []) rfl rfl bT ?_
    refine dE 10 1 (sl 2 sE []) rfl rfl bT ?_
    have hr0: []=((fL S U).1).aC:=by
     rw[DH hRt0]
    have hr1: []=((fL S U).1).sT:=by
     rw[DH hRt0]
    have hr2:false=((fL S U).2):=by
     rw[DH hRt0]
    exact rE () [.cell 10 25,.cell 11 4] J [agg [sl 1 rE_ [],sl 2 sE []],bl false] ⟨.agg J J T.aD J J,.one J J T.eB J,tV⟩ (cA3 (fun x0 x1 x2=>rV [agg [sl 1 rE_ x0,sl 2 sE x1],bl x2]) hr0 hr1 hr2) trivial eX
 ·try simp at hc0
  have hdn:=DD hQW O
  have hq5:(cL S U).length≤500:=Ny hQW O
  have hq1:fL S U=((tR (bD S U)).1,true):=by unfold fL;rw[if_pos hq5]
  have hqok:oK (bD S U):=qB hS hT (vI hS hT) O
  refine ex (xt_ (xt_ (xb (th (sq (rg (fzc 14 100 1 J J J J (lPA J J T.aD J (kn 110 (spec (bD S U)) J (by rw[show bA=(bD S U).sT from hdn.2];exact fun h=>h) (dU (φs:= [agg [sl 1 rE_ (bD S U).aC,sl 2 sE (bD S U).sT]]) (φ:=tup [agg [sl 1 rE_ ((tR (bD S U)).1.aC),sl 2 sE ((tR (bD S U)).1.sT)],sl 1 nE ((tR (bD S U)).2)]) ⟨J,tV⟩ (prog9.jZ (bD S U) aS) T.uG (fun N hN=>fun h=>qQ (cs:= [agg [fre N (sl 1 rE_ ((tR (bD S U)).1.aC)),frb (ix (hOl (bD S U)) 0) N (sl 2 sE ((tR (bD S U)).1.sT))],sl 1 nE ((tR (bD S U)).2)]) (ds:= [agg [sl 1 rE_ ((tR (bD S U)).1.aC),sl 2 sE ((tR (bD S U)).1.sT)],sl 1 nE ((tR (bD S U)).2)]) ⟨fun h=>cU (cs:= [fre N (sl 1 rE_ ((tR (bD S U)).1.aC)),frb (ix (hOl (bD S U)) 0) N (sl 2 sE ((tR (bD S U)).1.sT))]) (ds:= [sl 1 rE_ ((tR (bD S U)).1.aC),sl 2 sE ((tR (bD S U)).1.sT)]) ⟨fun h=>bP h,fun h=>oP h,tV⟩ h,fun h=>h,tV⟩ h) (mv (xt J J (xt J J (sPA (cs':= [sl 1 rE_ ((tR (bD S U)).1.aC),sl 2 sE ((tR (bD S U)).1.sT)]) J J J T.aD J J (nl (th (sq (rg (lPA J J T.aD J (sPA (cs':= [sl 1 rE_ ((tR (bD S U)).1.aC),sl 2 sE ((tR (bD S U)).1.sT)]) J J J T.aD J J (sP (φ:=bl true) J J J T.eB J (nl (th (rt ?_))))))))))))))))))))))))
  have hr0:((tR (bD S U)).1.aC)=((fL S U).1).aC:=by
   rw[hq1]
  have hr1:((tR (bD S U)).1.sT)=((fL S U).1).sT:=by
   rw[hq1]
  have hr2:true=((fL S U).2):=by
   rw[hq1]
  exact rE () [.cell 10 25,.cell 11 4] J [agg [sl 1 rE_ ((tR (bD S U)).1.aC),sl 2 sE ((tR (bD S U)).1.sT)],bl true] ⟨.agg J J T.aD J J,.one J J T.eB J,tV⟩ (cA3 (fun x0 x1 x2=>rV [agg [sl 1 rE_ x0,sl 2 sE x1],bl x2]) hr0 hr1 hr2) trivial eX
theorem Qc (S U:SS) (hS:oK S) (hU:oK U) (hSU:S.aC.length=U.aC.length):Fn0 Tryz.prog 114 [kQ (strs S.aC),agg [int 0,int 0],eqv (.func (.func 115) #[] #[]),clo 116 [fp [strs S.aC,sl 2 sE S.sT],fp [strs U.aC,sl 2 sE U.sT]],clo 117 [fp [strs S.aC,sl 2 sE S.sT],fp [strs U.aC,sl 2 sE U.sT]]] (tup [spec (fL S U).1,bl (fL S U).2]):=
 pO (fun {w F vs} h=>by
  match vs,h with
  | [_,_,_,_,_],⟨h1,h2,h3,h4,h5,_⟩=>exact⟨h1,h2,Hz h3,h4,h5,tV⟩) (Tk S U hS hU hSU)
theorem Ar (s t:SS) (hs:oK s) (ht:oK t) (hst:s.aC=t.aC):
 Fn0 Tryz.prog 62 [kQ (spec s),spec t] (tup [spec (bB s t).1,bl (bB s t).2]):=by
 refine fnI Tryz.func62 rfl rfl (fun w0 F0=> ?_)
 have hS:=bC hs;have hU:=bC ht;have hSU:(tR s).1.aC.length=(tR t).1.aC.length:=by rw[dV,dV,hst]
 have hn8:=hS.n8
 refine tbI 0 9999 rfl ?_
 refine fcC (bO 0 J) (fun hS0=> ?_)
 obtain⟨hsa0,hss0,hse0⟩:=sLn hS0
 refine fcC (bO 1 J) (fun hS1=> ?_)
 obtain⟨hsa1,hss1,hse1⟩:=sLn hS1
 refine sq (rg (bx (key:=2) (cs:= [sl 1 rE_ s.aC,sl 2 sE s.sT]) J fun b2=>(bx (key:=3) (cs:= [sl 1 rE_ t.aC,sl 2 sE t.sT]) J fun b3=>(al (key:=4) T.z25 (eC (eC eZ)) fun b4=>(ag (nl (th (sq (rg (lPA J J T.aD J (dU (φs:= [agg [sl 1 rE_ s.aC,sl 2 sE s.sT]]) (φ:=tup [agg [sl 1 rE_ ((tR s).1.aC),sl 2 sE ((tR s).1.sT)],sl 1 nE ((tR s).2)]) ⟨J,tV⟩ (prog9.jZ s aS) T.uG (fun N hN=>fun h=>qQ (cs:= [agg [fre N (sl 1 rE_ ((tR s).1.aC)),frb (ix (hOl s) 0) N (sl 2 sE ((tR s).1.sT))],sl 1 nE ((tR s).2)]) (ds:= [agg [sl 1 rE_ ((tR s).1.aC),sl 2 sE ((tR s).1.sT)],sl 1 nE ((tR s).2)]) ⟨fun h=>cU (cs:= [fre N (sl 1 rE_ ((tR s).1.aC)),frb (ix (hOl s) 0) N (sl 2 sE ((tR s).1.sT))]) (ds:= [sl 1 rE_ ((tR s).1.aC),sl 2 sE ((tR s).1.sT)]) ⟨fun h=>bP h,fun h=>oP h,tV⟩ h,fun h=>h,tV⟩ h) (mv (xt J J (xt J J (sPA (cs':= [sl 1 rE_ ((tR s).1.aC),sl 2 sE ((tR s).1.sT)]) J J J T.aD J J (ag (nl (th (sq (rg (lPA J J T.aD J (dU (φs:= [agg [sl 1 rE_ t.aC,sl 2 sE t.sT]]) (φ:=tup [agg [sl 1 rE_ ((tR t).1.aC),sl 2 sE ((tR t).1.sT)],sl 1 nE ((tR t).2)]) ⟨J,tV⟩ (prog9.jZ t aS) T.uG (fun N hN=>fun h=>qQ (cs:= [agg [fre N (sl 1 rE_ ((tR t).1.aC)),frb (ix (hOl t) 0) N (sl 2 sE ((tR t).1.sT))],sl 1 nE ((tR t).2)]) (ds:= [agg [sl 1 rE_ ((tR t).1.aC),sl 2 sE ((tR t).1.sT)],sl 1 nE ((tR t).2)]) ⟨fun h=>cU (cs:= [fre N (sl 1 rE_ ((tR t).1.aC)),frb (ix (hOl t) 0) N (sl 2 sE ((tR t).1.sT))]) (ds:= [sl 1 rE_ ((tR t).1.aC),sl 2 sE ((tR t).1.sT)]) ⟨fun h=>bP h,fun h=>oP h,tV⟩ h,fun h=>h,tV⟩ h) (mv (xt J J (xt J J (sPA (cs':= [sl 1 rE_ ((tR t).1.aC),sl 2 sE ((tR t).1.sT)]) J J J T.aD J J (ag (nl (th (sq (sq (rg (mv (fc (aL 18 J) fun hm18=>(lnF J T.aM (bi J J eF (mv ?_)))))))))))))))))))))))))))))))))))))
 apply gOr (t:=21) (pd:=25) rfl
 rotate_left
 ·intro hg0 fin
  have hg0':=hg0
  try simp at hg0'
  exact gy J J J hg0 (mv (gy J J J hg0 (fc (aL 22 J) fun hm22=>(lnF J T.aM (gy J J J hg0 (bi J J eF (pkF J hg0 J (drp (X:= [(24,_),(23,_),(22,_)]) ⟨J,J,J,tV⟩ fin))))))))
 ·intro hg0 fin
  exact gn J J J hg0 J J (gn J J J hg0 J J (gn J J J hg0 J J (pkT J hg0 J (drp (X:= [(24,_),(23,_),(22,_)]) ⟨J,J,J,tV⟩ fin))))
 refine nl (th ?_)
 refine cd J (fun hc0=> ?_) (fun hc0=> ?_)
 ·skip
  have hh:eO s t:=wL.1 hc0
  refine sq (rg (fP J T.cR (lP J J J T.cV (dU (φs:= [sl 1 rE_ ((tR s).1.aC)]) (φ:=agg [sl 1 rE_ (nothing ((tR s).1.aC)).aC,sl 2 sE (nothing ((tR s).1.aC)).sT]) ⟨J,tV⟩ (prog8.mN ((tR s).1.aC) O) T.Mu (fun N hN=>fun h=>cU (cs:= [fre N (sl 1 rE_ (nothing ((tR s).1.aC)).aC),fre N (sl 2 sE (nothing ((tR s).1.aC)).sT)]) (ds:= [sl 1 rE_ (nothing ((tR s).1.aC)).aC,sl 2 sE (nothing ((tR s).1.aC)).sT]) ⟨fun h=>bP h,fun h=>bP h,tV⟩ h) (sPA (cs':= [sl 1 rE_ (nothing ((tR s).1.aC)).aC,sl 2 sE (nothing ((tR s).1.aC)).sT]) J J J T.aD J J (ag (nl (th (rt (rt_ ?_))))))))))
  have hr0:(nothing ((tR s).1.aC)).aC=((bB s t).1).aC:=by
   rw[DE hh,dV]
  have hr1:(nothing ((tR s).1.aC)).sT=((bB s t).1).sT:=by
   rw[DE hh,dV]
  have hr2:true=((bB s t).2):=by
   rw[DE hh]
  exact rE () [.cell 4 25,.tmp 5] J [agg [sl 1 rE_ (nothing ((tR s).1.aC)).aC,sl 2 sE (nothing ((tR s).1.aC)).sT],bl true] ⟨.agg J J T.aD J J,.tmp J,tV⟩ (cA3 (fun x0 x1 x2=>rV [agg [sl 1 rE_ x0,sl 2 sE x1],bl x2]) hr0 hr1 hr2) trivial eX
 ·skip
  have hh:¬eO s t:=fun g=>by
   have:=wL.2 g
   rw[this] at hc0;cases hc0
  refine sk (th (sq (rg (fP J T.cR (lP J J J T.cV (bd (css:= []) T.sW (eC (eC eZ)) trivial (fzv 2 2 J J (fzv 3 3 J J (mkf (mkf (tbU (ψ:=tab) 30 9999 J J (aO (φs:= [both (sl 1 rE_ ((tR s).1.aC)) tab,agg [int 0,int 0],eqv (.func (.func 115) #[] #[]),clo 116 [fp [sl 1 rE_ ((tR s).1.aC),sl 2 sE ((tR s).1.sT)],fp [sl 1 rE_ ((tR t).1.aC),sl 2 sE ((tR t).1.sT)]],clo 117 [fp [sl 1 rE_ ((tR s).1.aC),sl 2 sE ((tR s).1.sT)],fp [sl 1 rE_ ((tR t).1.aC),sl 2 sE ((tR t).1.sT)]]]) (φ:=tup [agg [sl 1 rE_ ((fL (tR s).1 (tR t).1).1).aC,sl 2 sE ((fL (tR s).1 (tR t).1).1).sT],bl ((fL (tR s).1 (tR t).1).2)]) ⟨J,J,J,J,J,tV⟩ (Qc (tR s).1 (tR t).1 hS hU hSU) T.VG (xt J J (xt J J (sPA (cs':= [sl 1 rE_ ((fL (tR s).1 (tR t).1).1).aC,sl 2 sE ((fL (tR s).1 (tR t).1).1).sT]) J J J T.aD J J (ag (nl (th (rt ?_)))))))))))))))))))
  have hr0:((fL (tR s).1 (tR t).1).1).aC=((bB s t).1).aC:=by
   rw[HF hh]
  have hr1:((fL (tR s).1 (tR t).1).1).sT=((bB s t).1).sT:=by
   rw[HF hh]
  have hr2:((fL (tR s).1 (tR t).1).2)=((bB s t).2):=by
   rw[HF hh]
  exact rE () [.cell 4 25,.tmp 5] J [agg [sl 1 rE_ ((fL (tR s).1 (tR t).1).1).aC,sl 2 sE ((fL (tR s).1 (tR t).1).1).sT],bl ((fL (tR s).1 (tR t).1).2)] ⟨.agg J J T.aD J J,.tmp J,tV⟩ (cA3 (fun x0 x1 x2=>rV [agg [sl 1 rE_ x0,sl 2 sE x1],bl x2]) hr0 hr1 hr2) trivial eX
theorem jI (s t:SS) (hsm:bK s) (htm:bK t):
 Fn0 Tryz.prog 15 [kQ (spec s),spec t] (tup [spec (aA s t).1,int (aA s t).2]):=by
 refine fnI Tryz.func15 rfl rfl (fun w0 F0=> ?_)
 refine tbI 0 9999 rfl ?_
 refine fcC (bO 0 J) (fun hS0=> ?_)
 obtain⟨hsa0,hss0,hse0⟩:=sLn hS0
 refine fcC (bO 1 J) (fun hS1=> ?_)
 obtain⟨hsa1,hss1,hse1⟩:=sLn hS1
 refine sq (rg (bx (key:=2) (cs:= [sl 1 rE_ s.aC,sl 2 sE s.sT]) J fun b2=>(bx (key:=3) (cs:= [sl 1 rE_ t.aC,sl 2 sE t.sT]) J fun b3=>(al (key:=4) T.z25 (eC (eC eZ)) fun b4=>(ag (nl (th (sq (sq (rg (lPA J J T.aD J (lPA J J T.aD J (aO (φs:= [agg [sl 1 rE_ s.aC,sl 2 sE s.sT],agg [sl 1 rE_ t.aC,sl 2 sE t.sT]]) (φ:=int (bN s t)) ⟨J,J,tV⟩ (judg.mS s t aS aS) T.Fk (ag (nl (th (sq (rg (mv (bi J J fS (nl (th ?_))))))))))))))))))))))
 refine cd J (fun hc0=> ?_) (fun hc0=> ?_)
 ·try simp at hc0
  have hd:aA s t=(⟨[],[]⟩,bN s t):=by unfold aA;rw[if_neg hc0]
  refine sq (rg (bd (css:= []) T.lA (eC (eC eZ)) trivial (mv (sPA (cs':= [eqv (.slice none 0 0),eqv (.slice none 0 0)]) J J J T.aD J J (ag (nl (th (rt (rt_ ?_)))))))))
  refine dE 4 0 (sl 1 rE_ []) rfl rfl bT ?_
  refine dE 4 1 (sl 2 sE []) rfl rfl bT ?_
  have hr0: []=((aA s t).1).aC:=by
   rw[hd]
  have hr1: []=((aA s t).1).sT:=by
   rw[hd]
  have hr2:((bN s t):Int)=((aA s t).2):=by
   rw[hd]
  exact rE () [.cell 4 25,.tmp 5] J [agg [sl 1 rE_ [],sl 2 sE []],int (bN s t)] ⟨.agg J J T.aD J J,.tmp J,tV⟩ (cA3 (fun x0 x1 x2=>rV [agg [sl 1 rE_ x0,sl 2 sE x1],int x2]) hr0 hr1 hr2) trivial eX
 ·try simp at hc0
  obtain⟨hsv,htv,hst⟩:=Go.Proofs.YtcjemmihcplgdaaGreatDoor.mX hc0
  have hs:=bW hsv
  have ht:=bW htv
  refine sk (th (sq (rg (lPA J J T.aD J (lPA J J T.aD J (tbU (ψ:=tab) 17 9999 J J (aO (φs:= [both (agg [sl 1 rE_ s.aC,sl 2 sE s.sT]) tab,agg [sl 1 rE_ t.aC,sl 2 sE t.sT]]) (φ:=tup [agg [sl 1 rE_ ((bB s t).1).aC,sl 2 sE ((bB s t).1).sT],bl ((bB s t).2)]) ⟨J,J,tV⟩ (prodc.Ar s t aS aS aS) T.Ry (mv (xt J J (xt J J (al (key:=7) T.z25 (eC (eC eZ)) fun b7=>(sPA (cs':= [sl 1 rE_ ((bB s t).1).aC,sl 2 sE ((bB s t).1).sT]) J J J T.aD J J (ag (nl (th (sq (sq (rg (mv (no J (nl (th ?_))))))))))))))))))))))
  refine cd J (fun hc1=> ?_) (fun hc1=> ?_)
  ·try simp at hc1
   have hd:aA s t=(⟨[],[]⟩,2):=by unfold aA;rw[if_pos hc0,if_neg (by simpa using hc1)]
   refine sq (rg (bd (css:= []) T.lA (eC (eC eZ)) trivial (sPA (cs':= [eqv (.slice none 0 0),eqv (.slice none 0 0)]) J J J T.aD J J (ag (nl (th (rt (rt_ ?_))))))))
   refine dE 4 0 (sl 1 rE_ []) rfl rfl bT ?_
   refine dE 4 1 (sl 2 sE []) rfl rfl bT ?_
   have hr0: []=((aA s t).1).aC:=by
    rw[hd]
   have hr1: []=((aA s t).1).sT:=by
    rw[hd]
   have hr2:(2:Int)=((aA s t).2):=by
    rw[hd]
   exact rE () [.cell 4 25,.tmp 5] J [agg [sl 1 rE_ [],sl 2 sE []],int 2] ⟨.agg J J T.aD J J,.tmp J,tV⟩ (cA3 (fun x0 x1 x2=>rV [agg [sl 1 rE_ x0,sl 2 sE x1],int x2]) hr0 hr1 hr2) trivial eX
  ·try simp at hc1
   have hd:aA s t=((bB s t).1,0):=by unfold aA;rw[if_pos hc0,if_pos (by simpa using hc1)]
   refine sk (th (sq (rg (lPA J J T.aD J (sPA (cs':= [sl 1 rE_ ((bB s t).1).aC,sl 2 sE ((bB s t).1).sT]) J J J T.aD J J (ag (nl (th (rt ?_)))))))))
   have hr0:((bB s t).1).aC=((aA s t).1).aC:=by
    rw[hd]
   have hr1:((bB s t).1).sT=((aA s t).1).sT:=by
    rw[hd]
   have hr2:(0:Int)=((aA s t).2):=by
    rw[hd]
   exact rE () [.cell 4 25,.tmp 5] J [agg [sl 1 rE_ ((bB s t).1).aC,sl 2 sE ((bB s t).1).sT],int 0] ⟨.agg J J T.aD J J,.tmp J,tV⟩ (cA3 (fun x0 x1 x2=>rV [agg [sl 1 rE_ x0,sl 2 sE x1],int x2]) hr0 hr1 hr2) trivial eX
end prodc
end
end Go.Proofs.YtcjemmihcplgdaaGreatDoor
