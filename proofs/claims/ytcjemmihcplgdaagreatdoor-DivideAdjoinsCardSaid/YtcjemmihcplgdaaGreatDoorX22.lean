/- The walks of the functions and the plain laws. Own texts of this claim, packed: Zdprodc. -/
import Derived.Test.YtcjemmihcplgdaaGreatDoorX16
import Derived.Test.YtcjemmihcplgdaaGreatDoorX20
import Derived.Test.YtcjemmihcplgdaaGreatDoorX18
import Derived.Test.YtcjemmihcplgdaaGreatDoorX05
import Derived.Test.YtcjemmihcplgdaaGreatDoorX21
set_option linter.all false
namespace Go.Proofs.YtcjemmihcplgdaaGreatDoor
open AL Go
set_option maxRecDepth 100000
section
open ref01 ref03 ref04 ref06 prog prog2 prog3 prog4 prog5 prog6 prog7 prog8 prog9 prog13 starts Part Rungs LeftM TrimM Itoa Keys RoundM MergeM BisM BisM4 BisM5 WalkM StepM WitM JudgM JudgM2 refw judg wit refj sysw divr divs divd dive divg divw divv LevM LevM2 ChsM TrimI QuoM FailM DivM GenW CompM CrossM shelfI
theorem osl_rawC {key:Nat} {x v:Value} {w:World} {F:Fz} (h:(osl key x).p w F v):(eqv x).p w F v:=by rw[osl_is] at h;exact h
theorem pkey_size {n m:Nat} {p:Int × Int} (h:0≤p.1∧p.1<(n:Int)∧0≤p.2∧p.2<(m:Int)) (hn:n≤10000) (hm:m≤10000):(pkey p).size≤maxL:=by
 have:=keyB_size p.1 [p.2] O (fun y hy=>by rw[List.mem_singleton.1 hy];omega)
 unfold pkey maxL
 simp at this
 omega
theorem pkey_eq (a b:Int):(itoaB a++(⟨#[32]⟩:ByteArray))++itoaB b=keyB a [b]:=by
 show _=keyB a ([]++ [b])
 rw[←keyB_snoc,←keyB_nil,ByteArray.append_assoc]
noncomputable def growS (S U:SS):SS × Bool:=if (cL S U).length≤500 then((tR (compD S U)).1,true) else(⟨[],[]⟩,false)
theorem com_yes {s t:SS} (h:hol2 s t):comS s t=(nothing s.aC,true):=by unfold comS;rw[if_pos h]
theorem com_no {s t:SS} (h:¬hol2 s t):comS s t=growS (tR s).1 (tR t).1:=by unfold comS growS;rw[if_neg h]
theorem hol_nil {s:SS} (h:(tR s).2.length=0):ix (hOl s) 0=true:=by
 cases e:ix (hOl s) 0 with
 |true=>rfl
 |false=>
  rw[trimmed_not e] at h
  have:=ordS_pos s
  have h:(ordS s).length=0:=h
  omega
theorem nil_hol {s:SS} (h:ix (hOl s) 0=true):(tR s).2.length=0:=by rw[trimmed_hol h];rfl
theorem com_cond {s t:SS}:(decide (((tR s).2.length:Int)=0)||decide (((tR t).2.length:Int)=0))=true↔hol2 s t:=by
 unfold hol2
 rw[Bool.or_eq_true,decide_eq_true_eq,decide_eq_true_eq]
 exact⟨fun h=>h.imp (fun g=>hol_nil O) (fun g=>hol_nil O),fun h=>h.imp (fun g=>by have:=nil_hol g;omega) (fun g=>by have:=nil_hol g;omega)⟩
theorem grow_no {S U:SS} (h:500<(cL S U).length):growS S U=(⟨[],[]⟩,false):=by unfold growS;rw[if_neg O]
namespace T
theorem map173:MapT Tryz.prog 173 9 3 smE smD:=mapT_str kR kR
theorem zv3:∀w F,∃u,(zeroValue 3).run Tryz.prog w= .ok u w∧(int 0).p w F u:=zeroV_of (v:= .int .i64 0) kR _ (fun _ _=>eqv_rfl)
theorem ent91:Ent Tryz.prog 91:=ent_of kR
theorem ent115:Ent Tryz.prog 115:=ent_of kR
theorem ent116:Ent Tryz.prog 116:=ent_of kR
theorem ent117:Ent Tryz.prog 117:=ent_of kR
theorem ent140:Ent Tryz.prog 140:=ent_of kR
theorem ent141:Ent Tryz.prog 141:=ent_of kR
theorem ent88:Ent Tryz.prog 88:=ent_of kR
theorem ent90:Ent Tryz.prog 90:=ent_of kR
theorem one147:IsOne Tryz.prog 147:=isOne_of kR
theorem z173:ZeroIs Tryz.prog 173 [.map none]:=zeroIs_of kR
theorem one173:IsOne Tryz.prog 173:=isOne_of kR
theorem z67:ZeroIs Tryz.prog 67 [.slice none 0 0]:=zeroIs_of kR
theorem one149:IsOne Tryz.prog 149:=isOne_of kR
theorem ent114:Ent Tryz.prog 114:=ent_of kR
theorem ent62:Ent Tryz.prog 62:=ent_of kR
end T
namespace prodc
theorem and_ok (x y:Int) (hx:0≤x∧x<256) (hy:0≤y∧y<256):
 Fn0 Tryz.prog 91 [int x,int y] (int (andI x y)):=by
 refine fnI Tryz.func91 rfl rfl (fun w0 F0=> ?_)
 refine sq (rg (ag (nl (th (sq (rg (mv (mv (bi J J (b_andI O O O O) (ag (nl (th (rt ?_)))))))))))))
 have hr0:(((x.toNat&&&y.toNat:Nat):Int):Int)=(andI x y):=by
  rfl
 exact rE () [.tmp 4] J [int ((x.toNat&&&y.toNat:Nat):Int)] ⟨.tmp J,tV⟩ (cA1 (fun x0=>rV [int x0]) hr0) trivial eX
theorem crossed_ok (a b:List Int) (ha:∀k,k<a.length→0≤ix a k∧ix a k<256) (hb:∀k,k<b.length→0≤ix b k∧ix b k<256) (hal:a.length≤10000) (hbl:b.length≤256):
 AL.Fn Tryz.prog 90 [ints a,ints b,clo 91 []] [] (ι:=Unit) (fun N _=>fre N (ints (crossL a b))) (fun _=> []):=by
 refine fnI Tryz.func90 rfl rfl (fun w0 F0=> ?_)
 refine fcC (slenI 0 J) (fun hm0=> ?_)
 refine fcC (slenI 1 J) (fun hm1=> ?_)
 refine sq (rg (ag (nl (th (sq (rg (nw 7 3 1 nE (ag (rtg (key:=7) 7 J (nl (th (sq (sq (rg (mv (lnF J T.sl36 (mv (nl (th (bk ?_))))))))))))))))))))
 have hI0_0:0≤a.length:=by
  first|omega|simp
 have hI0_1:([]:List Int)=prods (a.take 0) b:=by
  rfl
 refine lp (κ:=Nat × Value × (List Int)) (fun p=> [(1,sl 1 nE b),(2,clo 91 []),(6,eqv (.slice none 0 0)),(7,osl 7 p.2.1),(12,sl 1 nE a),(13,int (a.length:Int)),(14,int (p.1:Int))]) (fun p=> [(7,own p.2.1 3 1 nE p.2.2)]) (fun p=>(p.1≤a.length)∧(p.2.2=prods (a.take p.1) b)) (fun p=>a.length- p.1) ⟨0,(.slice none 0 0),([]:List Int)⟩ ⟨hI0_0,hI0_1⟩ ⟨id,id,id,id,id,id,id,tV⟩ ⟨rI,tV⟩ ?_
 intro⟨k,v7x,out⟩ hG0
 obtain⟨hk0,hI0⟩:(k≤a.length)∧(out=prods (a.take k) b):=hG0
 show Ct _ _ _ _ [(1,sl 1 nE b),(2,clo 91 []),(6,eqv (.slice none 0 0)),(7,osl 7 v7x),(12,sl 1 nE a),(13,int (a.length:Int)),(14,int (k:Int))] [(7,own v7x 3 1 nE out)] _
 refine sq (rg (bi J J b_lss (nl (th (sq ?_)))))
 refine cd J (fun hc0=> ?_) (fun hc0=> ?_)
 ·try simp at hc0
  have hak:=ha k O
  have hkb:k*b.length≤10000*256:=Nat.mul_le_mul O hbl
  refine sk (th (sq (bk (sq (rg (iF J J T.sl36 O gB (lF J J T.one3 (ag (nl (th (sq (rg (mv (lnF J T.sl36 (mv (nl (th (bk ?_))))))))))))))))))
  have hI1_0:0≤b.length:=by
   first|omega|simp
  have hI1_1:out=prods (a.take k) b++(b.take 0).map (andI (ix a k)):=by
   rw[hI0];simp
  refine lp (κ:=Nat × Value × (List Int)) (fun p=> [(1,sl 1 nE b),(2,clo 91 []),(6,eqv (.slice none 0 0)),(7,osl 7 p.2.1),(9,int (ix a k)),(12,sl 1 nE a),(13,int (a.length:Int)),(14,int (k:Int)),(18,sl 1 nE b),(19,int (b.length:Int)),(20,int (p.1:Int))]) (fun p=> [(7,own p.2.1 3 1 nE p.2.2)]) (fun p=>(p.1≤b.length)∧(p.2.2=prods (a.take k) b++(b.take p.1).map (andI (ix a k)))) (fun p=>b.length- p.1) ⟨0,v7x,out⟩ ⟨hI1_0,hI1_1⟩ ⟨id,id,id,id,id,id,id,id,id,id,id,tV⟩ ⟨rI,tV⟩ ?_
  intro⟨k1,v7y,ou2⟩ hG1
  obtain⟨hk1,hI1⟩:(k1≤b.length)∧(ou2=prods (a.take k) b++(b.take k1).map (andI (ix a k))):=hG1
  show Ct _ _ _ _ [(1,sl 1 nE b),(2,clo 91 []),(6,eqv (.slice none 0 0)),(7,osl 7 v7y),(9,int (ix a k)),(12,sl 1 nE a),(13,int (a.length:Int)),(14,int (k:Int)),(18,sl 1 nE b),(19,int (b.length:Int)),(20,int (k1:Int))] [(7,own v7y 3 1 nE ou2)] _
  have hol:ou2.length≤2560000+256:=by rw[hI1,List.length_append,prods_len,List.length_map,List.length_take,List.length_take,Nat.min_eq_left O];omega
  refine sq (rg (bi J J b_lss (nl (th (sq ?_)))))
  refine cd J (fun hc1=> ?_) (fun hc1=> ?_)
  ·try simp at hc1
   have hbk:=hb k1 O
   refine sk (th (sq (bk (sq (rg (iF J J T.sl36 O gB (lF J J T.one3 (ag (nl (th (rg (mv (mv (mv (mv (calC0 (φs:= [int (ix a k),int (ix b k1)]) (φ:=int (andI (ix a k) (ix b k1))) J ⟨J,J,tV⟩ (and_ok (ix a k) (ix b k1) O O) T.ent91 (bsE (enc:=nE) (xs:= [(andI (ix a k) (ix b k1))]) (css:= [[int (andI (ix a k) (ix b k1))]]) T.mk36 ⟨J,J,p1 (φ:=int (andI (ix a k) (ix b k1))) J,tV⟩ J J J J (ap (key:=7) (zs:= [(andI (ix a k) (ix b k1))]) osl_eq J J J T.mk36 (by unfold maxL at*;simp;omega) (by unfold maxL at*;simp;omega) fun v30=>(ag (nl (eb (th (rg (bi J J (b_add i6) (mv (nl ?_))))))))))))))))))))))))))
   have hN0:(k1+1)≤b.length:=by
    first|omega|simp_all
   have hN1:(ou2++ [(andI (ix a k) (ix b k1))])=prods (a.take k) b++(b.take (k1+1)).map (andI (ix a k)):=by
    rw[hI1,take_s O,List.map_append,List.append_assoc];rfl
   exact ln (⟨k1+1,v30,ou2++ [(andI (ix a k) (ix b k1))]⟩:Nat × Value × (List Int)) ⟨hN0,hN1⟩ dO ⟨id,id,id,id,id,id,id,id,id,id,id,tV⟩ ⟨rI,tV⟩
  ·try simp at hc1
   refine ex (xt_ (xt_ (xb (eb (th (rg (bi J J (b_add i6) (mv (nl ?_)))))))))
   have hN0:(k+1)≤a.length:=by
    first|omega|simp_all
   have hN1:ou2=prods (a.take (k+1)) b:=by
    rw[hI1,prods_snoc O,show k1=b.length by omega,List.take_length]
   exact ln (⟨k+1,v7y,ou2⟩:Nat × Value × (List Int)) ⟨hN0,hN1⟩ dO ⟨id,id,id,id,id,id,id,tV⟩ ⟨rI,tV⟩
 ·try simp at hc0
  refine ex (xt_ (xt_ (xb (th (sq (rg (mv (cal (Hi:= [(7,own v7x 3 1 nE out)]) (φs:= [osl 7 v7x]) ⟨J,tV⟩ (rekeyIO 5 7 (shelfI.SortI_ok _ v7x out)) T.ent140 ⟨rI,tV⟩ fun _ _=>(nl (th (sq (rg (mv (cal (Hi:= [(7,own v7x 3 1 nE (srtI out))]) (φs:= [osl 7 v7x]) ⟨J,tV⟩ (rekeyIV 5 7 (shelfI.CompI_ok _ v7x (srtI out))) T.ent141 ⟨rI,tV⟩ fun _ v36=>(ag (nl (th (rt ?_))))))))))))))))))
  refine fzNA nE 7 6 noM flat rfl rfl ?_
  have hr0:(Lib.compact (srtI out))=(crossL a b):=by
   rw[hI0,show k=a.length by omega,List.take_length];exact cross_sorted (all_bd ha)
  exact rE () [.tmp 6] J [fre w0.heap.size (sl 1 nE (Lib.compact (srtI out)))] ⟨.tmp J,tV⟩ (cA1 (fun x0=>rV [fre w0.heap.size (sl 1 nE x0)]) hr0) trivial eX
theorem crossC_ok (a b:List Int) (ha:∀k,k<a.length→0≤ix a k∧ix a k<256) (hb:∀k,k<b.length→0≤ix b k∧ix b k<256) (hal:a.length≤10000) (hbl:b.length≤256):AL.Fn Tryz.prog 90 [ints a,ints b,eqv (.func (.func 91) #[] #[])] [] (ι:=Unit) (fun N _=>fre N (ints (crossL a b))) (fun _=> []):=
 fn_args (fun {w F vs} h=>by
  match vs,h with
  | [_,_,_],⟨h1,h2,h3,_⟩=>exact⟨h1,h2,eq_clo h3,tV⟩) (crossed_ok a b ha hb hal hbl)
theorem key_ok (p:Int × Int) (hp:0≤p.1∧p.1<10000∧0≤p.2∧p.2<10000):
 Fn0 Tryz.prog 115 [tabbed (agg [int p.1,int p.2])] (str (pkey p)):=by
 refine fnI Tryz.func115 rfl rfl (fun w0 F0=> ?_)
 have z1:=itoa_size (n:=p.1) O O
 have z2:=itoa_size (n:=p.2) O O
 refine tbI 0 9999 rfl ?_
 refine tbJC (ψ:=tab) 9999 997 rfl ?_
 refine sq (rg (bx (key:=1) (cs:= [int p.1,int p.2]) J fun b1=>(ag (nl (th (sq (dr (nh:=9) [0,1,3,7,0,16,55,127,255] T.mixed kR ?_)))))))
 refine st_ J (fun _ _ _ gq kq=>iPA (gq.1.trans J) J T.arr84 T.one3 J kq) ?_
 refine st_ J (fun _ _ _ gq kq=>lP (gq.1.trans J) J J T.one3 kq) ?_
 refine st_ J (fun _ _ _ gq kq=>tbK (ψ:=tab) 4 997 (gq.1.trans J) J (cal0 (φs:= [both (int p.1) tab]) (φ:=str (itoaB p.1)) ⟨J,tV⟩ (Itoa.Itoa_ok p.1 O O) T.ent88 (tbX (gq.1.trans J) kq))) ?_
 refine st_ J (fun _ _ _ gq kq=>bi (gq.1.trans J) J (b_addS (by show _+1≤maxL;unfold maxL;omega)) kq) ?_
 refine st_ J (fun _ _ _ gq kq=>iPA (gq.1.trans J) J T.arr84 T.one3 J kq) ?_
 refine st_ J (fun _ _ _ gq kq=>lP (gq.1.trans J) J J T.one3 kq) ?_
 refine st_ J (fun _ _ _ gq kq=>tbK (ψ:=tab) 8 997 (gq.1.trans J) J (cal0 (φs:= [both (int p.2) tab]) (φ:=str (itoaB p.2)) ⟨J,tV⟩ (Itoa.Itoa_ok p.2 O O) T.ent88 (tbX (gq.1.trans J) kq))) ?_
 refine st_ J (fun _ _ _ gq kq=>bi (gq.1.trans J) (gq.2.1.trans J) (b_addS (by rw[ByteArray.size_append];show _+1+_≤maxL;unfold maxL;omega)) kq) ?_
 refine st_ J (fun _ _ _ gq kq=>ag' (gq.1.trans J) kq) ?_
 refine pn (nl (th (rt ?_)))
 have hr0:(((itoaB p.1)++({ data:= #[32] }))++(itoaB p.2))=(pkey p):=by
  exact pkey_eq _ _
 exact rE () [.tmp 2] J [str (((itoaB p.1)++({ data:= #[32] }))++(itoaB p.2))] ⟨.tmp J,tV⟩ (cA1 (fun x0=>rV [str x0]) hr0) trivial eX
theorem sets_ok (S U:SS) (hS:oK S) (hT:oK U) (p:Int × Int) (hp:cOk S U p):
 Fn0 Tryz.prog 116 [agg [int p.1,int p.2],fp [strs S.aC,sl 2 sE S.sT],fp [strs U.aC,sl 2 sE U.sT]] (ints (cA S U p)):=by
 refine fnI Tryz.func116 rfl rfl (fun w0 F0=> ?_)
 obtain⟨hp1,hp2,hp3,hp4⟩:=hp
 have hss:=hS.st p.1.toNat O
 have hst:=hT.st p.2.toNat O
 have hsl:=hss.len
 have htl:=hst.len
 have hsz:=hS.few1
 have htz:=hT.few1
 have hsa:=hss.ac
 have hta:=hst.ac
 have hs8:=hss.acl
 have ht8:=hst.acl
 refine sq (rg (bx (key:=3) (cs:= [int p.1,int p.2]) J fun b3=>(ag (nl (th (sq (dr (nh:=16) [0,1,0,4,15,31,63,0,128,0,512,1920,3968,8064,16383,32767] T.mixed kR ?_)))))))
 refine st_ J (fun _ _ _ gq kq=>fF (gq.1.trans J) T.fld25_1 kq) ?_
 refine st_ J (fun _ _ _ gq kq=>lF (gq.1.trans J) J T.one23 kq) ?_
 refine st_ J (fun _ _ _ gq kq=>iPA (gq.1.trans J) J T.arr84 T.one3 J kq) ?_
 refine st_ J (fun _ _ _ gq kq=>lP (gq.1.trans J) J J T.one3 kq) ?_
 refine st_ J (fun _ _ _ gq kq=>iF (gq.1.trans J) (gq.2.1.trans J) T.sl23 O gB kq) ?_
 refine st_ J (fun _ _ _ gq kq=>fF (gq.1.trans J) T.fld81_0 kq) ?_
 refine st_ J (fun _ _ _ gq kq=>lF (gq.1.trans J) J T.one36 kq) ?_
 refine st_ J (fun _ _ _ gq kq=>fF (gq.1.trans J) T.fld25_1 kq) ?_
 refine st_ J (fun _ _ _ gq kq=>lF (gq.1.trans J) J T.one23 kq) ?_
 refine st_ J (fun _ _ _ gq kq=>iPA (gq.1.trans J) J T.arr84 T.one3 J kq) ?_
 refine st_ J (fun _ _ _ gq kq=>lP (gq.1.trans J) J J T.one3 kq) ?_
 refine st_ J (fun _ _ _ gq kq=>iF (gq.1.trans J) (gq.2.1.trans J) T.sl23 O gB kq) ?_
 refine st_ J (fun _ _ _ gq kq=>fF (gq.1.trans J) T.fld81_0 kq) ?_
 refine st_ J (fun _ _ _ gq kq=>lF (gq.1.trans J) J T.one36 kq) ?_
 refine st_ J (fun _ _ _ gq kq=>calW (φs:= [sl 1 nE (ix S.sT p.1.toNat).aP,sl 1 nE (ix U.sT p.2.toNat).aP,eqv (.func (.func 91) #[] #[])]) (φ:=sl 1 nE (crossL (ix S.sT p.1.toNat).aP (ix U.sT p.2.toNat).aP)) ⟨(gq.1.trans J),(gq.2.1.trans J),J,tV⟩ (crossC_ok (ix S.sT p.1.toNat).aP (ix U.sT p.2.toNat).aP hsa hta O ht8) T.ent90 (fun N hN=>fun h=>nw_le h) kq) ?_
 refine st_ J (fun _ _ _ gq kq=>ag' (gq.1.trans J) kq) ?_
 refine pn (nl (th (rt ?_)))
 have hr0:(crossL (ix S.sT p.1.toNat).aP (ix U.sT p.2.toNat).aP)=(cA S U p):=by
  rfl
 exact rE () [.tmp 4] J [sl 1 nE (crossL (ix S.sT p.1.toNat).aP (ix U.sT p.2.toNat).aP)] ⟨.tmp J,tV⟩ (cA1 (fun x0=>rV [sl 1 nE x0]) hr0) trivial eX
theorem next_ok (S U:SS) (hS:oK S) (hT:oK U) (p:Int × Int) (hp:cOk S U p) (a:Nat) (ha:a<S.aC.length) (hb:a<U.aC.length):
 Fn0 Tryz.prog 117 [agg [int p.1,int p.2],int (a:Int),fp [strs S.aC,sl 2 sE S.sT],fp [strs U.aC,sl 2 sE U.sT]] (agg [int (cN S U p a).1,int (cN S U p a).2]):=by
 refine fnI Tryz.func117 rfl rfl (fun w0 F0=> ?_)
 obtain⟨hp1,hp2,hp3,hp4⟩:=hp
 have hss:=hS.st p.1.toNat O
 have hst:=hT.st p.2.toNat O
 have hsl:=hss.len
 have htl:=hst.len
 have hsz:=hS.few1
 have htz:=hT.few1
 refine sq (rg (bx (key:=4) (cs:= [int p.1,int p.2]) J fun b4=>(al (key:=6) T.z84 (eC (eC eZ)) fun b6=>(nl (th (sq (dr (nh:=21) [0,1,0,4,15,31,63,0,255,511,0,1024,0,4096,15360,31744,64512,0,261120,523264,1048575,2097151] T.mixed kR ?_)))))))
 refine st_ J (fun _ _ _ gq kq=>fF (gq.1.trans J) T.fld25_1 kq) ?_
 refine st_ J (fun _ _ _ gq kq=>lF (gq.1.trans J) J T.one23 kq) ?_
 refine st_ J (fun _ _ _ gq kq=>iPA (gq.1.trans J) J T.arr84 T.one3 J kq) ?_
 refine st_ J (fun _ _ _ gq kq=>lP (gq.1.trans J) J J T.one3 kq) ?_
 refine st_ J (fun _ _ _ gq kq=>iF (gq.1.trans J) (gq.2.1.trans J) T.sl23 O gB kq) ?_
 refine st_ J (fun _ _ _ gq kq=>fF (gq.1.trans J) T.fld81_1 kq) ?_
 refine st_ J (fun _ _ _ gq kq=>lF (gq.1.trans J) J T.one36 kq) ?_
 refine st_ J (fun _ _ _ gq kq=>mv' (gq.1.trans J) kq) ?_
 refine st_ J (fun _ _ _ gq kq=>iF (gq.1.trans J) (gq.2.1.trans J) T.sl36 O gB kq) ?_
 refine st_ J (fun _ _ _ gq kq=>lF (gq.1.trans J) J T.one3 kq) ?_
 refine st_ J (fun _ _ _ gq kq=>fF (gq.1.trans J) T.fld25_1 kq) ?_
 refine st_ J (fun _ _ _ gq kq=>lF (gq.1.trans J) J T.one23 kq) ?_
 refine st_ J (fun _ _ _ gq kq=>iPA (gq.1.trans J) J T.arr84 T.one3 J kq) ?_
 refine st_ J (fun _ _ _ gq kq=>lP (gq.1.trans J) J J T.one3 kq) ?_
 refine st_ J (fun _ _ _ gq kq=>iF (gq.1.trans J) (gq.2.1.trans J) T.sl23 O gB kq) ?_
 refine st_ J (fun _ _ _ gq kq=>fF (gq.1.trans J) T.fld81_1 kq) ?_
 refine st_ J (fun _ _ _ gq kq=>lF (gq.1.trans J) J T.one36 kq) ?_
 refine st_ J (fun _ _ _ gq kq=>mv' (gq.1.trans J) kq) ?_
 refine st_ J (fun _ _ _ gq kq=>iF (gq.1.trans J) (gq.2.1.trans J) T.sl36 O gB kq) ?_
 refine st_ J (fun _ _ _ gq kq=>lF (gq.1.trans J) J T.one3 kq) ?_
 refine st_ J (fun _ _ _ gq kq=>bd (css:= [(0,_),(1,_)]) T.st84 (eC (eC eZ)) ⟨J,J,p1 (φ:=int (ix (ix S.sT p.1.toNat).next a)) (by exact(gq.1.trans J)),⟨J,J,p1 (φ:=int (ix (ix U.sT p.2.toNat).next a)) (by exact(gq.2.1.trans J)),tV⟩⟩ kq) ?_
 refine pn (sPA (cs':= [int (ix (ix S.sT p.1.toNat).next a),int (ix (ix U.sT p.2.toNat).next a)]) J J J T.agg84 J J (nl (th (rt ?_))))
 have hr0:((ix (ix S.sT p.1.toNat).next a):Int)=((cN S U p a).1):=by
  rfl
 have hr1:((ix (ix U.sT p.2.toNat).next a):Int)=((cN S U p a).2):=by
  rfl
 exact rE () [.cell 6 84] J [agg [int (ix (ix S.sT p.1.toNat).next a),int (ix (ix U.sT p.2.toNat).next a)]] ⟨.agg J J T.agg84 J J,tV⟩ (cA2 (fun x0 x1=>rV [agg [int x0,int x1]]) hr0 hr1) trivial eX
theorem grow_ok (S U:SS) (hS:oK S) (hT:oK U) (hST:S.aC.length=U.aC.length):
 Fn0 Tryz.prog 114 [tabbed (strs S.aC),agg [int 0,int 0],clo 115 [],clo 116 [fp [strs S.aC,sl 2 sE S.sT],fp [strs U.aC,sl 2 sE U.sT]],clo 117 [fp [strs S.aC,sl 2 sE S.sT],fp [strs U.aC,sl 2 sE U.sT]]] (tup [spec (growS S U).1,bl (growS S U).2]):=by
 refine fnI Tryz.func114 rfl rfl (fun w0 F0=> ?_)
 have f1:=hS.few1;have f2:=hT.few1;have f3:=hS.few0;have f4:=hT.few0;have hn8:=hS.n8;have hG:=c_GS hS hT
 have hk0:(0:Int)≤((0,0):Int × Int).1∧((0,0):Int × Int).1<10000∧0≤((0,0):Int × Int).2∧((0,0):Int × Int).2<10000:=⟨by decide,by decide,by decide,by decide⟩
 have hks0:(pkey (0,0)).size≤maxL:=pkey_size (n:=10000) (m:=10000) ⟨by decide,by decide,by decide,by decide⟩ O O
 refine tbI 0 9999 rfl ?_
 refine tbJC (ψ:=tab) 9999 997 rfl ?_
 refine fcC (slenI 0 J) (fun hm0=> ?_)
 refine sq (rg (bx (key:=6) (cs:= [int 0,int 0]) J fun b6=>(bx1 (key:=7) (φ:=clo 115 []) J fun b7=>(bx1 (key:=9) (φ:=clo 117 [fp [sl 1 rE_ S.aC,sl 2 sE S.sT],fp [sl 1 rE_ U.aC,sl 2 sE U.sT]]) J fun b9=>(al (key:=10) T.z25 (eC (eC eZ)) fun b10=>(al (key:=11) T.z4 (eC eZ) fun b11=>(nl (th (sq (rg (mkm (key:=24) (kE:=smE) (dom:=smD) (vE:=smV) fun b24=>(lP J J J T.one147 (lPA J J T.agg84 J (tbU (ψ:=tab) 26 9999 J J (calC0 (φs:= [both (agg [int 0,int 0]) tab]) (φ:=str (pkey (0,0))) J ⟨J,tV⟩ (key_ok (0,0) hk0) T.ent115 (AL.insert (q:=pkey (0,0)) (u:=0) J J eqv_eq J T.map173 hks0 (mv (al (key:=12) T.z173 (eC eZ) fun b12=>(sP (φ:=mpv 24 b24) J J J T.one173 J (nl (th (sq (rg (lPA J J T.agg84 J (bsO 30 (enc:=pE) (xs:= [(0,0)]) (css:= [[int 0,int 0]]) T.mk67 ⟨J,J,pA (cs:= [int 0,int 0]) J,tV⟩ J J J J fun v30=>(al (key:=13) T.z67 (eC eZ) fun b13=>(storePO J J J J T.one67 J (nl (th (sq (rg (mv (calW (φs:= [sl 1 rE_ S.aC]) (φ:=sl 1 rE_ S.aC) ⟨J,tV⟩ (prog.sClonestrE_ok _ O) T.ent78 (fun N hN=>fun h=>nw_le h) (bd (css:= [(0,_)]) T.st25 (eC (eC eZ)) ⟨J,J,p1 (φ:=sl 1 rE_ S.aC) J,tV⟩ (al (key:=14) T.z25 (eC (eC eZ)) fun b14=>(sPA (cs':= [sl 1 rE_ S.aC,eqv (.slice none 0 0)]) J J J T.agg25 J J (nl (th (sq (sq (rg (al (key:=15) T.z3 (eC eZ) fun b15=>(sP (φ:=int 0) J J J T.one3 J (nl (th (bk ?_))))))))))))))))))))))))))))))))))))))))))))))
 refine nwC 100 81 2 sE (kncC 14 1 (osl 100 (.slice none 0 0)) rfl rfl eq_osl ?_)
 have hI0_0:GW (cA S U) (cN S U) (cOk S U) pkey S.aC.length (S.sT.length*U.sT.length) (cL S U) 0 ([(0,0)]:List (Int × Int)) (mset ([]:List (ByteArray × Int)) (pkey (0,0)) 0) ([]:List SA):=by
  exact gw_zero hG (c_zero hS hT)
 refine lp (κ:=Nat × Nat × Value × (List (Int × Int)) × (List (ByteArray × Int)) × Value × (List SA)) (fun p=> [(0,sl 1 rE_ S.aC),(3,clo 116 [fp [sl 1 rE_ S.aC,sl 2 sE S.sT],fp [sl 1 rE_ U.aC,sl 2 sE U.sT]]),(7,ptr 7 b7 0),(9,ptr 9 b9 0),(10,ptr 10 b10 0),(11,ptr 11 b11 0),(12,ptr 12 b12 0),(13,ptr 13 b13 0),(14,ptr 14 b14 0),(15,ptr 15 p.1 0),(9999,tab)]) (fun p=> [(6,cell b6 [int 0,int 0]),(7,cell b7 [clo 115 []]),(9,cell b9 [clo 117 [fp [sl 1 rE_ S.aC,sl 2 sE S.sT],fp [sl 1 rE_ U.aC,sl 2 sE U.sT]]]),(10,cell b10 [eqv (.slice none 0 0),eqv (.slice none 0 0)]),(11,cell b11 [bl false]),(12,cell b12 [mpv 24 b24]),(13,cell b13 [osl 30 p.2.2.1]),(14,cell b14 [sl 1 rE_ S.aC,osl 100 p.2.2.2.2.2.1]),(15,cell p.1 [int (p.2.1:Int)]),(24,mp b24 smE smD smV p.2.2.2.2.1),(30,own p.2.2.1 84 2 pE p.2.2.2.1),(100,own p.2.2.2.2.2.1 81 2 sE p.2.2.2.2.2.2),(997,ambH tab)]) (fun p=>GW (cA S U) (cN S U) (cOk S U) pkey S.aC.length (S.sT.length*U.sT.length) (cL S U) p.2.1 p.2.2.2.1 p.2.2.2.2.1 p.2.2.2.2.2.2) (fun p=>501- p.2.1) ⟨b15,0,v30,([(0,0)]:List (Int × Int)),mset ([]:List (ByteArray × Int)) (pkey (0,0)) 0,(.slice none 0 0),([]:List SA)⟩ hI0_0 ⟨id,id,id,id,id,id,id,id,id,id,id,tV⟩ ⟨rI,rI,rI,rI,rI,rI,rI,rI,rI,rI,rI,rI,rI,tV⟩ ?_
 intro⟨ib,i,v,ql,mm,v14,outs⟩ hG0
 have hQW:GW (cA S U) (cN S U) (cOk S U) pkey S.aC.length (S.sT.length*U.sT.length) (cL S U) i ql mm outs:=hG0
 show Ct _ _ _ _ [(0,sl 1 rE_ S.aC),(3,clo 116 [fp [sl 1 rE_ S.aC,sl 2 sE S.sT],fp [sl 1 rE_ U.aC,sl 2 sE U.sT]]),(7,ptr 7 b7 0),(9,ptr 9 b9 0),(10,ptr 10 b10 0),(11,ptr 11 b11 0),(12,ptr 12 b12 0),(13,ptr 13 b13 0),(14,ptr 14 b14 0),(15,ptr 15 ib 0),(9999,tab)] [(6,cell b6 [int 0,int 0]),(7,cell b7 [clo 115 []]),(9,cell b9 [clo 117 [fp [sl 1 rE_ S.aC,sl 2 sE S.sT],fp [sl 1 rE_ U.aC,sl 2 sE U.sT]]]),(10,cell b10 [eqv (.slice none 0 0),eqv (.slice none 0 0)]),(11,cell b11 [bl false]),(12,cell b12 [mpv 24 b24]),(13,cell b13 [osl 30 v]),(14,cell b14 [sl 1 rE_ S.aC,osl 100 v14]),(15,cell ib [int (i:Int)]),(24,mp b24 smE smD smV mm),(30,own v 84 2 pE ql),(100,own v14 81 2 sE outs),(997,ambH tab)] _
 have hlf:=hQW.few
 have hil:=hQW.il
 have hol:outs.length≤i:=by rw[hQW.out];simp;omega
 refine sq (sq (rg (lP J J J T.one3 (lP J J J T.one67 (lnO J J T.sl67 (bi J J b_lss (nl (th ?_))))))))
 refine cd J (fun hc0=> ?_) (fun hc0=> ?_)
 ·try simp at hc0
  have hPm:=ix_memS hc0
  have hokP:=hQW.okl _ hPm
  have hcr:=cross_len (acc S (ix ql i).1.toNat) (acc U (ix ql i).2.toNat)
  have hcl:(cA S U (ix ql i)).length≤256:=hcr
  refine sk (th (sq (bk (sq (rg (mv (lP J J J T.one67 (lP J J J T.one3 (iO J J J T.sl67 O O (lOA J J gB T.agg84 (by decide) (calC0 (φs:= [agg [int ((ix ql i).1),int ((ix ql i).2)]]) (φ:=sl 1 nE (cA S U (ix ql i))) J ⟨J,tV⟩ (sets_ok S U hS hT (ix ql i) hokP) T.ent116 (bsE (enc:=nE) (xs:= [(-1)]) (css:= [[int (-1)]]) T.mk36 ⟨J,J,p1 (φ:=int (-1)) J,tV⟩ J J J J (mv (lnF J T.sl22 (cl (rekeyO 30 300 (prog8.Repeat_ok S.aC.length O)) T.ent123 trivial fun N49 v49=>(fc (svI 300 J) fun hsv300=> ?_))))))))))))))))
  rw[←hsv300]
  refine kn 49 (eqv (sv v49)) rfl osl_rawC (bd (css:= [(0,_),(1,_)]) T.st81 (eC (eC eZ)) ⟨rfl,rfl,p1 (φ:=sl 1 nE (cA S U (ix ql i))) rfl,⟨rfl,rfl,p1 (φ:=eqv (sv v49)) rfl,tV⟩⟩ (al (key:=16) T.z81 (eC (eC eZ)) fun b16=>(sPA (cs':= [sl 1 nE (cA S U (ix ql i)),eqv (sv v49)]) rfl rfl rfl T.agg81 rfl rfl (knc 16 1 (osl 300 (sv v49)) rfl rfl eq_osl (nl (th (sq (rg (ag (nl (th (sq (sq (rg (fP rfl T.fld81_0 (lP rfl rfl rfl T.one36 (fc (slenI 52 rfl) fun hm52=>(lnF rfl T.sl36 (mv (nl (th (bk ?_))))))))))))))))))))))
  have hI1_0:0≤(cA S U (ix ql i)).length:=by
   first|omega|simp
  have hI1_1:(0:Int)=orAll ((cA S U (ix ql i)).take 0)∧0≤(0:Int)∧(0:Int)<256:=by
   exact⟨rfl,O,O⟩
  refine lp (κ:=Nat × Int) (fun p=> [(0,sl 1 rE_ S.aC),(3,clo 116 [fp [sl 1 rE_ S.aC,sl 2 sE S.sT],fp [sl 1 rE_ U.aC,sl 2 sE U.sT]]),(7,ptr 7 b7 0),(9,ptr 9 b9 0),(10,ptr 10 b10 0),(11,ptr 11 b11 0),(12,ptr 12 b12 0),(13,ptr 13 b13 0),(14,ptr 14 b14 0),(15,ptr 15 ib 0),(16,ptr 16 b16 0),(17,int p.2),(52,sl 1 nE (cA S U (ix ql i))),(53,int ((cA S U (ix ql i)).length:Int)),(54,int (p.1:Int)),(9999,tab)]) (fun p=> [(6,cell b6 [int 0,int 0]),(7,cell b7 [clo 115 []]),(9,cell b9 [clo 117 [fp [sl 1 rE_ S.aC,sl 2 sE S.sT],fp [sl 1 rE_ U.aC,sl 2 sE U.sT]]]),(10,cell b10 [eqv (.slice none 0 0),eqv (.slice none 0 0)]),(11,cell b11 [bl false]),(12,cell b12 [mpv 24 b24]),(13,cell b13 [osl 30 v]),(14,cell b14 [sl 1 rE_ S.aC,osl 100 v14]),(15,cell ib [int (i:Int)]),(16,cell b16 [sl 1 nE (cA S U (ix ql i)),osl 300 (sv v49)]),(24,mp b24 smE smD smV mm),(30,own v 84 2 pE ql),(100,own v14 81 2 sE outs),(300,own (sv v49) 3 1 nE (List.replicate S.aC.length (-1))),(997,ambH tab)]) (fun p=>(p.1≤(cA S U (ix ql i)).length)∧(p.2=orAll ((cA S U (ix ql i)).take p.1)∧0≤p.2∧p.2<256)) (fun p=>(cA S U (ix ql i)).length- p.1) ⟨0,(0:Int)⟩ ⟨hI1_0,hI1_1⟩ ⟨id,id,id,id,id,id,id,id,id,id,id,id,id,id,id,id,tV⟩ ⟨rI,rI,rI,rI,rI,rI,rI,rI,rI,rI,rI,rI,rI,rI,rI,tV⟩ ?_
  intro⟨k1,cn⟩ hG1
  obtain⟨hk1,hI1⟩:(k1≤(cA S U (ix ql i)).length)∧(cn=orAll ((cA S U (ix ql i)).take k1)∧0≤cn∧cn<256):=hG1
  show Ct _ _ _ _ [(0,sl 1 rE_ S.aC),(3,clo 116 [fp [sl 1 rE_ S.aC,sl 2 sE S.sT],fp [sl 1 rE_ U.aC,sl 2 sE U.sT]]),(7,ptr 7 b7 0),(9,ptr 9 b9 0),(10,ptr 10 b10 0),(11,ptr 11 b11 0),(12,ptr 12 b12 0),(13,ptr 13 b13 0),(14,ptr 14 b14 0),(15,ptr 15 ib 0),(16,ptr 16 b16 0),(17,int cn),(52,sl 1 nE (cA S U (ix ql i))),(53,int ((cA S U (ix ql i)).length:Int)),(54,int (k1:Int)),(9999,tab)] [(6,cell b6 [int 0,int 0]),(7,cell b7 [clo 115 []]),(9,cell b9 [clo 117 [fp [sl 1 rE_ S.aC,sl 2 sE S.sT],fp [sl 1 rE_ U.aC,sl 2 sE U.sT]]]),(10,cell b10 [eqv (.slice none 0 0),eqv (.slice none 0 0)]),(11,cell b11 [bl false]),(12,cell b12 [mpv 24 b24]),(13,cell b13 [osl 30 v]),(14,cell b14 [sl 1 rE_ S.aC,osl 100 v14]),(15,cell ib [int (i:Int)]),(16,cell b16 [sl 1 nE (cA S U (ix ql i)),osl 300 (sv v49)]),(24,mp b24 smE smD smV mm),(30,own v 84 2 pE ql),(100,own v14 81 2 sE outs),(300,own (sv v49) 3 1 nE (List.replicate S.aC.length (-1))),(997,ambH tab)] _
  refine sq (rg (bi J J b_lss (nl (th (sq ?_)))))
  refine cd J (fun hc1=> ?_) (fun hc1=> ?_)
  ·try simp at hc1
   have hkb:=cross_sub (ix_memS (l:=(cA S U (ix ql i))) O)
   refine sk (th (sq (bk (sq (rg (iF J J T.sl36 O gB (lF J J T.one3 (ag (nl (th (rg (mv (mv (bi J J (b_orI O O O O) (ag (nl (eb (th (rg (bi J J (b_add i6) (mv (nl ?_))))))))))))))))))))))
   have hN0:(k1+1)≤(cA S U (ix ql i)).length:=by
    first|omega|simp_all
   have hN1:((cn.toNat|||(ix (cA S U (ix ql i)) k1).toNat:Nat):Int)=orAll ((cA S U (ix ql i)).take (k1+1))∧0≤((cn.toNat|||(ix (cA S U (ix ql i)) k1).toNat:Nat):Int)∧((cn.toNat|||(ix (cA S U (ix ql i)) k1).toNat:Nat):Int)<256:=by
    refine⟨?_,O,or_lt256 hI1.2.2 hkb.2⟩
    rw[take_s O,orAll_snoc,←hI1.1]
   exact ln (⟨k1+1,((cn.toNat|||(ix (cA S U (ix ql i)) k1).toNat:Nat):Int)⟩:Nat × Int) ⟨hN0,hN1⟩ dO ⟨id,id,id,id,id,id,id,id,id,id,id,id,id,id,id,id,tV⟩ ⟨rI,rI,rI,rI,rI,rI,rI,rI,rI,rI,rI,rI,rI,rI,rI,tV⟩
  ·try simp at hc1
   refine ex (xt_ (xt_ (xb (th (sq (sq (rg (mv (cal0 (φs:= [int cn]) (φ:=clo 162 [fp [int cn]]) ⟨J,tV⟩ (prog3.In_ok cn) T.ent124 (nl (th (bk ?_))))))))))))
   have hcn2:cn=orAll (cA S U (ix ql i)):=by rw[hI1.1,show k1=(cA S U (ix ql i)).length by omega,List.take_length]
   have hcn3:listOf 63 cn=actsL (cA S U) (ix ql i):=by unfold actsL;rw[hcn2]
   have hR0:GN (cA S U) (cN S U) (cOk S U) pkey S.aC.length (cL S U) i ql 0 ql mm (List.replicate S.aC.length (-1)):=by
    exact gn_zero hQW
   refine rf (κ:=Value × (List (Int × Int)) × (List (ByteArray × Int)) × (List Int)) 900 (fun p=> [(6,cell b6 [int 0,int 0]),(7,cell b7 [clo 115 []]),(9,cell b9 [clo 117 [fp [sl 1 rE_ S.aC,sl 2 sE S.sT],fp [sl 1 rE_ U.aC,sl 2 sE U.sT]]]),(10,cell b10 [eqv (.slice none 0 0),eqv (.slice none 0 0)]),(11,cell b11 [bl false]),(12,cell b12 [mpv 24 b24]),(13,cell b13 [osl 30 p.1]),(14,cell b14 [sl 1 rE_ S.aC,osl 100 v14]),(15,cell ib [int (i:Int)]),(16,cell b16 [sl 1 nE (cA S U (ix ql i)),osl 300 (sv v49)]),(24,mp b24 smE smD smV p.2.2.1),(30,own p.1 84 2 pE p.2.1),(100,own v14 81 2 sE outs),(300,own (sv v49) 3 1 nE p.2.2.2),(997,ambH tab)]) (fun iR p=>GN (cA S U) (cN S U) (cOk S U) pkey S.aC.length (cL S U) i ql iR p.2.1 p.2.2.1 p.2.2.2) (fun c p=>c= .ret∧(500<(cL S U).length)) J (InIt cn O O) T.ent162 J (fun _=>J) (fun _=>J) ⟨v,ql,mm,List.replicate S.aC.length (-1)⟩ hR0 ⟨rI,rI,rI,rI,rI,rI,rI,rI,rI,rI,rI,rI,rI,rI,rI,tV⟩ ?_ ?_ ?_ (fun id k h=>nomatch h.1) (fun c k h=> .inl h.1)
   ·intro m0 ⟨v2,l2,mm2,nx⟩ x0 hG0 hx0 l R w1 M1 F1 hRd
    have hR0:GN (cA S U) (cN S U) (cOk S U) pkey S.aC.length (cL S U) i ql m0 l2 mm2 nx:=hG0
    show Ct _ _ _ _ _ ((900,obj l (.loop R)):: [(6,cell b6 [int 0,int 0]),(7,cell b7 [clo 115 []]),(9,cell b9 [clo 117 [fp [sl 1 rE_ S.aC,sl 2 sE S.sT],fp [sl 1 rE_ U.aC,sl 2 sE U.sT]]]),(10,cell b10 [eqv (.slice none 0 0),eqv (.slice none 0 0)]),(11,cell b11 [bl false]),(12,cell b12 [mpv 24 b24]),(13,cell b13 [osl 30 v2]),(14,cell b14 [sl 1 rE_ S.aC,osl 100 v14]),(15,cell ib [int (i:Int)]),(16,cell b16 [sl 1 nE (cA S U (ix ql i)),osl 300 (sv v49)]),(24,mp b24 smE smD smV mm2),(30,own v2 84 2 pE l2),(100,own v14 81 2 sE outs),(300,own (sv v49) 3 1 nE nx),(997,ambH tab)]) _
    have hx2:(actsL (cA S U) (ix ql i))[m0]?=some x0:=by rw[←hcn3];exact hx0
    obtain⟨a,rfl,ha63,hha⟩:=listOf_get hx0
    have hha2:has (orAll (cA S U (ix ql i))) (a:Int)=true:=by rw[←hcn2];exact hha
    obtain⟨hal8,hqok1⟩:=cN_go hS hT hokP hha2
    have hnl:nx.length=S.aC.length:=by rw[hR0.nx];simp
    have hl2f:=hR0.few
    have hixP:ix l2 i=(ix ql i):=gn_ix hR0 hc0
    have hil2:i<l2.length:=by rw[hR0.pre];exact Nat.lt_of_lt_of_le hc0 (outs_prefix _ _ _ _ ql).length_le
    obtain⟨q1,q2,q3,q4⟩:=id hqok1
    have hkN:0≤(cN S U (ix ql i) a).1∧(cN S U (ix ql i) a).1<10000∧0≤(cN S U (ix ql i) a).2∧(cN S U (ix ql i) a).2<10000:=⟨q1,O,q3,O⟩
    have hks:(pkey (cN S U (ix ql i) a)).size≤maxL:=pkey_size hqok1 f1 f2
    refine rg (ag (nl (aq hRd J (bk (sq ?_)))))
    refine drH (nh:=9) [0,0,0,6,14,0,63,0,255] [(none,[9]),(none,[13]),(none,[15]),(none,[30]),(none,[30]),(none,[]),(none,[]),(some 21,[]),(some 21,[21])] T.mixed kR kR ?_
    refine stv (d:=65) (fun β0=>clo 117 [fp [sl 1 rE_ S.aC,sl 2 sE S.sT],fp [sl 1 rE_ U.aC,sl 2 sE U.sT]]) [9] J (fun β β' hb=>J) (fun β0 _ _ _ _ gq gh kq=>lP (gq.1.trans J) (gh.1.trans J) J T.one149 kq) ?_
    refine stv (d:=66) (fun β0=>osl 30 v2) [13] J (fun β β' hb=>J) (fun β0 _ _ _ _ gq gh kq=>lP (gq.1.trans J) (gh.1.trans J) J T.one67 kq) ?_
    refine stv (d:=67) (fun β0=>int (i:Int)) [15] J (fun β β' hb=>J) (fun β0 _ _ _ _ gq gh kq=>lP (gq.1.trans J) (gh.1.trans J) J T.one3 kq) ?_
    refine stv (d:=68) (fun β0=>eptr 30 v2 2 i 0) [30] J (fun β β' hb=>J) (fun β0 _ _ _ _ gq gh kq=>iO (gq.1.trans J) (gh.1.trans J) (gq.2.1.trans J) T.sl67 O O kq) ?_
    refine stv (d:=69) (fun β0=>agg [int ((ix ql i).1),int ((ix ql i).2)]) [30] J (fun β β' hb=>J) (fun β0 _ _ _ _ gq gh kq=>lOA (gq.1.trans J) (gh.1.trans J) gB T.agg84 (by decide) (kd (φ':=agg [int (ix ql i).1,int (ix ql i).2]) (by rw[hixP];exact fun h=>h) kq)) ?_
    refine stv (d:=70) (fun β0=>int (a:Int)) [] J (fun β β' hb=>J) (fun β0 _ _ _ _ gq gh kq=>mv' (gq.1.trans J) kq) ?_
    refine stv (d:=71) (fun β0=>agg [int ((cN S U (ix ql i) a).1),int ((cN S U (ix ql i) a).2)]) [] J (fun β β' hb=>J) (fun β0 _ _ _ _ gq gh kq=>calC0 (φs:= [agg [int ((ix ql i).1),int ((ix ql i).2)],int (a:Int)]) (φ:=agg [int ((cN S U (ix ql i) a).1),int ((cN S U (ix ql i) a).2)]) (gq.1.trans J) ⟨(gq.2.1.trans J),(gq.2.2.1.trans J),tV⟩ (next_ok S U hS hT (ix ql i) hokP a hal8 O) T.ent117 kq) ?_
    refine sta 21 T.z84 (eC (eC eZ)) ?_
    refine stw 21 (fun β0=>cell (gbk (β0 7)) [int ((cN S U (ix ql i) a).1),int ((cN S U (ix ql i) a).2)]) [21] J (fun β β' hb=>by first|rw[hb 7 J]|(dsimp only;rw[hb 7 J])) (fun β0 _ _ _ _ gq gh kq=>sPA (cs':= [int ((cN S U (ix ql i) a).1),int ((cN S U (ix ql i) a).2)]) (gq.1.trans J) (gh.1.trans J) (gq.2.1.trans J) T.agg84 J J kq) ?_
    refine pnH fun β0=>(nl (th (sq (dr (nh:=10) [0,0,0,6,15,31,63,63,127,511] T.mixed kR ?_))))
    refine st_ J (fun _ _ _ gq kq=>lP (gq.1.trans J) J J T.one173 kq) ?_
    refine st_ J (fun _ _ _ gq kq=>lP (gq.1.trans J) J J T.one147 kq) ?_
    refine st_ J (fun _ _ _ gq kq=>lPA (gq.1.trans J) J T.agg84 J kq) ?_
    refine st_ J (fun _ _ _ gq kq=>tbK (ψ:=tab) 75 997 (gq.2.1.trans J) J (calC0 (φs:= [both (agg [int ((cN S U (ix ql i) a).1),int ((cN S U (ix ql i) a).2)]) tab]) (φ:=str (pkey (cN S U (ix ql i) a))) (gq.1.trans J) ⟨J,tV⟩ (key_ok (cN S U (ix ql i) a) hkN) T.ent115 (tbX (gq.2.1.trans J) kq))) ?_
    refine st_ J (fun _ _ _ gq kq=>lookup2 (z:=0) (q:=pkey (cN S U (ix ql i) a)) (gq.1.trans J) J (fun h=>eqv_of (gq.2.1.trans J) h) T.map173 hks T.zv3 kq) ?_
    refine st_ J (fun _ _ _ gq kq=>mv' (gq.1.trans J) kq) ?_
    refine st_ J (fun _ _ _ gq kq=>xt (gq.1.trans J) J kq) ?_
    refine st_ J (fun _ _ _ gq kq=>xt (gq.1.trans J) J kq) ?_
    refine st_ J (fun _ _ _ gq kq=>ag' (gq.1.trans J) kq) ?_
    refine st_ J (fun _ _ _ gq kq=>ag' (gq.1.trans J) kq) ?_
    refine pn (nl (th (sq (sq (rg (mv (no J (nl (th ?_)))))))))
    refine cd J (fun hc2=> ?_) (fun hc2=> ?_)
    ·skip
     have h5:(mget mm2 (pkey (cN S U (ix ql i) a))).isSome=false:=by simpa using hc2
     refine sq (sq (rg (lP J J J T.one67 (lnO J J T.sl67 (bi J J b_eql (nl (th ?_)))))))
     refine cd J (fun hc3=> ?_) (fun hc3=> ?_)
     ·try simp at hc3
      have h6:(l2.length:Int)=500:=by omega
      refine sq (rg (bd (css:= []) T.st25 (eC (eC eZ)) trivial (sPA (cs':= [eqv (.slice none 0 0),eqv (.slice none 0 0)]) J J J T.agg25 J J (sP (φ:=bl false) J J J T.one4 J (nl (th (rt (rt_ (rt_ (rb ?_))))))))))
      have hRr:500<(cL S U).length:=by
       exact gn_fail hG hQW hR0 hc0 hqok1 hx2 rfl h5 h6
      exact rqR ⟨v2,l2,mm2,nx⟩ ⟨rfl,hRr⟩ ⟨rI,rI,rI,rI,rI,rI,rI,rI,rI,rI,rI,rI,rI,rI,rI,rI,tV⟩
     ·try simp at hc3
      refine sk (th (sq (rg (lP J J J T.one67 (lnO J J T.sl67 (ag (nl (th (sq (dr (nh:=5) [0,0,0,6,0,31] T.mixed kR ?_))))))))))
      refine st_ J (fun _ _ _ gq kq=>lP (gq.1.trans J) J J T.one173 kq) ?_
      refine st_ J (fun _ _ _ gq kq=>lP (gq.1.trans J) J J T.one147 kq) ?_
      refine st_ J (fun _ _ _ gq kq=>lPA (gq.1.trans J) J T.agg84 J kq) ?_
      refine st_ J (fun _ _ _ gq kq=>tbK (ψ:=tab) 90 997 (gq.2.1.trans J) J (calC0 (φs:= [both (agg [int ((cN S U (ix ql i) a).1),int ((cN S U (ix ql i) a).2)]) tab]) (φ:=str (pkey (cN S U (ix ql i) a))) (gq.1.trans J) ⟨J,tV⟩ (key_ok (cN S U (ix ql i) a) hkN) T.ent115 (tbX (gq.2.1.trans J) kq))) ?_
      refine st_ J (fun _ _ _ gq kq=>mv' (gq.1.trans J) kq) ?_
      refine pn (mapUpdate (q:=pkey (cN S U (ix ql i) a)) (u:=(l2.length:Int)) J J eqv_eq J T.map173 hks (nl (th (rg (lP J J J T.one67 (lPA J J T.agg84 J (bs (css:= [[int ((cN S U (ix ql i) a).1),int ((cN S U (ix ql i) a).2)]]) T.mk67 ⟨J,J,pA (cs:= [int ((cN S U (ix ql i) a).1),int ((cN S U (ix ql i) a).2)]) J,tV⟩ J J J (ap (key:=30) (zs:= [(cN S U (ix ql i) a)]) osl_eq J J J T.mk67 (by unfold maxL at*;simp;omega) (by unfold maxL at*;simp;omega) fun v96=>(storePO J J J J T.one67 J (nl (th (rg (fP J T.fld81_1 (lP J J J T.one36 (mv (mv (iO J J J T.sl36 O O (sO (φ:=int (l2.length:Int)) J J J T.one3 gB J (y':=(l2.length:Int)) J (nl (eb ?_))))))))))))))))))))
      have hN0:GN (cA S U) (cN S U) (cOk S U) pkey S.aC.length (cL S U) i ql (m0+1) (l2++ [(cN S U (ix ql i) a)]) (mset mm2 (pkey (cN S U (ix ql i) a)) (l2.length:Int)) (nx.set a (l2.length:Int)):=by
       exact gn_new hG hQW hR0 hc0 hqok1 hx2 hal8 rfl h5 O
      exact rqN ⟨v96,l2++ [(cN S U (ix ql i) a)],mset mm2 (pkey (cN S U (ix ql i) a)) (l2.length:Int),nx.set a (l2.length:Int)⟩ hN0 ⟨rI,rI,rI,rI,rI,rI,rI,rI,rI,rI,rI,rI,rI,rI,rI,rI,tV⟩
    ·skip
     have h5:(mget mm2 (pkey (cN S U (ix ql i) a))).isSome=true:=by simpa using hc2
     refine sk (th (rg (fP J T.fld81_1 (lP J J J T.one36 (mv (mv (iO J J J T.sl36 O O (sO (φ:=int ((mget mm2 (pkey (cN S U (ix ql i) a))).getD 0)) J J J T.one3 gB J (y':=((mget mm2 (pkey (cN S U (ix ql i) a))).getD 0)) J (nl (eb ?_))))))))))
     have hN0:GN (cA S U) (cN S U) (cOk S U) pkey S.aC.length (cL S U) i ql (m0+1) l2 mm2 (nx.set a ((mget mm2 (pkey (cN S U (ix ql i) a))).getD 0)):=by
      exact gn_old hG hQW hR0 hc0 hqok1 hx2 hal8 rfl h5
     exact rqN ⟨v2,l2,mm2,nx.set a ((mget mm2 (pkey (cN S U (ix ql i) a))).getD 0)⟩ hN0 ⟨rI,rI,rI,rI,rI,rI,rI,rI,rI,rI,rI,rI,rI,rI,rI,rI,tV⟩
   ·intro⟨v2,l2,mm2,nx⟩ hG0
    have hR0:GN (cA S U) (cN S U) (cOk S U) pkey S.aC.length (cL S U) i ql (listOf 63 cn).length l2 mm2 nx:=hG0
    show At _ _ _ _ [(6,cell b6 [int 0,int 0]),(7,cell b7 [clo 115 []]),(9,cell b9 [clo 117 [fp [sl 1 rE_ S.aC,sl 2 sE S.sT],fp [sl 1 rE_ U.aC,sl 2 sE U.sT]]]),(10,cell b10 [eqv (.slice none 0 0),eqv (.slice none 0 0)]),(11,cell b11 [bl false]),(12,cell b12 [mpv 24 b24]),(13,cell b13 [osl 30 v2]),(14,cell b14 [sl 1 rE_ S.aC,osl 100 v14]),(15,cell ib [int (i:Int)]),(16,cell b16 [sl 1 nE (cA S U (ix ql i)),osl 300 (sv v49)]),(24,mp b24 smE smD smV mm2),(30,own v2 84 2 pE l2),(100,own v14 81 2 sE outs),(300,own (sv v49) 3 1 nE nx),(997,ambH tab)]
    refine eb (th (rg (fP rfl T.fld25_1 (lP rfl rfl rfl T.one23 (fzc 16 300 1 rfl rfl rfl rfl (lPA rfl rfl T.agg81 rfl (bsE (enc:=sE) (xs:= [(⟨cA S U (ix ql i),nx⟩)]) (css:= [[sl 1 nE (cA S U (ix ql i)),sl 1 nE nx]]) T.mk23 ⟨rfl,rfl,pA (cs:= [sl 1 nE (cA S U (ix ql i)),sl 1 nE nx]) rfl,tV⟩ rfl rfl rfl rfl (ap (key:=100) (zs:= [(⟨cA S U (ix ql i),nx⟩)]) osl_eq rfl rfl rfl T.mk23 (by unfold maxL at*;simp;omega) (by unfold maxL at*;simp;omega) fun v106=>(fP rfl T.fld25_1 (storePO rfl rfl rfl rfl T.one23 rfl (nl (eb (th (sq (sq (rg (lP rfl rfl rfl T.one3 (nl (th (rg (al (key:=15) T.z3 (eC eZ) fun b15=>(sP (φ:=int (i:Int)) rfl rfl rfl T.one3 rfl (nl (th (rg (lP rfl rfl rfl T.one3 (bi rfl rfl (b_add i6) (sP (φ:=int ((i+1:Nat):Int)) rfl rfl rfl T.one3 rfl (nl ?_)))))))))))))))))))))))))))))
    have hN0:GW (cA S U) (cN S U) (cOk S U) pkey S.aC.length (S.sT.length*U.sT.length) (cL S U) (i+1) l2 mm2 (outs++ [(⟨cA S U (ix ql i),nx⟩)]):=by
     rw[show listOf 63 cn=actsL (cA S U) (ix ql i) from hcn3] at hR0
     exact gn_end hG hQW hR0 hc0
    exact ln (⟨b15,i+1,v2,l2,mm2,v106,outs++ [(⟨cA S U (ix ql i),nx⟩)]⟩:Nat × Nat × Value × (List (Int × Int)) × (List (ByteArray × Int)) × Value × (List SA)) hN0 (by have:=hQW.few;show 501- (i+1)<501- i;omega) ⟨id,id,id,id,id,id,id,id,id,id,id,tV⟩ ⟨rI,rI,rI,rI,rI,rI,rI,rI,rI,rI,rI,rI,rI,tV⟩
   ·intro⟨v2,l2,mm2,nx⟩ hS0
    have hRt0:500<(cL S U).length:=hS0.2
    show At _ _ _ _ [(6,cell b6 [int 0,int 0]),(7,cell b7 [clo 115 []]),(9,cell b9 [clo 117 [fp [sl 1 rE_ S.aC,sl 2 sE S.sT],fp [sl 1 rE_ U.aC,sl 2 sE U.sT]]]),(10,cell b10 [eqv (.slice none 0 0),eqv (.slice none 0 0)]),(11,cell b11 [bl false]),(12,cell b12 [mpv 24 b24]),(13,cell b13 [osl 30 v2]),(14,cell b14 [sl 1 rE_ S.aC,osl 100 v14]),(15,cell ib [int (i:Int)]),(16,cell b16 [sl 1 nE (cA S U (ix ql i)),osl 300 (sv v49)]),(24,mp b24 smE smD smV mm2),(30,own v2 84 2 pE l2),(100,own v14 81 2 sE outs),(300,own (sv v49) 3 1 nE nx),(997,ambH tab)]
    refine rb (rt_ (rb (rt_ (rt_ (rb (rt_ ?_))))))
    refine kncA 10 0 (sl 1 rE_ []) rfl rfl slnil ?_
    refine kncA 10 1 (sl 2 sE []) rfl rfl slnil ?_
    have hr0: []=((growS S U).1).aC:=by
     rw[grow_no hRt0]
    have hr1: []=((growS S U).1).sT:=by
     rw[grow_no hRt0]
    have hr2:false=((growS S U).2):=by
     rw[grow_no hRt0]
    exact rE () [.cell 10 25,.cell 11 4] J [agg [sl 1 rE_ [],sl 2 sE []],bl false] ⟨.agg J J T.agg25 J J,.one J J T.one4 J,tV⟩ (cA3 (fun x0 x1 x2=>rV [agg [sl 1 rE_ x0,sl 2 sE x1],bl x2]) hr0 hr1 hr2) trivial eX
 ·try simp at hc0
  have hdn:=gw_done hQW O
  have hq5:(cL S U).length≤500:=gw_few hQW O
  have hq1:growS S U=((tR (compD S U)).1,true):=by unfold growS;rw[if_pos hq5]
  have hqok:oK (compD S U):=numc_ok hS hT (c_numc hS hT) O
  refine ex (xt_ (xt_ (xb (th (sq (rg (fzc 14 100 1 J J J J (lPA J J T.agg25 J (kn 110 (spec (compD S U)) J (by rw[show outs=(compD S U).sT from hdn.2];exact fun h=>h) (calW (φs:= [agg [sl 1 rE_ (compD S U).aC,sl 2 sE (compD S U).sT]]) (φ:=tup [agg [sl 1 rE_ ((tR (compD S U)).1.aC),sl 2 sE ((tR (compD S U)).1.sT)],sl 1 nE ((tR (compD S U)).2)]) ⟨J,tV⟩ (prog9.Trimmed_ok (compD S U) aS) T.ent68 (fun N hN=>fun h=>tup_le (cs:= [agg [fre N (sl 1 rE_ ((tR (compD S U)).1.aC)),frb (ix (hOl (compD S U)) 0) N (sl 2 sE ((tR (compD S U)).1.sT))],sl 1 nE ((tR (compD S U)).2)]) (ds:= [agg [sl 1 rE_ ((tR (compD S U)).1.aC),sl 2 sE ((tR (compD S U)).1.sT)],sl 1 nE ((tR (compD S U)).2)]) ⟨fun h=>agg_le (cs:= [fre N (sl 1 rE_ ((tR (compD S U)).1.aC)),frb (ix (hOl (compD S U)) 0) N (sl 2 sE ((tR (compD S U)).1.sT))]) (ds:= [sl 1 rE_ ((tR (compD S U)).1.aC),sl 2 sE ((tR (compD S U)).1.sT)]) ⟨fun h=>nw_le h,fun h=>frb_le h,tV⟩ h,fun h=>h,tV⟩ h) (mv (xt J J (xt J J (sPA (cs':= [sl 1 rE_ ((tR (compD S U)).1.aC),sl 2 sE ((tR (compD S U)).1.sT)]) J J J T.agg25 J J (nl (th (sq (rg (lPA J J T.agg25 J (sPA (cs':= [sl 1 rE_ ((tR (compD S U)).1.aC),sl 2 sE ((tR (compD S U)).1.sT)]) J J J T.agg25 J J (sP (φ:=bl true) J J J T.one4 J (nl (th (rt ?_))))))))))))))))))))))))
  have hr0:((tR (compD S U)).1.aC)=((growS S U).1).aC:=by
   rw[hq1]
  have hr1:((tR (compD S U)).1.sT)=((growS S U).1).sT:=by
   rw[hq1]
  have hr2:true=((growS S U).2):=by
   rw[hq1]
  exact rE () [.cell 10 25,.cell 11 4] J [agg [sl 1 rE_ ((tR (compD S U)).1.aC),sl 2 sE ((tR (compD S U)).1.sT)],bl true] ⟨.agg J J T.agg25 J J,.one J J T.one4 J,tV⟩ (cA3 (fun x0 x1 x2=>rV [agg [sl 1 rE_ x0,sl 2 sE x1],bl x2]) hr0 hr1 hr2) trivial eX
theorem growC_ok (S U:SS) (hS:oK S) (hU:oK U) (hSU:S.aC.length=U.aC.length):Fn0 Tryz.prog 114 [tabbed (strs S.aC),agg [int 0,int 0],eqv (.func (.func 115) #[] #[]),clo 116 [fp [strs S.aC,sl 2 sE S.sT],fp [strs U.aC,sl 2 sE U.sT]],clo 117 [fp [strs S.aC,sl 2 sE S.sT],fp [strs U.aC,sl 2 sE U.sT]]] (tup [spec (growS S U).1,bl (growS S U).2]):=
 fn_args (fun {w F vs} h=>by
  match vs,h with
  | [_,_,_,_,_],⟨h1,h2,h3,h4,h5,_⟩=>exact⟨h1,h2,eq_clo h3,h4,h5,tV⟩) (grow_ok S U hS hU hSU)
theorem Composed_ok (s t:SS) (hs:oK s) (ht:oK t) (hst:s.aC=t.aC):
 Fn0 Tryz.prog 62 [tabbed (spec s),spec t] (tup [spec (comS s t).1,bl (comS s t).2]):=by
 refine fnI Tryz.func62 rfl rfl (fun w0 F0=> ?_)
 have hS:=trim_ok hs;have hU:=trim_ok ht;have hSU:(tR s).1.aC.length=(tR t).1.aC.length:=by rw[trim_acts,trim_acts,hst]
 have hn8:=hS.n8
 refine tbI 0 9999 rfl ?_
 refine fcC (inhS 0 J) (fun hS0=> ?_)
 obtain⟨hsa0,hss0,hse0⟩:=sLn hS0
 refine fcC (inhS 1 J) (fun hS1=> ?_)
 obtain⟨hsa1,hss1,hse1⟩:=sLn hS1
 refine sq (rg (bx (key:=2) (cs:= [sl 1 rE_ s.aC,sl 2 sE s.sT]) J fun b2=>(bx (key:=3) (cs:= [sl 1 rE_ t.aC,sl 2 sE t.sT]) J fun b3=>(al (key:=4) T.z25 (eC (eC eZ)) fun b4=>(ag (nl (th (sq (rg (lPA J J T.agg25 J (calW (φs:= [agg [sl 1 rE_ s.aC,sl 2 sE s.sT]]) (φ:=tup [agg [sl 1 rE_ ((tR s).1.aC),sl 2 sE ((tR s).1.sT)],sl 1 nE ((tR s).2)]) ⟨J,tV⟩ (prog9.Trimmed_ok s aS) T.ent68 (fun N hN=>fun h=>tup_le (cs:= [agg [fre N (sl 1 rE_ ((tR s).1.aC)),frb (ix (hOl s) 0) N (sl 2 sE ((tR s).1.sT))],sl 1 nE ((tR s).2)]) (ds:= [agg [sl 1 rE_ ((tR s).1.aC),sl 2 sE ((tR s).1.sT)],sl 1 nE ((tR s).2)]) ⟨fun h=>agg_le (cs:= [fre N (sl 1 rE_ ((tR s).1.aC)),frb (ix (hOl s) 0) N (sl 2 sE ((tR s).1.sT))]) (ds:= [sl 1 rE_ ((tR s).1.aC),sl 2 sE ((tR s).1.sT)]) ⟨fun h=>nw_le h,fun h=>frb_le h,tV⟩ h,fun h=>h,tV⟩ h) (mv (xt J J (xt J J (sPA (cs':= [sl 1 rE_ ((tR s).1.aC),sl 2 sE ((tR s).1.sT)]) J J J T.agg25 J J (ag (nl (th (sq (rg (lPA J J T.agg25 J (calW (φs:= [agg [sl 1 rE_ t.aC,sl 2 sE t.sT]]) (φ:=tup [agg [sl 1 rE_ ((tR t).1.aC),sl 2 sE ((tR t).1.sT)],sl 1 nE ((tR t).2)]) ⟨J,tV⟩ (prog9.Trimmed_ok t aS) T.ent68 (fun N hN=>fun h=>tup_le (cs:= [agg [fre N (sl 1 rE_ ((tR t).1.aC)),frb (ix (hOl t) 0) N (sl 2 sE ((tR t).1.sT))],sl 1 nE ((tR t).2)]) (ds:= [agg [sl 1 rE_ ((tR t).1.aC),sl 2 sE ((tR t).1.sT)],sl 1 nE ((tR t).2)]) ⟨fun h=>agg_le (cs:= [fre N (sl 1 rE_ ((tR t).1.aC)),frb (ix (hOl t) 0) N (sl 2 sE ((tR t).1.sT))]) (ds:= [sl 1 rE_ ((tR t).1.aC),sl 2 sE ((tR t).1.sT)]) ⟨fun h=>nw_le h,fun h=>frb_le h,tV⟩ h,fun h=>h,tV⟩ h) (mv (xt J J (xt J J (sPA (cs':= [sl 1 rE_ ((tR t).1.aC),sl 2 sE ((tR t).1.sT)]) J J J T.agg25 J J (ag (nl (th (sq (sq (rg (mv (fc (slenI 18 J) fun hm18=>(lnF J T.sl36 (bi J J b_eql (mv ?_)))))))))))))))))))))))))))))))))))))
 apply gOr (t:=21) (pd:=25) rfl
 rotate_left
 ·intro hg0 fin
  have hg0':=hg0
  try simp at hg0'
  exact gy J J J hg0 (mv (gy J J J hg0 (fc (slenI 22 J) fun hm22=>(lnF J T.sl36 (gy J J J hg0 (bi J J b_eql (pkF J hg0 J (drp (X:= [(24,_),(23,_),(22,_)]) ⟨J,J,J,tV⟩ fin))))))))
 ·intro hg0 fin
  exact gn J J J hg0 J J (gn J J J hg0 J J (gn J J J hg0 J J (pkT J hg0 J (drp (X:= [(24,_),(23,_),(22,_)]) ⟨J,J,J,tV⟩ fin))))
 refine nl (th ?_)
 refine cd J (fun hc0=> ?_) (fun hc0=> ?_)
 ·skip
  have hh:hol2 s t:=com_cond.1 hc0
  refine sq (rg (fP J T.fld25_0 (lP J J J T.one22 (calW (φs:= [sl 1 rE_ ((tR s).1.aC)]) (φ:=agg [sl 1 rE_ (nothing ((tR s).1.aC)).aC,sl 2 sE (nothing ((tR s).1.aC)).sT]) ⟨J,tV⟩ (prog8.Nothing_ok ((tR s).1.aC) O) T.ent113 (fun N hN=>fun h=>agg_le (cs:= [fre N (sl 1 rE_ (nothing ((tR s).1.aC)).aC),fre N (sl 2 sE (nothing ((tR s).1.aC)).sT)]) (ds:= [sl 1 rE_ (nothing ((tR s).1.aC)).aC,sl 2 sE (nothing ((tR s).1.aC)).sT]) ⟨fun h=>nw_le h,fun h=>nw_le h,tV⟩ h) (sPA (cs':= [sl 1 rE_ (nothing ((tR s).1.aC)).aC,sl 2 sE (nothing ((tR s).1.aC)).sT]) J J J T.agg25 J J (ag (nl (th (rt (rt_ ?_))))))))))
  have hr0:(nothing ((tR s).1.aC)).aC=((comS s t).1).aC:=by
   rw[com_yes hh,trim_acts]
  have hr1:(nothing ((tR s).1.aC)).sT=((comS s t).1).sT:=by
   rw[com_yes hh,trim_acts]
  have hr2:true=((comS s t).2):=by
   rw[com_yes hh]
  exact rE () [.cell 4 25,.tmp 5] J [agg [sl 1 rE_ (nothing ((tR s).1.aC)).aC,sl 2 sE (nothing ((tR s).1.aC)).sT],bl true] ⟨.agg J J T.agg25 J J,.tmp J,tV⟩ (cA3 (fun x0 x1 x2=>rV [agg [sl 1 rE_ x0,sl 2 sE x1],bl x2]) hr0 hr1 hr2) trivial eX
 ·skip
  have hh:¬hol2 s t:=fun g=>by
   have:=com_cond.2 g
   rw[this] at hc0;cases hc0
  refine sk (th (sq (rg (fP J T.fld25_0 (lP J J J T.one22 (bd (css:= []) T.st84 (eC (eC eZ)) trivial (fzv 2 2 J J (fzv 3 3 J J (mkf (mkf (tbU (ψ:=tab) 30 9999 J J (cal0 (φs:= [both (sl 1 rE_ ((tR s).1.aC)) tab,agg [int 0,int 0],eqv (.func (.func 115) #[] #[]),clo 116 [fp [sl 1 rE_ ((tR s).1.aC),sl 2 sE ((tR s).1.sT)],fp [sl 1 rE_ ((tR t).1.aC),sl 2 sE ((tR t).1.sT)]],clo 117 [fp [sl 1 rE_ ((tR s).1.aC),sl 2 sE ((tR s).1.sT)],fp [sl 1 rE_ ((tR t).1.aC),sl 2 sE ((tR t).1.sT)]]]) (φ:=tup [agg [sl 1 rE_ ((growS (tR s).1 (tR t).1).1).aC,sl 2 sE ((growS (tR s).1 (tR t).1).1).sT],bl ((growS (tR s).1 (tR t).1).2)]) ⟨J,J,J,J,J,tV⟩ (growC_ok (tR s).1 (tR t).1 hS hU hSU) T.ent114 (xt J J (xt J J (sPA (cs':= [sl 1 rE_ ((growS (tR s).1 (tR t).1).1).aC,sl 2 sE ((growS (tR s).1 (tR t).1).1).sT]) J J J T.agg25 J J (ag (nl (th (rt ?_)))))))))))))))))))
  have hr0:((growS (tR s).1 (tR t).1).1).aC=((comS s t).1).aC:=by
   rw[com_no hh]
  have hr1:((growS (tR s).1 (tR t).1).1).sT=((comS s t).1).sT:=by
   rw[com_no hh]
  have hr2:((growS (tR s).1 (tR t).1).2)=((comS s t).2):=by
   rw[com_no hh]
  exact rE () [.cell 4 25,.tmp 5] J [agg [sl 1 rE_ ((growS (tR s).1 (tR t).1).1).aC,sl 2 sE ((growS (tR s).1 (tR t).1).1).sT],bl ((growS (tR s).1 (tR t).1).2)] ⟨.agg J J T.agg25 J J,.tmp J,tV⟩ (cA3 (fun x0 x1 x2=>rV [agg [sl 1 rE_ x0,sl 2 sE x1],bl x2]) hr0 hr1 hr2) trivial eX
theorem Compose_ok (s t:SS) (hsm:smallSpec s) (htm:smallSpec t):
 Fn0 Tryz.prog 15 [tabbed (spec s),spec t] (tup [spec (cmpS s t).1,int (cmpS s t).2]):=by
 refine fnI Tryz.func15 rfl rfl (fun w0 F0=> ?_)
 refine tbI 0 9999 rfl ?_
 refine fcC (inhS 0 J) (fun hS0=> ?_)
 obtain⟨hsa0,hss0,hse0⟩:=sLn hS0
 refine fcC (inhS 1 J) (fun hS1=> ?_)
 obtain⟨hsa1,hss1,hse1⟩:=sLn hS1
 refine sq (rg (bx (key:=2) (cs:= [sl 1 rE_ s.aC,sl 2 sE s.sT]) J fun b2=>(bx (key:=3) (cs:= [sl 1 rE_ t.aC,sl 2 sE t.sT]) J fun b3=>(al (key:=4) T.z25 (eC (eC eZ)) fun b4=>(ag (nl (th (sq (sq (rg (lPA J J T.agg25 J (lPA J J T.agg25 J (cal0 (φs:= [agg [sl 1 rE_ s.aC,sl 2 sE s.sT],agg [sl 1 rE_ t.aC,sl 2 sE t.sT]]) (φ:=int (fineE s t)) ⟨J,J,tV⟩ (judg.Fine_ok s t aS aS) T.ent61 (ag (nl (th (sq (rg (mv (bi J J b_neq (nl (th ?_))))))))))))))))))))))
 refine cd J (fun hc0=> ?_) (fun hc0=> ?_)
 ·try simp at hc0
  have hd:cmpS s t=(⟨[],[]⟩,fineE s t):=by unfold cmpS;rw[if_neg hc0]
  refine sq (rg (bd (css:= []) T.st25 (eC (eC eZ)) trivial (mv (sPA (cs':= [eqv (.slice none 0 0),eqv (.slice none 0 0)]) J J J T.agg25 J J (ag (nl (th (rt (rt_ ?_)))))))))
  refine kncA 4 0 (sl 1 rE_ []) rfl rfl slnil ?_
  refine kncA 4 1 (sl 2 sE []) rfl rfl slnil ?_
  have hr0: []=((cmpS s t).1).aC:=by
   rw[hd]
  have hr1: []=((cmpS s t).1).sT:=by
   rw[hd]
  have hr2:((fineE s t):Int)=((cmpS s t).2):=by
   rw[hd]
  exact rE () [.cell 4 25,.tmp 5] J [agg [sl 1 rE_ [],sl 2 sE []],int (fineE s t)] ⟨.agg J J T.agg25 J J,.tmp J,tV⟩ (cA3 (fun x0 x1 x2=>rV [agg [sl 1 rE_ x0,sl 2 sE x1],int x2]) hr0 hr1 hr2) trivial eX
 ·try simp at hc0
  obtain⟨hsv,htv,hst⟩:=Go.Proofs.YtcjemmihcplgdaaGreatDoor.fine_ok hc0
  have hs:=okSpec_of hsv
  have ht:=okSpec_of htv
  refine sk (th (sq (rg (lPA J J T.agg25 J (lPA J J T.agg25 J (tbU (ψ:=tab) 17 9999 J J (cal0 (φs:= [both (agg [sl 1 rE_ s.aC,sl 2 sE s.sT]) tab,agg [sl 1 rE_ t.aC,sl 2 sE t.sT]]) (φ:=tup [agg [sl 1 rE_ ((comS s t).1).aC,sl 2 sE ((comS s t).1).sT],bl ((comS s t).2)]) ⟨J,J,tV⟩ (prodc.Composed_ok s t aS aS aS) T.ent62 (mv (xt J J (xt J J (al (key:=7) T.z25 (eC (eC eZ)) fun b7=>(sPA (cs':= [sl 1 rE_ ((comS s t).1).aC,sl 2 sE ((comS s t).1).sT]) J J J T.agg25 J J (ag (nl (th (sq (sq (rg (mv (no J (nl (th ?_))))))))))))))))))))))
  refine cd J (fun hc1=> ?_) (fun hc1=> ?_)
  ·try simp at hc1
   have hd:cmpS s t=(⟨[],[]⟩,2):=by unfold cmpS;rw[if_pos hc0,if_neg (by simpa using hc1)]
   refine sq (rg (bd (css:= []) T.st25 (eC (eC eZ)) trivial (sPA (cs':= [eqv (.slice none 0 0),eqv (.slice none 0 0)]) J J J T.agg25 J J (ag (nl (th (rt (rt_ ?_))))))))
   refine kncA 4 0 (sl 1 rE_ []) rfl rfl slnil ?_
   refine kncA 4 1 (sl 2 sE []) rfl rfl slnil ?_
   have hr0: []=((cmpS s t).1).aC:=by
    rw[hd]
   have hr1: []=((cmpS s t).1).sT:=by
    rw[hd]
   have hr2:(2:Int)=((cmpS s t).2):=by
    rw[hd]
   exact rE () [.cell 4 25,.tmp 5] J [agg [sl 1 rE_ [],sl 2 sE []],int 2] ⟨.agg J J T.agg25 J J,.tmp J,tV⟩ (cA3 (fun x0 x1 x2=>rV [agg [sl 1 rE_ x0,sl 2 sE x1],int x2]) hr0 hr1 hr2) trivial eX
  ·try simp at hc1
   have hd:cmpS s t=((comS s t).1,0):=by unfold cmpS;rw[if_pos hc0,if_pos (by simpa using hc1)]
   refine sk (th (sq (rg (lPA J J T.agg25 J (sPA (cs':= [sl 1 rE_ ((comS s t).1).aC,sl 2 sE ((comS s t).1).sT]) J J J T.agg25 J J (ag (nl (th (rt ?_)))))))))
   have hr0:((comS s t).1).aC=((cmpS s t).1).aC:=by
    rw[hd]
   have hr1:((comS s t).1).sT=((cmpS s t).1).sT:=by
    rw[hd]
   have hr2:(0:Int)=((cmpS s t).2):=by
    rw[hd]
   exact rE () [.cell 4 25,.tmp 5] J [agg [sl 1 rE_ ((comS s t).1).aC,sl 2 sE ((comS s t).1).sT],int 0] ⟨.agg J J T.agg25 J J,.tmp J,tV⟩ (cA3 (fun x0 x1 x2=>rV [agg [sl 1 rE_ x0,sl 2 sE x1],int x2]) hr0 hr1 hr2) trivial eX
end prodc
end
end Go.Proofs.YtcjemmihcplgdaaGreatDoor
