/- The walks of the functions and the plain laws. Own texts of this claim, packed: Zzdivm, ZzPartM, ZzEncM, Zzdiva, ZzOtherM. -/
import Derived.Test.YtcjemmihcplgdaaGreatX18
import Derived.Test.YtcjemmihcplgdaaGreatX20
import Derived.Test.YtcjemmihcplgdaaGreatX07
import Derived.Test.YtcjemmihcplgdaaGreatX21
import Derived.Test.YtcjemmihcplgdaaGreatX11
set_option linter.all false
namespace Go.Proofs.YtcjemmihcplgdaaGreat
open AL Go
set_option maxRecDepth 100000
set_option linter.all false
open ref01 ref03 ref04 ref06 prog prog2 prog3 prog6 prog13 starts Part Rungs LeftM TrimM RoundM MergeM BisM BisM4 BisM5 WalkM StepM WitM JudgM JudgM2 refw judg wit refj sysw divr divs divd dive divg divw divv divf divc divj divq divp LevM LevM2 ChsM QuoM FailM DivM QuoW RefM
theorem rep_set {n k:Nat} (h:k<n) (l:List Int) (hl:l=List.replicate k 1++List.replicate (n- k) 0):l.set k 1=List.replicate (k+1) 1++List.replicate (n- (k+1)) 0:=by rw[hl];exact set_rep 1 0 h
theorem fit_bd {z:SState} {N n:Nat} (h:okState z N n):∀k,k<z.accept.length→0≤ix z.accept k∧ix z.accept k<256:=h.ac
theorem subs_get {n:Nat} (hn:n≤8) {k:Nat} (hk:k<(subs n).length):0≤ix (subs n) k∧ix (subs n) k<256:=by
 have h1:=subs_mem.1 (ix_memS hk)
 have h2:2^n≤2^8:=Nat.pow_le_pow_right (by omega) hn
 omega
theorem used_has {T:SSpec} (hU:Used T) {z:Nat} (hz:z<T.states.length) {a:Nat} (ha:a<T.actions.length):has (orAll (acc T z)) (a:Int)=true↔0≤ix (nxt T z) a:=(hU z hz a ha).symm
namespace T
theorem ent44:Ent Tryz.prog 44:=ent_of (by kernel_rfl)
theorem ent45:Ent Tryz.prog 45:=ent_of (by kernel_rfl)
theorem ent46:Ent Tryz.prog 46:=ent_of (by kernel_rfl)
theorem ent48:Ent Tryz.prog 48:=ent_of (by kernel_rfl)
end T
namespace divm
theorem AllN_ok (l:List ByteArray) (hl:l.length≤8):
 AL.Fn Tryz.prog 45 [strs l] [] (ι:=Value) (fun _ v=>agg [strs l,sl 2 nxE [(subs l.length,v)]]) (fun v=> [(231,own (sv v) 3 1 intE (List.replicate l.length 0))]):=by
 refine fnI Tryz.func45 rfl rfl (fun w0 F0=> ?_)
 have h2n:2^l.length≤2^8:=Nat.pow_le_pow_right (by omega) hl
 refine fcC (slenI 0 rfl) (fun hm0=> ?_)
 refine sq (rg (al (key:=2) T.z25 (ex_cons (ex_cons (ex_nil))) fun b2=>(nl (th (sq (rg (al (key:=3) T.z72 (ex_cons (ex_cons (ex_nil))) fun b3=>(nl (th (sq (sq (rg (mv (lnF rfl T.sl22 (bi rfl rfl (b_shlI (by omega) (by omega)) (mv (nl (th (bk ?_)))))))))))))))))))
 refine nwC 30 3 1 intE (kncC 3 0 (osl 30 (.slice none 0 0)) rfl rfl eq_osl ?_)
 have hI0_0:0≤2^l.length:=by
  first|omega|simp
 have hI0_1:([]:List Int)=(List.range 0).map fun(x:Nat)=>(x:Int):=by
  rfl
 refine lp (κ:=Nat × Value × (List Int)) (fun p=> [(0,sl 1 strE l),(2,ptr 2 b2 0),(3,ptr 3 b3 0),(7,int ((2^l.length:Nat):Int)),(8,int (p.1:Int))]) (fun p=> [(2,cell b2 [eqv (.slice none 0 0),eqv (.slice none 0 0)]),(3,cell b3 [osl 30 p.2.1,eqv (.slice none 0 0)]),(30,own p.2.1 3 1 intE p.2.2)]) (fun p=>(p.1≤2^l.length)∧(p.2.2=(List.range p.1).map fun(x:Nat)=>(x:Int))) (fun p=>2^l.length- p.1) ⟨0,(.slice none 0 0),([]:List Int)⟩ ⟨hI0_0,hI0_1⟩ ⟨id,id,id,id,id,trivial⟩ ⟨⟨rfl,id⟩,⟨rfl,id⟩,⟨rfl,id⟩,trivial⟩ ?_
 intro⟨k,v,accl⟩ hG0
 obtain⟨hk0,hI0⟩:(k≤2^l.length)∧(accl=(List.range k).map fun(x:Nat)=>(x:Int)):=hG0
 show Ct _ _ _ _ [(0,sl 1 strE l),(2,ptr 2 b2 0),(3,ptr 3 b3 0),(7,int ((2^l.length:Nat):Int)),(8,int (k:Int))] [(2,cell b2 [eqv (.slice none 0 0),eqv (.slice none 0 0)]),(3,cell b3 [osl 30 v,eqv (.slice none 0 0)]),(30,own v 3 1 intE accl)] _
 have hlen:accl.length=k:=by rw[hI0];simp
 refine sq (rg (bi rfl rfl b_lss (nl (th (sq ?_)))))
 refine cd rfl (fun hc0=> ?_) (fun hc0=> ?_)
 ·try simp at hc0
  have hkk:k<2^l.length:=by exact_mod_cast hc0
  refine sk (th (sq (bk (sq (rg (mv (ag (nl (th (rg (fP rfl T.fld72_0 (lP rfl rfl rfl T.one63 (mv (bsE (enc:=intE) (xs:= [(k:Int)]) (css:= [[int (k:Int)]]) T.mk63 ⟨rfl,rfl,p1 (φ:=int (k:Int)) rfl,trivial⟩ rfl rfl rfl rfl (ap (key:=30) (zs:= [(k:Int)]) osl_eq rfl rfl rfl T.mk63 (by unfold maxL at*;simp;omega) (by unfold maxL at*;simp;omega) fun v15=>(fP rfl T.fld72_0 (storePO rfl rfl rfl rfl T.one63 rfl (nl (eb (th (rg (bi rfl rfl (b_add (by unfold I64;omega)) (mv (nl ?_))))))))))))))))))))))))
  have hN0:(k+1)≤2^l.length:=by
   first|omega|simp_all
  have hN1:(accl++ [(k:Int)])=(List.range (k+1)).map fun(x:Nat)=>(x:Int):=by
   rw[hI0,List.range_succ,List.map_append];rfl
  exact ln (⟨k+1,v15,accl++ [(k:Int)]⟩:Nat × Value × (List Int)) ⟨hN0,hN1⟩ (by first|omega|(dsimp only;omega)) ⟨id,id,id,id,id,trivial⟩ ⟨⟨rfl,id⟩,⟨rfl,id⟩,⟨rfl,id⟩,trivial⟩
 ·try simp at hc0
  have hkk:2^l.length≤k:=by first|exact_mod_cast hc0|exact Nat.le_of_not_lt (by exact_mod_cast hc0)
  refine ex (xt_ (xt_ (xb (th (sq (sq (rg (mv (lnF rfl T.sl22 (mv (nl (th (bk ?_)))))))))))))
  refine nwC 231 3 1 intE (kncC 3 1 (osl 231 (.slice none 0 0)) rfl rfl eq_osl ?_)
  have hI1_0:0≤l.length:=by
   first|omega|simp
  have hI1_1:([]:List Int)=List.replicate 0 0:=by
   rfl
  refine lp (κ:=Nat × Value × (List Int)) (fun p=> [(0,sl 1 strE l),(2,ptr 2 b2 0),(3,ptr 3 b3 0),(19,int (l.length:Int)),(20,int (p.1:Int))]) (fun p=> [(2,cell b2 [eqv (.slice none 0 0),eqv (.slice none 0 0)]),(3,cell b3 [osl 30 v,osl 231 p.2.1]),(30,own v 3 1 intE accl),(231,own p.2.1 3 1 intE p.2.2)]) (fun p=>(p.1≤l.length)∧(p.2.2=List.replicate p.1 0)) (fun p=>l.length- p.1) ⟨0,(.slice none 0 0),([]:List Int)⟩ ⟨hI1_0,hI1_1⟩ ⟨id,id,id,id,id,trivial⟩ ⟨⟨rfl,id⟩,⟨rfl,id⟩,⟨rfl,id⟩,⟨rfl,id⟩,trivial⟩ ?_
  intro⟨k1,v1,ac1⟩ hG1
  obtain⟨hk1,hI1⟩:(k1≤l.length)∧(ac1=List.replicate k1 0):=hG1
  show Ct _ _ _ _ [(0,sl 1 strE l),(2,ptr 2 b2 0),(3,ptr 3 b3 0),(19,int (l.length:Int)),(20,int (k1:Int))] [(2,cell b2 [eqv (.slice none 0 0),eqv (.slice none 0 0)]),(3,cell b3 [osl 30 v,osl 231 v1]),(30,own v 3 1 intE accl),(231,own v1 3 1 intE ac1)] _
  have hlen1:ac1.length=k1:=by rw[hI1];simp
  refine sq (rg (bi rfl rfl b_lss (nl (th (sq ?_)))))
  refine cd rfl (fun hc1=> ?_) (fun hc1=> ?_)
  ·try simp at hc1
   refine sk (th (sq (bk (rg (fP rfl T.fld72_1 (lP rfl rfl rfl T.one63 (bsE (enc:=intE) (xs:= [0]) (css:= [[int 0]]) T.mk63 ⟨rfl,rfl,p1 (φ:=int 0) rfl,trivial⟩ rfl rfl rfl rfl (ap (key:=231) (zs:= [0]) osl_eq rfl rfl rfl T.mk63 (by unfold maxL at*;simp;omega) (by unfold maxL at*;simp;omega) fun v25=>(fP rfl T.fld72_1 (storePO rfl rfl rfl rfl T.one63 rfl (nl (eb (th (rg (bi rfl rfl (b_add (by unfold I64;omega)) (mv (nl ?_)))))))))))))))))
   have hN0:(k1+1)≤l.length:=by
    first|omega|simp_all
   have hN1:(ac1++ [0])=List.replicate (k1+1) 0:=by
    rw[hI1,List.replicate_succ']
   exact ln (⟨k1+1,v25,ac1++ [0]⟩:Nat × Value × (List Int)) ⟨hN0,hN1⟩ (by first|omega|(dsimp only;omega)) ⟨id,id,id,id,id,trivial⟩ ⟨⟨rfl,id⟩,⟨rfl,id⟩,⟨rfl,id⟩,⟨rfl,id⟩,trivial⟩
  ·try simp at hc1
   refine fcC (svI 231 rfl) fun hsv231=> ?_
   rw[←hsv231]
   refine kncC 3 1 (eqv (sv v1)) rfl rfl (osl_raw) (ex (xt_ (xt_ (xb (th (sq (fzcC 3 30 0 rfl rfl rfl rfl (dr (nh:=5) [0,1,0,4,15,31] T.mixed (by kernel_rfl) ?_))))))))
   refine st_ rfl (fun _ _ _ gq kq=>mv' (gq.1.trans rfl) kq) ?_
   refine st_ rfl (fun _ _ _ gq kq=>appendF (enc:=strE) (ys:=l) rfl (gq.1.trans rfl) T.mk22 (by unfold maxL;omega) kq) ?_
   refine st_ rfl (fun _ _ _ gq kq=>lPA (gq.1.trans rfl) rfl T.agg72 rfl kq) ?_
   refine st_ rfl (fun _ _ _ gq kq=>bsE (enc:=nxE) (xs:= [(accl,v1)]) (css:= [[sl 1 intE accl,eqv (sv v1)]]) T.mk23 ⟨rfl,rfl,pA (cs:= [sl 1 intE accl,eqv (sv v1)]) (by exact(gq.1.trans rfl)),trivial⟩ rfl rfl rfl rfl kq) ?_
   refine st_ rfl (fun _ _ _ gq kq=>bd (css:= [(0,_),(1,_)]) T.st25 (ex_cons (ex_cons (ex_nil))) ⟨rfl,rfl,p1 (φ:=sl 1 strE l) (by exact(gq.1.trans rfl)),⟨rfl,rfl,p1 (φ:=sl 2 nxE [(accl,v1)]) (by exact(gq.2.1.trans rfl)),trivial⟩⟩ kq) ?_
   refine pn (sPA (cs':= [sl 1 strE l,sl 2 nxE [(accl,v1)]]) rfl rfl rfl T.agg25 rfl rfl (nl (th (rt ?_))))
   have hs2:accl=subs l.length:=by rw[hI0,show k=2^l.length by omega];rfl
   have hr2:ac1=List.replicate l.length 0:=by rw[hI1,show k1=l.length by omega]
   have hr0: [(accl,v1)]= [(subs l.length,v1)]:=by
    rw[hs2]
   have hall:∀x0,[(accl,v1)]=x0→resAV [agg [sl 1 strE l,sl 2 nxE [(accl,v1)]]]=resAV [agg [sl 1 strE l,sl 2 nxE x0]]:=by rintro _ rfl;rfl
   exact rE v1 [.cell 2 25] rfl [agg [sl 1 strE l,sl 2 nxE [(accl,v1)]]] ⟨.agg rfl rfl T.agg25 rfl rfl,trivial⟩ (hall _ hr0) (by rw[hr2];exact⟨⟨rfl,id⟩,trivial⟩) (by first|exact .inr rfl|exact .inl rfl)
theorem RefDivide_ok (t s:SSpec) (ht:okSpec t) (hs:okSpec s) (hts:t.actions=s.actions) (hz:t.states.length*s.states.length+1≤10000):
 AL.Fn Tryz.prog 12 [spec t,spec s] [] (ι:= { D:SSpec//RefQ t s D }) (fun _ i=>spec i.1) (fun _=> []):=by
 refine fnI Tryz.func12 rfl rfl (fun w0 F0=> ?_)
 have f1:=ht.few1;have f2:=ht.few0;have hn8:=ht.n8;have hsubl:(subs t.actions.length).length≤2^8:=(by unfold subs;simp;exact Nat.pow_le_pow_right (by omega) hn8);have hT:=trim_ok hs;have hU:=trim_used hs;have hTa:(trimS s).1.actions.length=t.actions.length:=by rw[trim_acts,←hts]
 have hT8:=hT.n8;have f4:=hT.few1;have hmz:t.states.length*(trimS s).1.states.length+1≤10000:=Nat.le_trans (Nat.add_le_add_right (Nat.mul_le_mul_left _ (TrimI.trim_len hs)) 1) hz
 refine fcC (inhS 0 rfl) (fun hS0=> ?_)
 obtain⟨hsa0,hss0,hse0⟩:=spec_lens hS0
 refine fcC (inhS 1 rfl) (fun hS1=> ?_)
 obtain⟨hsa1,hss1,hse1⟩:=spec_lens hS1
 refine sq (rg (bx (key:=2) (cs:= [sl 1 strE t.actions,sl 2 stateE t.states]) rfl fun b2=>(bx (key:=3) (cs:= [sl 1 strE s.actions,sl 2 stateE s.states]) rfl fun b3=>(al (key:=4) T.z25 (ex_cons (ex_cons (ex_nil))) fun b4=>(nl (th (sq (rg (lPA rfl rfl T.agg25 rfl (cal0 (φs:= [agg [sl 1 strE s.actions,sl 2 stateE s.states]]) (φ:=tup [agg [sl 1 strE (((trimS s).1).actions),sl 2 stateE (((trimS s).1).states)],sl 1 intE ((trimS s).2)]) ⟨rfl,trivial⟩ (divr.Trim_ok s (by assumption)) T.ent43 (mv (xt rfl rfl (xt rfl rfl (sPA (cs':= [sl 1 strE (((trimS s).1).actions),sl 2 stateE (((trimS s).1).states)]) rfl rfl rfl T.agg25 rfl rfl (nl (th (sq (sq (rg (lPA rfl rfl T.agg25 rfl (cal0 (φs:= [agg [sl 1 strE (((trimS s).1).actions),sl 2 stateE (((trimS s).1).states)]]) (φ:=bl (isNoneS ((trimS s).1))) ⟨rfl,trivial⟩ (divr.IsNone_ok ((trimS s).1) (by omega)) T.ent44 (nl (th ?_)))))))))))))))))))))))
 refine cd rfl (fun hc0=> ?_) (fun hc0=> ?_)
 ·try simp at hc0
  have hh0:ix (hollow s) 0=true:=by rw[←isNone_trim hs];exact hc0
  refine sq (rg (fP rfl T.fld25_0 (lP rfl rfl rfl T.one22 (cal0 (φs:= [sl 1 strE t.actions]) (φ:=agg [sl 1 strE ((everyS t.actions).actions),sl 2 stateE ((everyS t.actions).states)]) ⟨rfl,trivial⟩ (divr.All_ok t.actions (by omega)) T.ent45 (sPA (cs':= [sl 1 strE ((everyS t.actions).actions),sl 2 stateE ((everyS t.actions).states)]) rfl rfl rfl T.agg25 rfl rfl (nl (th (rt (rt_ ?_)))))))))
  exact rE ⟨everyS t.actions,refq_hol hh0⟩ [.cell 4 25] rfl [agg [sl 1 strE ((everyS t.actions).actions),sl 2 stateE ((everyS t.actions).states)]] ⟨.agg rfl rfl T.agg25 rfl rfl,trivial⟩ (rfl) trivial (by first|exact .inr rfl|exact .inl rfl)
 ·try simp at hc0
  have h00:ix (hollow s) 0=false:=by rw[←isNone_trim hs];simpa using hc0
  refine sk (th (sq (rg (fP rfl T.fld25_0 (lP rfl rfl rfl T.one22 (cl (AllN_ok t.actions (by omega)) T.ent45 trivial fun N34 i34=>(fld1 rfl T.flv25_1 T.one23 rfl (iF rfl rfl T.sl23 (by omega) (gK (k:=0) (by simp)) (lFA rfl T.agg72 (Nat.le_of_ble_eq_true rfl) (kn 37 (agg [ints (subs t.actions.length),osl 231 (sv i34)]) rfl (fun h=>agg_le (cs:= [ints (subs t.actions.length),eqv (sv i34)]) (ds:= [ints (subs t.actions.length),osl 231 (sv i34)]) ⟨fun h=>h,fun h=>eq_osl h,trivial⟩ h) (al (key:=5) T.z72 (ex_cons (ex_cons (ex_nil))) fun b5=>(sPA (cs':= [sl 1 intE (subs t.actions.length),osl 231 (sv i34)]) rfl rfl rfl T.agg72 rfl rfl (nl (th (sq (sq (rg (fP rfl T.fld25_0 (lP rfl rfl rfl T.one22 (fc (slenI 39 rfl) fun hm39=>(lnF rfl T.sl22 (mv (nl (th (bk ?_)))))))))))))))))))))))))
  have hI0_0:0≤t.actions.length:=by
   first|omega|simp
  have hI0_1:(List.replicate t.actions.length (0:Int))=List.replicate 0 (1:Int)++List.replicate (t.actions.length- 0) (0:Int):=by
   simp
  refine lp (κ:=Nat × (List Int)) (fun p=> [(2,ptr 2 b2 0),(3,ptr 3 b3 0),(4,ptr 4 b4 0),(5,ptr 5 b5 0),(40,int (t.actions.length:Int)),(41,int (p.1:Int))]) (fun p=> [(2,cell b2 [sl 1 strE t.actions,sl 2 stateE t.states]),(3,cell b3 [sl 1 strE (((trimS s).1).actions),sl 2 stateE (((trimS s).1).states)]),(4,cell b4 [eqv (.slice none 0 0),eqv (.slice none 0 0)]),(5,cell b5 [sl 1 intE (subs t.actions.length),osl 231 (sv i34)]),(231,own (sv i34) 3 1 intE p.2)]) (fun p=>(p.1≤t.actions.length)∧(p.2=List.replicate p.1 (1:Int)++List.replicate (t.actions.length- p.1) (0:Int))) (fun p=>t.actions.length- p.1) ⟨0,List.replicate t.actions.length (0:Int)⟩ ⟨hI0_0,hI0_1⟩ ⟨id,id,id,id,id,id,trivial⟩ ⟨⟨rfl,id⟩,⟨rfl,id⟩,⟨rfl,id⟩,⟨rfl,id⟩,⟨rfl,id⟩,trivial⟩ ?_
  intro⟨k,nx0⟩ hG0
  obtain⟨hk0,hI0⟩:(k≤t.actions.length)∧(nx0=List.replicate k (1:Int)++List.replicate (t.actions.length- k) (0:Int)):=hG0
  show Ct _ _ _ _ [(2,ptr 2 b2 0),(3,ptr 3 b3 0),(4,ptr 4 b4 0),(5,ptr 5 b5 0),(40,int (t.actions.length:Int)),(41,int (k:Int))] [(2,cell b2 [sl 1 strE t.actions,sl 2 stateE t.states]),(3,cell b3 [sl 1 strE (((trimS s).1).actions),sl 2 stateE (((trimS s).1).states)]),(4,cell b4 [eqv (.slice none 0 0),eqv (.slice none 0 0)]),(5,cell b5 [sl 1 intE (subs t.actions.length),osl 231 (sv i34)]),(231,own (sv i34) 3 1 intE nx0)] _
  have hnl:nx0.length=t.actions.length:=by rw[hI0];simp;omega
  refine sq (rg (bi rfl rfl b_lss (nl (th (sq ?_)))))
  refine cd rfl (fun hc1=> ?_) (fun hc1=> ?_)
  ·try simp at hc1
   refine sk (th (sq (bk (sq (rg (mv (ag (nl (th (rg (fP rfl T.fld72_1 (lP rfl rfl rfl T.one63 (mv (iO rfl rfl rfl T.sl63 (by omega) (by omega) (sO (φ:=int 1) rfl rfl rfl T.one3 (by first|exact gN (by omega)|exact gI (by omega) (by omega)) rfl (y':=1) rfl (nl (eb (th (rg (bi rfl rfl (b_add (by unfold I64;omega)) (mv (nl ?_))))))))))))))))))))))
   have hN0:(k+1)≤t.actions.length:=by
    first|omega|simp_all
   have hN1:(nx0.set k 1)=List.replicate (k+1) (1:Int)++List.replicate (t.actions.length- (k+1)) (0:Int):=by
    exact rep_set (by omega) _ hI0
   exact ln (⟨k+1,nx0.set k 1⟩:Nat × (List Int)) ⟨hN0,hN1⟩ (by first|omega|(dsimp only;omega)) ⟨id,id,id,id,id,id,trivial⟩ ⟨⟨rfl,id⟩,⟨rfl,id⟩,⟨rfl,id⟩,⟨rfl,id⟩,⟨rfl,id⟩,trivial⟩
  ·try simp at hc1
   have hnx:nx0=List.replicate t.actions.length 1:=by rw[hI0,show k=t.actions.length by omega,Nat.sub_self];simp
   refine ex (xt_ (xt_ (xb (th (sq (rg (fzc 5 231 1 rfl rfl rfl rfl (fP rfl T.fld25_0 (lP rfl rfl rfl T.one22 (appendF (enc:=strE) (ys:=t.actions) rfl rfl T.mk22 (by unfold maxL;omega) (bd (css:= [(0,_)]) T.st25 (ex_cons (ex_cons (ex_nil))) ⟨rfl,rfl,p1 (φ:=sl 1 strE t.actions) rfl,trivial⟩ (al (key:=7) T.z25 (ex_cons (ex_cons (ex_nil))) fun b7=>(sPA (cs':= [sl 1 strE t.actions,eqv (.slice none 0 0)]) rfl rfl rfl T.agg25 rfl rfl (nl (th (sq (rg (bd (css:= [(0,_),(1,_)]) T.st78 (ex_cons (ex_cons (ex_nil))) ⟨rfl,rfl,p1 (φ:=int 0) rfl,⟨rfl,rfl,p1 (φ:=int 0) rfl,trivial⟩⟩ (bd (css:= [(0,_),(1,_)]) T.st78 (ex_cons (ex_cons (ex_nil))) ⟨rfl,rfl,p1 (φ:=int (-1)) rfl,⟨rfl,rfl,p1 (φ:=int (-1)) rfl,trivial⟩⟩ (bsO 55 (enc:=pairE) (xs:= [(0,0),(-1,-1)]) (css:= [[int 0,int 0],[int (-1),int (-1)]]) T.mk62 ⟨rfl,rfl,pA (cs:= [int 0,int 0]) rfl,⟨rfl,rfl,pA (cs:= [int (-1),int (-1)]) rfl,trivial⟩⟩ rfl rfl rfl rfl fun v55=>(ag (nl (th (sq (sq (rg (ag (nl (th (bk ?_))))))))))))))))))))))))))))))
   refine nwC 70 72 2 stateE (kncC 7 1 (osl 70 (.slice none 0 0)) rfl rfl eq_osl ?_)
   have hI1_0:RW t (trimS s).1 0 ([(0,0),(-1,-1)]:List (Int × Int)) ([]:List SState):=by
    exact rw_zero ht hT
   refine lp (κ:=Nat × Value × (List (Int × Int)) × Value × (List SState)) (fun p=> [(2,ptr 2 b2 0),(3,ptr 3 b3 0),(4,ptr 4 b4 0),(5,ptr 5 b5 0),(7,ptr 7 b7 0),(8,osl 55 p.2.1),(9,int (p.1:Int))]) (fun p=> [(2,cell b2 [sl 1 strE t.actions,sl 2 stateE t.states]),(3,cell b3 [sl 1 strE (((trimS s).1).actions),sl 2 stateE (((trimS s).1).states)]),(4,cell b4 [eqv (.slice none 0 0),eqv (.slice none 0 0)]),(5,cell b5 [sl 1 intE (subs t.actions.length),sl 1 intE nx0]),(7,cell b7 [sl 1 strE t.actions,osl 70 p.2.2.2.1]),(55,own p.2.1 78 2 pairE p.2.2.1),(70,own p.2.2.2.1 72 2 stateE p.2.2.2.2)]) (fun p=>RW t (trimS s).1 p.1 p.2.2.1 p.2.2.2.2) (fun p=>10001- p.1) ⟨0,v55,([(0,0),(-1,-1)]:List (Int × Int)),(.slice none 0 0),([]:List SState)⟩ hI1_0 ⟨id,id,id,id,id,id,id,trivial⟩ ⟨⟨rfl,id⟩,⟨rfl,id⟩,⟨rfl,id⟩,⟨rfl,id⟩,⟨rfl,id⟩,⟨rfl,id⟩,⟨rfl,id⟩,trivial⟩ ?_
   intro⟨i,v,ql,v7,outs⟩ hG1
   have hRW:RW t (trimS s).1 i ql outs:=hG1
   show Ct _ _ _ _ [(2,ptr 2 b2 0),(3,ptr 3 b3 0),(4,ptr 4 b4 0),(5,ptr 5 b5 0),(7,ptr 7 b7 0),(8,osl 55 v),(9,int (i:Int))] [(2,cell b2 [sl 1 strE t.actions,sl 2 stateE t.states]),(3,cell b3 [sl 1 strE (((trimS s).1).actions),sl 2 stateE (((trimS s).1).states)]),(4,cell b4 [eqv (.slice none 0 0),eqv (.slice none 0 0)]),(5,cell b5 [sl 1 intE (subs t.actions.length),sl 1 intE nx0]),(7,cell b7 [sl 1 strE t.actions,osl 70 v7]),(55,own v 78 2 pairE ql),(70,own v7 72 2 stateE outs)] _
   have hlf:=rw_few hRW
   have hil:=hRW.il
   have hol:outs.length≤i:=by rw[hRW.out];simp;omega
   refine sq (sq (rg (mv (mv (lnO rfl rfl T.sl62 (bi rfl rfl b_lss (nl (th ?_))))))))
   refine cd rfl (fun hc2=> ?_) (fun hc2=> ?_)
   ·try simp at hc2
    refine sk (th (sq (bk (sq (sq (rg (mv (bi rfl rfl b_eql (nl (th ?_))))))))))
    refine cd rfl (fun hc3=> ?_) (fun hc3=> ?_)
    ·try simp at hc3
     have hi1:i=1:=by omega
     refine sq (rg (fP rfl T.fld25_1 (lP rfl rfl rfl T.one23 (lPA rfl rfl T.agg72 rfl (bsE (enc:=stateE) (xs:= [(⟨subs t.actions.length,nx0⟩)]) (css:= [[sl 1 intE (subs t.actions.length),sl 1 intE nx0]]) T.mk23 ⟨rfl,rfl,pA (cs:= [sl 1 intE (subs t.actions.length),sl 1 intE nx0]) rfl,trivial⟩ rfl rfl rfl rfl (ap (key:=70) (zs:= [(⟨subs t.actions.length,nx0⟩)]) osl_eq rfl rfl rfl T.mk23 (by unfold maxL at*;simp;omega) (by unfold maxL at*;simp;omega) fun v68=>(fP rfl T.fld25_1 (storePO rfl rfl rfl rfl T.one23 rfl (nl (th (ex (xt_ (xb (th (rg (mv (bi rfl rfl (b_add (by unfold I64;omega)) (ag (nl ?_)))))))))))))))))))
     have hN0:RW t (trimS s).1 (i+1) ql (outs++ [(⟨subs t.actions.length,nx0⟩)]):=by
      subst hi1
      rw[hnx]
      exact rw_bes hRW
     exact ln (⟨i+1,v,ql,v68,outs++ [(⟨subs t.actions.length,nx0⟩)]⟩:Nat × Value × (List (Int × Int)) × Value × (List SState)) hN0 (by omega) ⟨id,id,id,id,id,id,id,trivial⟩ ⟨⟨rfl,id⟩,⟨rfl,id⟩,⟨rfl,id⟩,⟨rfl,id⟩,⟨rfl,id⟩,⟨rfl,id⟩,⟨rfl,id⟩,trivial⟩
    ·try simp at hc3
     have hi1:i≠1:=by omega
     have hnb:(ix ql i)≠bes:=fun e=>by
      have h1:=(List.getElem_inj hRW.nd (h₀:=hc2) (h₁:=by have:=hRW.two;omega) (i:=i) (j:=1)).1 (by rw[←ix_get,←ix_get,e,hRW.h1])
      exact hi1 h1
     obtain⟨hp1,hp2,hp3,hp4⟩:=(hRW.ok _ (ix_memS hc2)).resolve_left hnb
     have hst:=ht.st (ix ql i).1.toNat (by omega)
     have hss:=hT.st (ix ql i).2.toNat (by omega)
     have htl:=hst.len
     have hsl:=hss.len
     have hzl:=hss.acl
     have hzb:=fit_bd hss
     refine sk (th (sq (rg (mv (mv (iO rfl rfl rfl T.sl62 (by omega) (by omega) (lOA rfl rfl (by first|exact gN (by omega)|exact gI (by omega) (by omega)) T.agg78 (by decide) (al (key:=10) T.z78 (ex_cons (ex_cons (ex_nil))) fun b10=>(sPA (cs':= [int ((ix ql i).1),int ((ix ql i).2)]) rfl rfl rfl T.agg78 rfl rfl (nl (th (sq ?_))))))))))))
     refine drH (nh:=16) [0,1,0,4,15,31,0,64,0,256,960,1984,0,0,12351,32767] [(none,[]),(none,[2]),(none,[]),(none,[10]),(none,[]),(none,[]),(none,[]),(none,[3]),(none,[]),(none,[10]),(none,[]),(none,[]),(some 11,[]),(some 12,[]),(some 11,[11]),(some 12,[12])] T.mixed (by kernel_rfl) (by kernel_rfl) ?_
     refine stv (d:=74) (fun β0=>ptr 2 b2 1) [] rfl (fun β β' hb=>rfl) (fun β0 _ _ _ _ gq gh kq=>fP (gq.1.trans rfl) T.fld25_1 kq) ?_
     refine stv (d:=75) (fun β0=>sl 2 stateE t.states) [2] rfl (fun β β' hb=>rfl) (fun β0 _ _ _ _ gq gh kq=>lP (gq.1.trans rfl) (gh.1.trans rfl) rfl T.one23 kq) ?_
     refine stv (d:=76) (fun β0=>ptr 10 b10 0) [] rfl (fun β β' hb=>rfl) (fun β0 _ _ _ _ gq gh kq=>iPA (gq.1.trans rfl) rfl T.arr78 T.one3 rfl kq) ?_
     refine stv (d:=77) (fun β0=>int ((ix ql i).1)) [10] rfl (fun β β' hb=>rfl) (fun β0 _ _ _ _ gq gh kq=>lP (gq.1.trans rfl) (gh.1.trans rfl) rfl T.one3 kq) ?_
     refine stv (d:=78) (fun β0=>fp [sl 1 intE ((ix t.states (((ix ql i).1).toNat)).accept),sl 1 intE ((ix t.states (((ix ql i).1).toNat)).next)]) [] rfl (fun β β' hb=>rfl) (fun β0 _ _ _ _ gq gh kq=>iF (gq.1.trans rfl) (gq.2.1.trans rfl) T.sl23 (by omega) (by first|exact gN (by omega)|exact gI (by omega) (by omega)) kq) ?_
     refine stv (d:=79) (fun β0=>agg [sl 1 intE ((ix t.states (((ix ql i).1).toNat)).accept),sl 1 intE ((ix t.states (((ix ql i).1).toNat)).next)]) [] rfl (fun β β' hb=>rfl) (fun β0 _ _ _ _ gq gh kq=>lFA (gq.1.trans rfl) T.agg72 (Nat.le_of_ble_eq_true rfl) kq) ?_
     refine stv (d:=80) (fun β0=>ptr 3 b3 1) [] rfl (fun β β' hb=>rfl) (fun β0 _ _ _ _ gq gh kq=>fP (gq.1.trans rfl) T.fld25_1 kq) ?_
     refine stv (d:=81) (fun β0=>sl 2 stateE (((trimS s).1).states)) [3] rfl (fun β β' hb=>rfl) (fun β0 _ _ _ _ gq gh kq=>lP (gq.1.trans rfl) (gh.1.trans rfl) rfl T.one23 kq) ?_
     refine stv (d:=82) (fun β0=>ptr 10 b10 1) [] rfl (fun β β' hb=>rfl) (fun β0 _ _ _ _ gq gh kq=>iPA (gq.1.trans rfl) rfl T.arr78 T.one3 rfl kq) ?_
     refine stv (d:=83) (fun β0=>int ((ix ql i).2)) [10] rfl (fun β β' hb=>rfl) (fun β0 _ _ _ _ gq gh kq=>lP (gq.1.trans rfl) (gh.1.trans rfl) rfl T.one3 kq) ?_
     refine stv (d:=84) (fun β0=>fp [sl 1 intE ((ix (((trimS s).1).states) (((ix ql i).2).toNat)).accept),sl 1 intE ((ix (((trimS s).1).states) (((ix ql i).2).toNat)).next)]) [] rfl (fun β β' hb=>rfl) (fun β0 _ _ _ _ gq gh kq=>iF (gq.1.trans rfl) (gq.2.1.trans rfl) T.sl23 (by omega) (by first|exact gN (by omega)|exact gI (by omega) (by omega)) kq) ?_
     refine stv (d:=85) (fun β0=>agg [sl 1 intE ((ix (((trimS s).1).states) (((ix ql i).2).toNat)).accept),sl 1 intE ((ix (((trimS s).1).states) (((ix ql i).2).toNat)).next)]) [] rfl (fun β β' hb=>rfl) (fun β0 _ _ _ _ gq gh kq=>lFA (gq.1.trans rfl) T.agg72 (Nat.le_of_ble_eq_true rfl) kq) ?_
     refine sta 11 T.z72 (ex_cons (ex_cons (ex_nil))) ?_
     refine sta 12 T.z72 (ex_cons (ex_cons (ex_nil))) ?_
     refine stw 11 (fun β0=>cell (gbk (β0 12)) [sl 1 intE ((ix t.states (((ix ql i).1).toNat)).accept),sl 1 intE ((ix t.states (((ix ql i).1).toNat)).next)]) [11] rfl (fun β β' hb=>by first|rw[hb 12 rfl]|(dsimp only;rw[hb 12 rfl])) (fun β0 _ _ _ _ gq gh kq=>sPA (cs':= [sl 1 intE ((ix t.states (((ix ql i).1).toNat)).accept),sl 1 intE ((ix t.states (((ix ql i).1).toNat)).next)]) (gq.1.trans rfl) (gh.1.trans rfl) (gq.2.1.trans rfl) T.agg72 rfl rfl kq) ?_
     refine stw 12 (fun β0=>cell (gbk (β0 13)) [sl 1 intE ((ix (((trimS s).1).states) (((ix ql i).2).toNat)).accept),sl 1 intE ((ix (((trimS s).1).states) (((ix ql i).2).toNat)).next)]) [12] rfl (fun β β' hb=>by first|rw[hb 13 rfl]|(dsimp only;rw[hb 13 rfl])) (fun β0 _ _ _ _ gq gh kq=>sPA (cs':= [sl 1 intE ((ix (((trimS s).1).states) (((ix ql i).2).toNat)).accept),sl 1 intE ((ix (((trimS s).1).states) (((ix ql i).2).toNat)).next)]) (gq.1.trans rfl) (gh.1.trans rfl) (gq.2.1.trans rfl) T.agg72 rfl rfl kq) ?_
     refine pnH fun β0=>(nl (th (sq (rg (ag (nl (th (sq (sq (rg (fP rfl T.fld72_0 (lP rfl rfl rfl T.one63 (fc (slenI 87 rfl) fun hm87=>(lnF rfl T.sl63 (mv (nl (th (bk ?_))))))))))))))))))
     have hI2_0:0≤((ix (((trimS s).1).states) (((ix ql i).2).toNat)).accept).length:=by
      first|omega|simp
     have hI2_1:(0:Int)=orAll ((ix (trimS s).1.states (ix ql i).2.toNat).accept.take 0)∧0≤(0:Int)∧(0:Int)<256:=by
      exact⟨rfl,by omega,by omega⟩
     refine lp (κ:=Nat × Int) (fun p=> [(2,ptr 2 b2 0),(3,ptr 3 b3 0),(4,ptr 4 b4 0),(5,ptr 5 b5 0),(7,ptr 7 b7 0),(8,osl 55 v),(9,int (i:Int)),(11,ptr 11 (gbk (β0 12)) 0),(12,ptr 12 (gbk (β0 13)) 0),(13,int p.2),(87,sl 1 intE ((ix (((trimS s).1).states) (((ix ql i).2).toNat)).accept)),(88,int (((ix (((trimS s).1).states) (((ix ql i).2).toNat)).accept).length:Int)),(89,int (p.1:Int))]) (fun p=> [(2,cell b2 [sl 1 strE t.actions,sl 2 stateE t.states]),(3,cell b3 [sl 1 strE (((trimS s).1).actions),sl 2 stateE (((trimS s).1).states)]),(4,cell b4 [eqv (.slice none 0 0),eqv (.slice none 0 0)]),(5,cell b5 [sl 1 intE (subs t.actions.length),sl 1 intE nx0]),(7,cell b7 [sl 1 strE t.actions,osl 70 v7]),(10,cell b10 [int ((ix ql i).1),int ((ix ql i).2)]),(11,cell (gbk (β0 12)) [sl 1 intE ((ix t.states (((ix ql i).1).toNat)).accept),sl 1 intE ((ix t.states (((ix ql i).1).toNat)).next)]),(12,cell (gbk (β0 13)) [sl 1 intE ((ix (((trimS s).1).states) (((ix ql i).2).toNat)).accept),sl 1 intE ((ix (((trimS s).1).states) (((ix ql i).2).toNat)).next)]),(55,own v 78 2 pairE ql),(70,own v7 72 2 stateE outs)]) (fun p=>(p.1≤((ix (((trimS s).1).states) (((ix ql i).2).toNat)).accept).length)∧(p.2=orAll ((ix (trimS s).1.states (ix ql i).2.toNat).accept.take p.1)∧0≤p.2∧p.2<256)) (fun p=>((ix (((trimS s).1).states) (((ix ql i).2).toNat)).accept).length- p.1) ⟨0,(0:Int)⟩ ⟨hI2_0,hI2_1⟩ ⟨id,id,id,id,id,id,id,id,id,id,id,id,id,trivial⟩ ⟨⟨rfl,id⟩,⟨rfl,id⟩,⟨rfl,id⟩,⟨rfl,id⟩,⟨rfl,id⟩,⟨rfl,id⟩,⟨rfl,id⟩,⟨rfl,id⟩,⟨rfl,id⟩,⟨rfl,id⟩,trivial⟩ ?_
     intro⟨k2,us⟩ hG2
     obtain⟨hk2,hI2⟩:(k2≤((ix (((trimS s).1).states) (((ix ql i).2).toNat)).accept).length)∧(us=orAll ((ix (trimS s).1.states (ix ql i).2.toNat).accept.take k2)∧0≤us∧us<256):=hG2
     show Ct _ _ _ _ [(2,ptr 2 b2 0),(3,ptr 3 b3 0),(4,ptr 4 b4 0),(5,ptr 5 b5 0),(7,ptr 7 b7 0),(8,osl 55 v),(9,int (i:Int)),(11,ptr 11 (gbk (β0 12)) 0),(12,ptr 12 (gbk (β0 13)) 0),(13,int us),(87,sl 1 intE ((ix (((trimS s).1).states) (((ix ql i).2).toNat)).accept)),(88,int (((ix (((trimS s).1).states) (((ix ql i).2).toNat)).accept).length:Int)),(89,int (k2:Int))] [(2,cell b2 [sl 1 strE t.actions,sl 2 stateE t.states]),(3,cell b3 [sl 1 strE (((trimS s).1).actions),sl 2 stateE (((trimS s).1).states)]),(4,cell b4 [eqv (.slice none 0 0),eqv (.slice none 0 0)]),(5,cell b5 [sl 1 intE (subs t.actions.length),sl 1 intE nx0]),(7,cell b7 [sl 1 strE t.actions,osl 70 v7]),(10,cell b10 [int ((ix ql i).1),int ((ix ql i).2)]),(11,cell (gbk (β0 12)) [sl 1 intE ((ix t.states (((ix ql i).1).toNat)).accept),sl 1 intE ((ix t.states (((ix ql i).1).toNat)).next)]),(12,cell (gbk (β0 13)) [sl 1 intE ((ix (((trimS s).1).states) (((ix ql i).2).toNat)).accept),sl 1 intE ((ix (((trimS s).1).states) (((ix ql i).2).toNat)).next)]),(55,own v 78 2 pairE ql),(70,own v7 72 2 stateE outs)] _
     refine sq (rg (bi rfl rfl b_lss (nl (th (sq ?_)))))
     refine cd rfl (fun hc4=> ?_) (fun hc4=> ?_)
     ·try simp at hc4
      have hkb:=hzb k2 (by omega)
      refine sk (th (sq (bk (sq (rg (iF rfl rfl T.sl63 (by omega) (by first|exact gN (by omega)|exact gI (by omega) (by omega)) (lF rfl rfl T.one3 (ag (nl (th (rg (mv (mv (bi rfl rfl (b_orI (by omega) (by omega) (by omega) (by omega)) (ag (nl (eb (th (rg (bi rfl rfl (b_add (by unfold I64;omega)) (mv (nl ?_))))))))))))))))))))))
      have hN0:(k2+1)≤((ix (((trimS s).1).states) (((ix ql i).2).toNat)).accept).length:=by
       first|omega|simp_all
      have hN1:((us.toNat|||((ix ((ix (((trimS s).1).states) (((ix ql i).2).toNat)).accept) k2).toNat):Nat):Int)=orAll ((ix (trimS s).1.states (ix ql i).2.toNat).accept.take (k2+1))∧0≤((us.toNat|||((ix ((ix (((trimS s).1).states) (((ix ql i).2).toNat)).accept) k2).toNat):Nat):Int)∧((us.toNat|||((ix ((ix (((trimS s).1).states) (((ix ql i).2).toNat)).accept) k2).toNat):Nat):Int)<256:=by
       refine⟨?_,by omega,or_lt256 hI2.2.2 hkb.2⟩
       rw[take_s (by omega),orAll_snoc,←hI2.1]
      exact ln (⟨k2+1,((us.toNat|||((ix ((ix (((trimS s).1).states) (((ix ql i).2).toNat)).accept) k2).toNat):Nat):Int)⟩:Nat × Int) ⟨hN0,hN1⟩ (by first|omega|(dsimp only;omega)) ⟨id,id,id,id,id,id,id,id,id,id,id,id,id,trivial⟩ ⟨⟨rfl,id⟩,⟨rfl,id⟩,⟨rfl,id⟩,⟨rfl,id⟩,⟨rfl,id⟩,⟨rfl,id⟩,⟨rfl,id⟩,⟨rfl,id⟩,⟨rfl,id⟩,⟨rfl,id⟩,trivial⟩
     ·try simp at hc4
      refine ex (xt_ (xt_ (xb (th (sq (rg (al (key:=16) T.z72 (ex_cons (ex_cons (ex_nil))) fun b16=>(nl (th (sq (rg (ag (nl (th (sq (sq (rg (fP rfl T.fld72_0 (lP rfl rfl rfl T.one63 (fc (slenI 98 rfl) fun hm98=>(lnF rfl T.sl63 (mv (nl (th (bk ?_)))))))))))))))))))))))))
      refine nwC 160 3 1 intE (kncC 16 0 (osl 160 (.slice none 0 0)) rfl rfl eq_osl ?_)
      have hus:us=orAll (acc (trimS s).1 (ix ql i).2.toNat):=by rw[hI2.1,show k2=(ix (trimS s).1.states (ix ql i).2.toNat).accept.length by omega,List.take_length]
      have hI3_0:0≤(subs t.actions.length).length:=by
       first|omega|simp
      have hI3_1:([]:List Int)=((subs t.actions.length).take 0).filter (fitsB (ix t.states (ix ql i).1.toNat) (ix (trimS s).1.states (ix ql i).2.toNat))∧(0:Int)=orAll ([]:List Int)∧0≤(0:Int)∧(0:Int)<256:=by
       exact⟨rfl,rfl,by omega,by omega⟩
      refine lp (κ:=Nat × Value × (List Int) × Int) (fun p=> [(2,ptr 2 b2 0),(3,ptr 3 b3 0),(4,ptr 4 b4 0),(5,ptr 5 b5 0),(7,ptr 7 b7 0),(8,osl 55 v),(9,int (i:Int)),(11,ptr 11 (gbk (β0 12)) 0),(12,ptr 12 (gbk (β0 13)) 0),(13,int us),(16,ptr 16 b16 0),(17,int p.2.2.2),(98,sl 1 intE (subs t.actions.length)),(99,int ((subs t.actions.length).length:Int)),(100,int (p.1:Int))]) (fun p=> [(2,cell b2 [sl 1 strE t.actions,sl 2 stateE t.states]),(3,cell b3 [sl 1 strE (((trimS s).1).actions),sl 2 stateE (((trimS s).1).states)]),(4,cell b4 [eqv (.slice none 0 0),eqv (.slice none 0 0)]),(5,cell b5 [sl 1 intE (subs t.actions.length),sl 1 intE nx0]),(7,cell b7 [sl 1 strE t.actions,osl 70 v7]),(10,cell b10 [int ((ix ql i).1),int ((ix ql i).2)]),(11,cell (gbk (β0 12)) [sl 1 intE ((ix t.states (((ix ql i).1).toNat)).accept),sl 1 intE ((ix t.states (((ix ql i).1).toNat)).next)]),(12,cell (gbk (β0 13)) [sl 1 intE ((ix (((trimS s).1).states) (((ix ql i).2).toNat)).accept),sl 1 intE ((ix (((trimS s).1).states) (((ix ql i).2).toNat)).next)]),(16,cell b16 [osl 160 p.2.1,eqv (.slice none 0 0)]),(55,own v 78 2 pairE ql),(70,own v7 72 2 stateE outs),(160,own p.2.1 3 1 intE p.2.2.1)]) (fun p=>(p.1≤(subs t.actions.length).length)∧(p.2.2.1=((subs t.actions.length).take p.1).filter (fitsB (ix t.states (ix ql i).1.toNat) (ix (trimS s).1.states (ix ql i).2.toNat))∧p.2.2.2=orAll p.2.2.1∧0≤p.2.2.2∧p.2.2.2<256)) (fun p=>(subs t.actions.length).length- p.1) ⟨0,(.slice none 0 0),([]:List Int),(0:Int)⟩ ⟨hI3_0,hI3_1⟩ ⟨id,id,id,id,id,id,id,id,id,id,id,id,id,id,id,trivial⟩ ⟨⟨rfl,id⟩,⟨rfl,id⟩,⟨rfl,id⟩,⟨rfl,id⟩,⟨rfl,id⟩,⟨rfl,id⟩,⟨rfl,id⟩,⟨rfl,id⟩,⟨rfl,id⟩,⟨rfl,id⟩,⟨rfl,id⟩,⟨rfl,id⟩,trivial⟩ ?_
      intro⟨k3,v16,ac,cn⟩ hG3
      obtain⟨hk3,hI3⟩:(k3≤(subs t.actions.length).length)∧(ac=((subs t.actions.length).take k3).filter (fitsB (ix t.states (ix ql i).1.toNat) (ix (trimS s).1.states (ix ql i).2.toNat))∧cn=orAll ac∧0≤cn∧cn<256):=hG3
      show Ct _ _ _ _ [(2,ptr 2 b2 0),(3,ptr 3 b3 0),(4,ptr 4 b4 0),(5,ptr 5 b5 0),(7,ptr 7 b7 0),(8,osl 55 v),(9,int (i:Int)),(11,ptr 11 (gbk (β0 12)) 0),(12,ptr 12 (gbk (β0 13)) 0),(13,int us),(16,ptr 16 b16 0),(17,int cn),(98,sl 1 intE (subs t.actions.length)),(99,int ((subs t.actions.length).length:Int)),(100,int (k3:Int))] [(2,cell b2 [sl 1 strE t.actions,sl 2 stateE t.states]),(3,cell b3 [sl 1 strE (((trimS s).1).actions),sl 2 stateE (((trimS s).1).states)]),(4,cell b4 [eqv (.slice none 0 0),eqv (.slice none 0 0)]),(5,cell b5 [sl 1 intE (subs t.actions.length),sl 1 intE nx0]),(7,cell b7 [sl 1 strE t.actions,osl 70 v7]),(10,cell b10 [int ((ix ql i).1),int ((ix ql i).2)]),(11,cell (gbk (β0 12)) [sl 1 intE ((ix t.states (((ix ql i).1).toNat)).accept),sl 1 intE ((ix t.states (((ix ql i).1).toNat)).next)]),(12,cell (gbk (β0 13)) [sl 1 intE ((ix (((trimS s).1).states) (((ix ql i).2).toNat)).accept),sl 1 intE ((ix (((trimS s).1).states) (((ix ql i).2).toNat)).next)]),(16,cell b16 [osl 160 v16,eqv (.slice none 0 0)]),(55,own v 78 2 pairE ql),(70,own v7 72 2 stateE outs),(160,own v16 3 1 intE ac)] _
      have hacl:ac.length≤k3:=by rw[hI3.1];exact Nat.le_trans (List.length_filter_le _ _) (by simp;omega)
      refine sq (rg (bi rfl rfl b_lss (nl (th (sq ?_)))))
      refine cd rfl (fun hc5=> ?_) (fun hc5=> ?_)
      ·try simp at hc5
       have hub:=subs_get hn8 hc5
       refine sk (th (sq (bk (sq (rg (iF rfl rfl T.sl63 (by omega) (by first|exact gN (by omega)|exact gI (by omega) (by omega)) (lF rfl rfl T.one3 (ag (nl (th (sq (rg (lPA rfl rfl T.agg72 rfl (lPA rfl rfl T.agg72 rfl (mv (cal0 (φs:= [agg [sl 1 intE ((ix t.states (((ix ql i).1).toNat)).accept),sl 1 intE ((ix t.states (((ix ql i).1).toNat)).next)],agg [sl 1 intE ((ix (((trimS s).1).states) (((ix ql i).2).toNat)).accept),sl 1 intE ((ix (((trimS s).1).states) (((ix ql i).2).toNat)).next)],int (ix (subs t.actions.length) k3)]) (φ:=bl (fitsB (ix t.states (((ix ql i).1).toNat)) (ix (((trimS s).1).states) (((ix ql i).2).toNat)) (ix (subs t.actions.length) k3))) ⟨rfl,rfl,rfl,trivial⟩ (divs.fits_ok (ix t.states (((ix ql i).1).toNat)) (ix (((trimS s).1).states) (((ix ql i).2).toNat)) (ix (subs t.actions.length) k3) (by assumption) (by omega) (by omega)) T.ent46 (nl (th ?_))))))))))))))))))
       refine cd rfl (fun hc6=> ?_) (fun hc6=> ?_)
       ·try simp at hc6
        refine sq (rg (fP rfl T.fld72_0 (lP rfl rfl rfl T.one63 (mv (bsE (enc:=intE) (xs:= [(ix (subs t.actions.length) k3)]) (css:= [[int (ix (subs t.actions.length) k3)]]) T.mk63 ⟨rfl,rfl,p1 (φ:=int (ix (subs t.actions.length) k3)) rfl,trivial⟩ rfl rfl rfl rfl (ap (key:=160) (zs:= [(ix (subs t.actions.length) k3)]) osl_eq rfl rfl rfl T.mk63 (by unfold maxL at*;simp;omega) (by unfold maxL at*;simp;omega) fun v112=>(fP rfl T.fld72_0 (storePO rfl rfl rfl rfl T.one63 rfl (nl (th (rg (mv (mv (bi rfl rfl (b_orI (by omega) (by omega) (by omega) (by omega)) (ag (nl (eb (th (rg (bi rfl rfl (b_add (by unfold I64;omega)) (mv (nl ?_))))))))))))))))))))))
        have hN0:(k3+1)≤(subs t.actions.length).length:=by
         first|omega|simp_all
        have hN1:(ac++ [(ix (subs t.actions.length) k3)])=((subs t.actions.length).take (k3+1)).filter (fitsB (ix t.states (ix ql i).1.toNat) (ix (trimS s).1.states (ix ql i).2.toNat))∧((cn.toNat|||((ix (subs t.actions.length) k3).toNat):Nat):Int)=orAll (ac++ [(ix (subs t.actions.length) k3)])∧0≤((cn.toNat|||((ix (subs t.actions.length) k3).toNat):Nat):Int)∧((cn.toNat|||((ix (subs t.actions.length) k3).toNat):Nat):Int)<256:=by
         refine⟨?_,?_,by omega,or_lt256 hI3.2.2.2 hub.2⟩
         ·rw[take_s hc5,List.filter_append,←hI3.1]
          simp[hc6]
         ·rw[orAll_snoc,←hI3.2.1]
        exact ln (⟨k3+1,v112,ac++ [(ix (subs t.actions.length) k3)],((cn.toNat|||((ix (subs t.actions.length) k3).toNat):Nat):Int)⟩:Nat × Value × (List Int) × Int) ⟨hN0,hN1⟩ (by first|omega|(dsimp only;omega)) ⟨id,id,id,id,id,id,id,id,id,id,id,id,id,id,id,trivial⟩ ⟨⟨rfl,id⟩,⟨rfl,id⟩,⟨rfl,id⟩,⟨rfl,id⟩,⟨rfl,id⟩,⟨rfl,id⟩,⟨rfl,id⟩,⟨rfl,id⟩,⟨rfl,id⟩,⟨rfl,id⟩,⟨rfl,id⟩,⟨rfl,id⟩,trivial⟩
       ·try simp at hc6
        refine sk (eb (th (rg (bi rfl rfl (b_add (by unfold I64;omega)) (mv (nl ?_))))))
        have hN0:(k3+1)≤(subs t.actions.length).length:=by
         first|omega|simp_all
        have hN1:ac=((subs t.actions.length).take (k3+1)).filter (fitsB (ix t.states (ix ql i).1.toNat) (ix (trimS s).1.states (ix ql i).2.toNat))∧cn=orAll ac∧0≤cn∧cn<256:=by
         refine⟨?_,hI3.2.1,hI3.2.2.1,hI3.2.2.2⟩
         rw[take_s hc5,List.filter_append,←hI3.1]
         simp[hc6]
        exact ln (⟨k3+1,v16,ac,cn⟩:Nat × Value × (List Int) × Int) ⟨hN0,hN1⟩ (by first|omega|(dsimp only;omega)) ⟨id,id,id,id,id,id,id,id,id,id,id,id,id,id,id,trivial⟩ ⟨⟨rfl,id⟩,⟨rfl,id⟩,⟨rfl,id⟩,⟨rfl,id⟩,⟨rfl,id⟩,⟨rfl,id⟩,⟨rfl,id⟩,⟨rfl,id⟩,⟨rfl,id⟩,⟨rfl,id⟩,⟨rfl,id⟩,⟨rfl,id⟩,trivial⟩
      ·try simp at hc5
       refine ex (xt_ (xt_ (xb (th (sq (sq (rg (fP rfl T.fld25_0 (lP rfl rfl rfl T.one22 (lnF rfl T.sl22 (mv (nl (th (bk ?_))))))))))))))
       refine nwC 161 3 1 intE (kncC 16 1 (osl 161 (.slice none 0 0)) rfl rfl eq_osl ?_)
       have hac:ac=(qA t (trimS s).1 (ix ql i)):=by rw[hI3.1,show k3=(subs t.actions.length).length by omega,List.take_length];unfold qA;rw[if_neg hnb]
       have hcA:cn=orAll (qA t (trimS s).1 (ix ql i)):=by rw[hI3.2.1,hac]
       have hI4_0:0≤t.actions.length:=by
        first|omega|simp
       have hI4_1:RN t (trimS s).1 i ql 0 ql ([]:List Int):=by
        exact rn_zero hRW
       refine lp (κ:=Nat × Value × (List (Int × Int)) × Value × (List Int)) (fun p=> [(2,ptr 2 b2 0),(3,ptr 3 b3 0),(4,ptr 4 b4 0),(5,ptr 5 b5 0),(7,ptr 7 b7 0),(8,osl 55 p.2.1),(9,int (i:Int)),(11,ptr 11 (gbk (β0 12)) 0),(12,ptr 12 (gbk (β0 13)) 0),(13,int us),(16,ptr 16 b16 0),(17,int cn),(120,int (t.actions.length:Int)),(121,int (p.1:Int))]) (fun p=> [(2,cell b2 [sl 1 strE t.actions,sl 2 stateE t.states]),(3,cell b3 [sl 1 strE (((trimS s).1).actions),sl 2 stateE (((trimS s).1).states)]),(4,cell b4 [eqv (.slice none 0 0),eqv (.slice none 0 0)]),(5,cell b5 [sl 1 intE (subs t.actions.length),sl 1 intE nx0]),(7,cell b7 [sl 1 strE t.actions,osl 70 v7]),(10,cell b10 [int ((ix ql i).1),int ((ix ql i).2)]),(11,cell (gbk (β0 12)) [sl 1 intE ((ix t.states (((ix ql i).1).toNat)).accept),sl 1 intE ((ix t.states (((ix ql i).1).toNat)).next)]),(12,cell (gbk (β0 13)) [sl 1 intE ((ix (((trimS s).1).states) (((ix ql i).2).toNat)).accept),sl 1 intE ((ix (((trimS s).1).states) (((ix ql i).2).toNat)).next)]),(16,cell b16 [osl 160 v16,osl 161 p.2.2.2.1]),(55,own p.2.1 78 2 pairE p.2.2.1),(70,own v7 72 2 stateE outs),(160,own v16 3 1 intE ac),(161,own p.2.2.2.1 3 1 intE p.2.2.2.2)]) (fun p=>(p.1≤t.actions.length)∧(RN t (trimS s).1 i ql p.1 p.2.2.1 p.2.2.2.2)) (fun p=>t.actions.length- p.1) ⟨0,v,ql,(.slice none 0 0),([]:List Int)⟩ ⟨hI4_0,hI4_1⟩ ⟨id,id,id,id,id,id,id,id,id,id,id,id,id,id,trivial⟩ ⟨⟨rfl,id⟩,⟨rfl,id⟩,⟨rfl,id⟩,⟨rfl,id⟩,⟨rfl,id⟩,⟨rfl,id⟩,⟨rfl,id⟩,⟨rfl,id⟩,⟨rfl,id⟩,⟨rfl,id⟩,⟨rfl,id⟩,⟨rfl,id⟩,⟨rfl,id⟩,trivial⟩ ?_
       intro⟨k4,v2,l2,v161,nx⟩ hG4
       obtain⟨hk4,hI4⟩:(k4≤t.actions.length)∧(RN t (trimS s).1 i ql k4 l2 nx):=hG4
       show Ct _ _ _ _ [(2,ptr 2 b2 0),(3,ptr 3 b3 0),(4,ptr 4 b4 0),(5,ptr 5 b5 0),(7,ptr 7 b7 0),(8,osl 55 v2),(9,int (i:Int)),(11,ptr 11 (gbk (β0 12)) 0),(12,ptr 12 (gbk (β0 13)) 0),(13,int us),(16,ptr 16 b16 0),(17,int cn),(120,int (t.actions.length:Int)),(121,int (k4:Int))] [(2,cell b2 [sl 1 strE t.actions,sl 2 stateE t.states]),(3,cell b3 [sl 1 strE (((trimS s).1).actions),sl 2 stateE (((trimS s).1).states)]),(4,cell b4 [eqv (.slice none 0 0),eqv (.slice none 0 0)]),(5,cell b5 [sl 1 intE (subs t.actions.length),sl 1 intE nx0]),(7,cell b7 [sl 1 strE t.actions,osl 70 v7]),(10,cell b10 [int ((ix ql i).1),int ((ix ql i).2)]),(11,cell (gbk (β0 12)) [sl 1 intE ((ix t.states (((ix ql i).1).toNat)).accept),sl 1 intE ((ix t.states (((ix ql i).1).toNat)).next)]),(12,cell (gbk (β0 13)) [sl 1 intE ((ix (((trimS s).1).states) (((ix ql i).2).toNat)).accept),sl 1 intE ((ix (((trimS s).1).states) (((ix ql i).2).toNat)).next)]),(16,cell b16 [osl 160 v16,osl 161 v161]),(55,own v2 78 2 pairE l2),(70,own v7 72 2 stateE outs),(160,own v16 3 1 intE ac),(161,own v161 3 1 intE nx)] _
       have hnl4:=rn_len hI4
       have hlf4:=rn_few hI4
       refine sq (rg (bi rfl rfl b_lss (nl (th (sq ?_)))))
       refine cd rfl (fun hc7=> ?_) (fun hc7=> ?_)
       ·try simp at hc7
        have hu2:has us (k4:Int)=true↔0≤ix (nxt (trimS s).1 (ix ql i).2.toNat) k4:=by rw[hus];exact used_has hU (by omega) (by omega)
        refine sk (th (sq (bk (sq (rg (mv (ag (nl (th (sq (rg (ag (nl (th (sq (sq (rg (mv (mv (cal0 (φs:= [int cn,int (k4:Int)]) (φ:=bl (has cn (k4:Int))) ⟨rfl,rfl,trivial⟩ (ref01.Has_ok _ _ (by omega) (by omega) (by omega) (by omega)) T.ent47 (mv ?_)))))))))))))))))))))
        apply gAnd (t:=127) (pd:=132) rfl
        rotate_left
        ·intro hg0 fin
         have hg0':=hg0
         try simp at hg0'
         exact gy rfl rfl rfl hg0 (mv (gy rfl rfl rfl hg0 (mv (gy rfl rfl rfl hg0 (cal0 (φs:= [int us,int (k4:Int)]) (φ:=bl (has us (k4:Int))) ⟨rfl,rfl,trivial⟩ (ref01.Has_ok _ _ (by omega) (by omega) (by omega) (by omega)) T.ent47 (gy rfl rfl rfl hg0 (no rfl (pkT rfl hg0 rfl (drp (X:= [(131,_),(130,_),(129,_),(128,_)]) ⟨rfl,rfl,rfl,rfl,trivial⟩ (fin))))))))))
        ·intro hg0 fin
         exact gn rfl rfl rfl hg0 rfl rfl (gn rfl rfl rfl hg0 rfl rfl (gn rfl rfl rfl hg0 rfl rfl (gn rfl rfl rfl hg0 rfl rfl (pkF rfl hg0 rfl (drp (X:= [(131,_),(130,_),(129,_),(128,_)]) ⟨rfl,rfl,rfl,rfl,trivial⟩ (fin))))))
        refine nl (th ?_)
        refine cd rfl (fun hc8=> ?_) (fun hc8=> ?_)
        ·try simp at hc8
         have hh:has (orAll (qA t (trimS s).1 (ix ql i))) (k4:Int)=true:=by rw[←hcA];exact hc8.1
         refine rg (ag (nl (th (rg (fP rfl T.fld72_1 (lP rfl rfl rfl T.one63 (mv (bsE (enc:=intE) (xs:= [1]) (css:= [[int 1]]) T.mk63 ⟨rfl,rfl,p1 (φ:=int 1) rfl,trivial⟩ rfl rfl rfl rfl (ap (key:=161) (zs:= [1]) osl_eq rfl rfl rfl T.mk63 (by unfold maxL at*;simp;omega) (by unfold maxL at*;simp;omega) fun v156=>(fP rfl T.fld72_1 (storePO rfl rfl rfl rfl T.one63 rfl (nl (eb (th (rg (bi rfl rfl (b_add (by unfold I64;omega)) (mv (nl ?_))))))))))))))))))
         have hN0:(k4+1)≤t.actions.length:=by
          first|omega|simp_all
         have hN1:RN t (trimS s).1 i ql (k4+1) l2 (nx++ [1]):=by
          exact rn_bes hRW hI4 hh (by unfold qN;rw[if_neg];rintro⟨_,g⟩;have h:=hu2.2 g;simp[h] at hc8)
         exact ln (⟨k4+1,v2,l2,v156,nx++ [1]⟩:Nat × Value × (List (Int × Int)) × Value × (List Int)) ⟨hN0,hN1⟩ (by first|omega|(dsimp only;omega)) ⟨id,id,id,id,id,id,id,id,id,id,id,id,id,id,trivial⟩ ⟨⟨rfl,id⟩,⟨rfl,id⟩,⟨rfl,id⟩,⟨rfl,id⟩,⟨rfl,id⟩,⟨rfl,id⟩,⟨rfl,id⟩,⟨rfl,id⟩,⟨rfl,id⟩,⟨rfl,id⟩,⟨rfl,id⟩,⟨rfl,id⟩,⟨rfl,id⟩,trivial⟩
        ·try simp at hc8
         refine sq (rg (mv (mv (cal0 (φs:= [int cn,int (k4:Int)]) (φ:=bl (has cn (k4:Int))) ⟨rfl,rfl,trivial⟩ (ref01.Has_ok _ _ (by omega) (by omega) (by omega) (by omega)) T.ent47 (nl (th ?_))))))
         refine cd rfl (fun hc9=> ?_) (fun hc9=> ?_)
         ·try simp at hc9
          have hh:has (orAll (qA t (trimS s).1 (ix ql i))) (k4:Int)=true:=by rw[←hcA];exact hc9
          refine drH (nh:=18) [0,0,2,0,14,30,0,64,0,448,960,2046,4095,8191,16383,16383,32767,131071] [(none,[]),(none,[]),(none,[11]),(none,[]),(none,[]),(none,[]),(none,[]),(none,[12]),(none,[]),(none,[]),(none,[]),(none,[]),(some 55,[55]),(none,[]),(none,[]),(none,[]),(none,[]),(none,[])] T.mixed (by kernel_rfl) (by kernel_rfl) ?_
          refine stv (d:=137) (fun β1=>osl 55 v2) [] rfl (fun β β' hb=>rfl) (fun β1 _ _ _ _ gq gh kq=>mv' (gq.1.trans rfl) kq) ?_
          refine stv (d:=138) (fun β1=>ptr 11 (gbk (β0 12)) 1) [] rfl (fun β β' hb=>rfl) (fun β1 _ _ _ _ gq gh kq=>fP (gq.1.trans rfl) T.fld72_1 kq) ?_
          refine stv (d:=139) (fun β1=>sl 1 intE ((ix t.states (((ix ql i).1).toNat)).next)) [11] rfl (fun β β' hb=>rfl) (fun β1 _ _ _ _ gq gh kq=>lP (gq.1.trans rfl) (gh.1.trans rfl) rfl T.one63 kq) ?_
          refine stv (d:=140) (fun β1=>int (k4:Int)) [] rfl (fun β β' hb=>rfl) (fun β1 _ _ _ _ gq gh kq=>mv' (gq.1.trans rfl) kq) ?_
          refine stv (d:=141) (fun β1=>fp [int (ix ((ix t.states (((ix ql i).1).toNat)).next) k4)]) [] rfl (fun β β' hb=>rfl) (fun β1 _ _ _ _ gq gh kq=>iF (gq.1.trans rfl) (gq.2.1.trans rfl) T.sl63 (by omega) (by first|exact gN (by omega)|exact gI (by omega) (by omega)) kq) ?_
          refine stv (d:=142) (fun β1=>int (ix ((ix t.states (((ix ql i).1).toNat)).next) k4)) [] rfl (fun β β' hb=>rfl) (fun β1 _ _ _ _ gq gh kq=>lF (gq.1.trans rfl) rfl T.one3 kq) ?_
          refine stv (d:=143) (fun β1=>ptr 12 (gbk (β0 13)) 1) [] rfl (fun β β' hb=>rfl) (fun β1 _ _ _ _ gq gh kq=>fP (gq.1.trans rfl) T.fld72_1 kq) ?_
          refine stv (d:=144) (fun β1=>sl 1 intE ((ix (((trimS s).1).states) (((ix ql i).2).toNat)).next)) [12] rfl (fun β β' hb=>rfl) (fun β1 _ _ _ _ gq gh kq=>lP (gq.1.trans rfl) (gh.1.trans rfl) rfl T.one63 kq) ?_
          refine stv (d:=145) (fun β1=>int (k4:Int)) [] rfl (fun β β' hb=>rfl) (fun β1 _ _ _ _ gq gh kq=>mv' (gq.1.trans rfl) kq) ?_
          refine stv (d:=146) (fun β1=>fp [int (ix ((ix (((trimS s).1).states) (((ix ql i).2).toNat)).next) k4)]) [] rfl (fun β β' hb=>rfl) (fun β1 _ _ _ _ gq gh kq=>iF (gq.1.trans rfl) (gq.2.1.trans rfl) T.sl63 (by omega) (by first|exact gN (by omega)|exact gI (by omega) (by omega)) kq) ?_
          refine stv (d:=147) (fun β1=>int (ix ((ix (((trimS s).1).states) (((ix ql i).2).toNat)).next) k4)) [] rfl (fun β β' hb=>rfl) (fun β1 _ _ _ _ gq gh kq=>lF (gq.1.trans rfl) rfl T.one3 kq) ?_
          refine stv (d:=148) (fun β1=>agg [int (ix ((ix t.states (((ix ql i).1).toNat)).next) k4),int (ix ((ix (((trimS s).1).states) (((ix ql i).2).toNat)).next) k4)]) [] rfl (fun β β' hb=>rfl) (fun β1 _ _ _ _ gq gh kq=>bd (css:= [(0,_),(1,_)]) T.st78 (ex_cons (ex_cons (ex_nil))) ⟨rfl,rfl,p1 (φ:=int (ix ((ix t.states (((ix ql i).1).toNat)).next) k4)) (by exact(gq.1.trans rfl)),⟨rfl,rfl,p1 (φ:=int (ix ((ix (((trimS s).1).states) (((ix ql i).2).toNat)).next) k4)) (by exact(gq.2.1.trans rfl)),trivial⟩⟩ kq) ?_
          refine sty (d:=149) (e:=78) (n:=2) (enc:=pairE) (xs:=pushL l2 (ix ((ix t.states (((ix ql i).1).toNat)).next) k4,ix ((ix (((trimS s).1).states) (((ix ql i).2).toNat)).next) k4)) 55 [55] (fun v=>tup [int ((pix l2 (ix ((ix t.states (((ix ql i).1).toNat)).next) k4,ix ((ix (((trimS s).1).states) (((ix ql i).2).toNat)).next) k4):Nat):Int),osl 55 v]) rfl (fun β1 _ _ _ _ gq gh kq=>cal (Hi:= [(55,own v2 78 2 pairE l2)]) (φs:= [osl 55 v2,agg [int (ix ((ix t.states (((ix ql i).1).toNat)).next) k4),int (ix ((ix (((trimS s).1).states) (((ix ql i).2).toNat)).next) k4)]]) ⟨(gq.1.trans rfl),(gq.2.1.trans rfl),trivial⟩ (divp.place_ok l2 (ix ((ix t.states (((ix ql i).1).toNat)).next) k4,ix ((ix (((trimS s).1).states) (((ix ql i).2).toNat)).next) k4) v2 (by omega)) T.ent48 (subh1 (gh.1.trans rfl)) fun N v=>outdup (kq v)) ?_
          refine stv (d:=136) (fun β1=>tup [int ((pix l2 (ix ((ix t.states (((ix ql i).1).toNat)).next) k4,ix ((ix (((trimS s).1).states) (((ix ql i).2).toNat)).next) k4):Nat):Int),osl 55 (sv (β1 12))]) [] rfl (fun β β' hb=>by first|rw[hb 12 rfl]|(dsimp only;rw[hb 12 rfl])) (fun β1 _ _ _ _ gq gh kq=>mv' (gq.1.trans rfl) kq) ?_
          refine stv (d:=150) (fun β1=>int ((pix l2 (ix ((ix t.states (((ix ql i).1).toNat)).next) k4,ix ((ix (((trimS s).1).states) (((ix ql i).2).toNat)).next) k4):Nat):Int)) [] rfl (fun β β' hb=>rfl) (fun β1 _ _ _ _ gq gh kq=>xt (gq.1.trans rfl) rfl kq) ?_
          refine stv (d:=151) (fun β1=>osl 55 (sv (β1 12))) [] rfl (fun β β' hb=>by first|rw[hb 12 rfl]|(dsimp only;rw[hb 12 rfl])) (fun β1 _ _ _ _ gq gh kq=>xt (gq.1.trans rfl) rfl kq) ?_
          refine stv (d:=21) (fun β1=>int ((pix l2 (ix ((ix t.states (((ix ql i).1).toNat)).next) k4,ix ((ix (((trimS s).1).states) (((ix ql i).2).toNat)).next) k4):Nat):Int)) [] rfl (fun β β' hb=>rfl) (fun β1 _ _ _ _ gq gh kq=>ag' (gq.1.trans rfl) kq) ?_
          refine stv (d:=8) (fun β1=>osl 55 (sv (β1 12))) [] rfl (fun β β' hb=>by first|rw[hb 12 rfl]|(dsimp only;rw[hb 12 rfl])) (fun β1 _ _ _ _ gq gh kq=>ag' (gq.1.trans rfl) kq) ?_
          refine pnH fun β1=>(nl (th (rg (fP rfl T.fld72_1 (lP rfl rfl rfl T.one63 (mv (bsE (enc:=intE) (xs:= [((pix l2 (ix ((ix t.states (((ix ql i).1).toNat)).next) k4,ix ((ix (((trimS s).1).states) (((ix ql i).2).toNat)).next) k4):Nat):Int)]) (css:= [[int ((pix l2 (ix ((ix t.states (((ix ql i).1).toNat)).next) k4,ix ((ix (((trimS s).1).states) (((ix ql i).2).toNat)).next) k4):Nat):Int)]]) T.mk63 ⟨rfl,rfl,p1 (φ:=int ((pix l2 (ix ((ix t.states (((ix ql i).1).toNat)).next) k4,ix ((ix (((trimS s).1).states) (((ix ql i).2).toNat)).next) k4):Nat):Int)) rfl,trivial⟩ rfl rfl rfl rfl (ap (key:=161) (zs:= [((pix l2 (ix ((ix t.states (((ix ql i).1).toNat)).next) k4,ix ((ix (((trimS s).1).states) (((ix ql i).2).toNat)).next) k4):Nat):Int)]) osl_eq rfl rfl rfl T.mk63 (by unfold maxL at*;simp;omega) (by unfold maxL at*;simp;omega) fun v156=>(fP rfl T.fld72_1 (storePO rfl rfl rfl rfl T.one63 rfl (nl (eb (th (rg (bi rfl rfl (b_add (by unfold I64;omega)) (mv (nl ?_)))))))))))))))))
          have hN0:(k4+1)≤t.actions.length:=by
                      first|omega|simp_all
          have hN1:RN t (trimS s).1 i ql (k4+1) (pushL l2 (ix ((ix t.states (((ix ql i).1).toNat)).next) k4,ix ((ix (((trimS s).1).states) (((ix ql i).2).toNat)).next) k4)) (nx++ [((pix l2 (ix ((ix t.states (((ix ql i).1).toNat)).next) k4,ix ((ix (((trimS s).1).states) (((ix ql i).2).toNat)).next) k4):Nat):Int)]):=by
                      have hN:qN t (trimS s).1 (ix ql i) k4=(ix (ix t.states (ix ql i).1.toNat).next k4,ix (ix (trimS s).1.states (ix ql i).2.toNat).next k4):=by
                       unfold qN
                       rw[if_pos ⟨hnb,hu2.1 (hc8 hc9)⟩]
                      have h9:=rn_place hI4 hh (qN_ok ht hT hU hTa (hRW.ok _ (ix_memS hc2)) hh) (v:=_) rfl
                      rw[pix_push,hN] at h9
                      exact h9
          exact ln (⟨k4+1,(sv (β1 12)),pushL l2 (ix ((ix t.states (((ix ql i).1).toNat)).next) k4,ix ((ix (((trimS s).1).states) (((ix ql i).2).toNat)).next) k4),v156,nx++ [((pix l2 (ix ((ix t.states (((ix ql i).1).toNat)).next) k4,ix ((ix (((trimS s).1).states) (((ix ql i).2).toNat)).next) k4):Nat):Int)]⟩:Nat × Value × (List (Int × Int)) × Value × (List Int)) ⟨hN0,hN1⟩ (by first|omega|(dsimp only;omega)) ⟨id,id,id,id,id,id,id,id,id,id,id,id,id,id,trivial⟩ ⟨⟨rfl,id⟩,⟨rfl,id⟩,⟨rfl,id⟩,⟨rfl,id⟩,⟨rfl,id⟩,⟨rfl,id⟩,⟨rfl,id⟩,⟨rfl,id⟩,⟨rfl,id⟩,⟨rfl,id⟩,⟨rfl,id⟩,⟨rfl,id⟩,⟨rfl,id⟩,trivial⟩
         ·try simp at hc9
          have hh:has (orAll (qA t (trimS s).1 (ix ql i))) (k4:Int)=false:=by rw[←hcA];simpa using hc9
          refine sk (th (rg (fP rfl T.fld72_1 (lP rfl rfl rfl T.one63 (mv (bsE (enc:=intE) (xs:= [(-1)]) (css:= [[int (-1)]]) T.mk63 ⟨rfl,rfl,p1 (φ:=int (-1)) rfl,trivial⟩ rfl rfl rfl rfl (ap (key:=161) (zs:= [(-1)]) osl_eq rfl rfl rfl T.mk63 (by unfold maxL at*;simp;omega) (by unfold maxL at*;simp;omega) fun v156=>(fP rfl T.fld72_1 (storePO rfl rfl rfl rfl T.one63 rfl (nl (eb (th (rg (bi rfl rfl (b_add (by unfold I64;omega)) (mv (nl ?_))))))))))))))))
          have hN0:(k4+1)≤t.actions.length:=by
                      first|omega|simp_all
          have hN1:RN t (trimS s).1 i ql (k4+1) l2 (nx++ [(-1)]):=by
                      exact rn_none hI4 hh
          exact ln (⟨k4+1,v2,l2,v156,nx++ [(-1)]⟩:Nat × Value × (List (Int × Int)) × Value × (List Int)) ⟨hN0,hN1⟩ (by first|omega|(dsimp only;omega)) ⟨id,id,id,id,id,id,id,id,id,id,id,id,id,id,trivial⟩ ⟨⟨rfl,id⟩,⟨rfl,id⟩,⟨rfl,id⟩,⟨rfl,id⟩,⟨rfl,id⟩,⟨rfl,id⟩,⟨rfl,id⟩,⟨rfl,id⟩,⟨rfl,id⟩,⟨rfl,id⟩,⟨rfl,id⟩,⟨rfl,id⟩,⟨rfl,id⟩,trivial⟩
       ·try simp at hc7
        refine ex (xt_ (xt_ (xb (th (rg (fP rfl T.fld25_1 (lP rfl rfl rfl T.one23 (fzc 16 160 0 rfl rfl rfl rfl (fzc 16 161 1 rfl rfl rfl rfl (lPA rfl rfl T.agg72 rfl (bsE (enc:=stateE) (xs:= [(⟨ac,nx⟩)]) (css:= [[sl 1 intE ac,sl 1 intE nx]]) T.mk23 ⟨rfl,rfl,pA (cs:= [sl 1 intE ac,sl 1 intE nx]) rfl,trivial⟩ rfl rfl rfl rfl (ap (key:=70) (zs:= [(⟨ac,nx⟩)]) osl_eq rfl rfl rfl T.mk23 (by unfold maxL at*;simp;omega) (by unfold maxL at*;simp;omega) fun v163=>(fP rfl T.fld25_1 (storePO rfl rfl rfl rfl T.one23 rfl (nl (eb (th (rg (mv (bi rfl rfl (b_add (by unfold I64;omega)) (ag (nl ?_))))))))))))))))))))))
        have hN0:RW t (trimS s).1 (i+1) l2 (outs++ [(⟨ac,nx⟩)]):=by
         rw[show k4=t.actions.length by omega] at hI4
         rw[hac]
         exact rw_next hn8 hRW hI4 hc2
        exact ln (⟨i+1,v2,l2,v163,outs++ [(⟨ac,nx⟩)]⟩:Nat × Value × (List (Int × Int)) × Value × (List SState)) hN0 (by omega) ⟨id,id,id,id,id,id,id,trivial⟩ ⟨⟨rfl,id⟩,⟨rfl,id⟩,⟨rfl,id⟩,⟨rfl,id⟩,⟨rfl,id⟩,⟨rfl,id⟩,⟨rfl,id⟩,trivial⟩
   ·try simp at hc2
    refine ex (xt_ (xt_ (xb (th (sq (rg (fzc 7 70 1 rfl rfl rfl rfl (lPA rfl rfl T.agg25 rfl (sPA (cs':= [sl 1 strE t.actions,sl 2 stateE outs]) rfl rfl rfl T.agg25 rfl rfl (nl (th (rt ?_))))))))))))
    exact rE ⟨⟨t.actions,outs⟩,rw_done ht hs h00 hRW (by omega)⟩ [.cell 4 25] rfl [agg [sl 1 strE t.actions,sl 2 stateE outs]] ⟨.agg rfl rfl T.agg25 rfl rfl,trivial⟩ (rfl) trivial (by first|exact .inr rfl|exact .inl rfl)
end divm
end Go.Proofs.YtcjemmihcplgdaaGreat
namespace Go.Proofs.YtcjemmihcplgdaaGreat
open AL Go
set_option maxRecDepth 100000
set_option linter.all false
namespace PartM
open ref01 ref03 ref04 ref06 prog15 starts Part Rungs LeftM TrimM RoundM MergeM BisM BisM4 BisM5 BisM6 WalkM StepM WitM JudgM JudgM2 divr divs divd dive divg divw divv refj sysw ChsM BisS TrimI ValidM WitSat WitVal FailM FitM
open QuoM (subs qA qN bes)
theorem path_in {T:SSpec} {w:List Int} {u:Int} {p:PP} (h:p∈pathL T w u):(p.2=u)∨∃j,j<w.length∧p.2=leadI (ix T.states p.1.toNat) (ix w j):=by
 unfold pathL at h
 rcases List.mem_append.1 h with g|g
 ·obtain⟨j,hj,rfl⟩:=List.mem_map.1 g
  exact .inr ⟨j,List.mem_range.1 hj,rfl⟩
 ·rw[List.mem_singleton.1 g];exact .inl rfl
theorem sat_trim {m:SSys} {s:SSpec} (hs:okSpec s) (h:SatM m (trimS s).1):SatM m s:=by
 unfold SatM at h ⊢
 rw[sat_solid (trim_ok hs) (off_ok m)] at h
 rw[sat_solid hs (off_ok m)]
 exact sat_sim h (sim_trim hs)
theorem part_ok {x:SSys} {t s:SSpec} (hx:okSys x) (ht:okSpec t) (hs:okSpec s) (hts:t.actions=s.actions) (hxt:x.actions=t.actions) (hb:x.states.length*(t.states.length*s.states.length)+s.states.length+1≤5000) {v:Bool × SSys} (hv:JdgOK x t s v) (e:v.1=false):
 sysOK v.2=true∧v.2.actions=s.actions∧SatM v.2 s∧¬WellT v.2 x t:=by
 obtain⟨h0,q,i,u,hq,hi,hu,hn,hm⟩:=hv.no e
 have ets:(trimS s).1=tS s:=by rw[trimmed_not h0]
 have hT:okSpec (tS s):=tS_ok hs
 have hU:LevM.Used (tS s):=by rw[←ets];exact trim_used hs
 have hxa:x.actions.length=(tS s).actions.length:=by show x.actions.length=s.actions.length;rw[hxt,hts]
 have hne:∀y,y<(tS s).states.length→0<(acc (tS s) y).length:=fun y hy=>tS_ne hs h0 hy
 have htl:(tS s).states.length≤s.states.length:=by have:=trim_len hs;rwa [ets] at this
 have hql:q.length≤x.states.length*(t.states.length*s.states.length):=by
  have h1:=qf_len hx ht hT hU hxa hq
  exact Nat.le_trans h1 (Nat.mul_le_mul_left _ (Nat.mul_le_mul_left _ htl))
 have hruns:=(qf_runs hx ht hT hU hxa hq i hi).1
 have hal:=hruns.alive hT
 have hgo:=hruns.go hT
 have hwl:=wordTo_len (qf_back hq) i (by simpa using hi)
 have hwl:(wordF q i).length≤i:=hwl
 have hw:Wants (tS s) (pathL (tS s) (wordF q i) u):=⟨pathL_mem hT hal (by rw[hgo,Int.toNat_natCast];exact hu),hne,by rw[pathL_len];omega⟩
 have hsat:=wit_sat hT hw (want_zero _ _ _) hm
 refine⟨?_,?_,sat_trim hs (by rw[ets];exact hsat),part_bad hx ht hT hU hxa hne hq (by omega) hi hu hn hm⟩
 ·obtain⟨ss,qq,mm,hss,hW,ha⟩:=hm
  have hqq:qq.length≤(tS s).states.length+(pathL (tS s) (wordF q i) u).length:=wq_len hW.wq hss
  rw[pathL_len] at hqq
  refine wit_valid (K:=10) hT hw hss hW ha (fun y hy=> ?_) (by omega) (by omega)
  have hin:∀z∈ix ss y,z∈ix (acc (tS s) y) 0::u::(List.range 8).map fun(a:Nat)=>leadI (ix (tS s).states y) (a:Int):=fun z hz=>by
   rcases(hss.mem y hy z).1 hz with g|g
   ·rw[g];exact List.mem_cons_self
   ·refine List.mem_cons_of_mem _ ?_
    rcases path_in g with g2|⟨j,hj,g2⟩
    ·have g2:z=u:=g2
     rw[g2];exact List.mem_cons_self
    ·refine List.mem_cons_of_mem _ ?_
     have g2:z=leadI (ix (tS s).states ((y:Int)).toNat) (ix (wordF q i) j):=g2
     rw[Int.toNat_natCast] at g2
     have hact:=alive_act hT hal hj
     have h8:=hT.n8
     refine List.mem_map.2 ⟨(ix (wordF q i) j).toNat,List.mem_range.2 (by omega),?_⟩
     rw[g2,Int.toNat_of_nonneg hact.1]
  have:=List.Nodup.length_le_of_subset (hss.nd y hy) hin
  simpa using this
 ·obtain⟨_,_,_,_,_,ha⟩:=hm
  exact ha
def x0S:SSys:=⟨[⟨#[97]⟩,⟨#[98]⟩],[[]]⟩
theorem goal_valid:specOK goalS=true:=by decide+kernel
theorem part_valid:specOK partS=true:=by decide+kernel
theorem x0_valid:sysOK x0S=true:=by decide+kernel
theorem goal_ok:okSpec goalS:=okSpec_of goal_valid
theorem part_okS:okSpec partS:=okSpec_of part_valid
theorem gp_fine:fineE goalS partS=0:=by
 unfold fineE
 rw[if_pos ⟨goal_valid,part_valid⟩,if_pos (show goalS.actions=partS.actions from rfl)]
theorem xgp_fine:fineX x0S goalS partS=0:=by
 unfold fineX
 rw[if_pos x0_valid,if_pos gp_fine,if_pos (show x0S.actions=goalS.actions from rfl)]
theorem not_hol {s:SSpec} (hl:0<s.states.length) (ha:0<(ix s.states 0).accept.length) (hn:∀a,a<(ix s.states 0).next.length→ix (ix s.states 0).next a≤0) (h0:∃u∈(ix s.states 0).accept,True):ix (hollow s) 0=false:=by
 cases e:ix (hollow s) 0 with
 |false=>rfl
 |true=>
  exfalso
  refine(hollow_ix hl).1 e (fun y=>y≠0) (fun y hy hc=> ?_) rfl
  intro ey
  subst ey
  obtain⟨a,h1,h2,_,h4⟩:=hc 0 ha
  have:=hn a h1
  exact h4 (by omega)
theorem part_not:ix (hollow partS) 0=false:=not_hol (by decide) (by decide) (by decide) ⟨1,by decide,trivial⟩
theorem goal_not:ix (hollow goalS) 0=false:=not_hol (by decide) (by decide) (by decide) ⟨1,by decide,trivial⟩
theorem part_trim:(trimS partS).1=partS:=by
 have hs:=part_okS
 have hn:=part_not
 have ho:ordS partS= [0]:=by
  have h1:(ordS partS).length≤1:=ord_le hs
  have h2:=ordS_pos partS
  have h3:=BisM2.ord_zero partS
  match hq:ordS partS,h1,h2,h3 with
  | [y],_,_,h3=>rw[show y=0 from h3]
 have hk:keep partS 0= [1,3]:=by
  rw[keep_filter hn]
  refine List.filter_eq_self.2 fun u hu=> ?_
  rw[Bool.not_eq_true']
  cases hf:falls (ix partS.states 0) u (hollow partS) with
  |false=>rfl
  |true=>
   obtain⟨a,ha,_,_,hv⟩:=falls_iff.1 hf
   have h0:∀a,a<(ix partS.states 0).next.length→ix (ix partS.states 0).next a=0:=by decide
   rw[h0 a ha] at hv
   rw[show(0:Int).toNat=0 from rfl,hn] at hv;cases hv
 rw[trimmed_not hn]
 show(⟨partS.actions,(ordS partS).map (tstate partS)⟩:SSpec)=partS
 rw[ho]
 show(⟨partS.actions,[tstate partS 0]⟩:SSpec)=partS
 unfold tstate tnext
 rw[show(0:Int).toNat=0 from rfl,hk,ho]
 decide
theorem gp_A:qA goalS partS (0,0)= [1]:=by decide
theorem gp_ref:DivM.RefQ goalS partS goalS:=by
 refine⟨rfl,fun h=>(by rw[part_not] at h;cases h),fun _=>⟨[(0,0)],?_,by decide⟩⟩
 rw[part_trim]
 refine⟨rfl,by decide,by decide,rfl,fun i hi=> ?_,fun i hi=> ?_,fun i hi a ha=> ?_,fun i hi a ha hh=> ?_⟩
 ·obtain rfl:i=0:=by have hi:i<1:=hi;omega
  show _=qA goalS partS (0,0)
  rw[gp_A];rfl
 ·obtain rfl:i=0:=by have hi:i<1:=hi;omega
  rfl
 ·obtain rfl:i=0:=by have hi:i<1:=hi;omega
  have hA:qA goalS partS (ix [((0,0):PP)] 0)= [1]:=gp_A
  rw[hA]
  have ha:a<2:=ha
  match a,ha with
  |0,_=>decide
  |1,_=>decide
 ·obtain rfl:i=0:=by have hi:i<1:=hi;omega
  have hA:qA goalS partS (ix [((0,0):PP)] 0)= [1]:=gp_A
  rw[hA] at hh
  have ha:a<2:=ha
  match a,ha,hh with
  |0,_,_=>decide
  |1,_,hh=>exact absurd hh (by decide)
theorem gp_large:largeB goalS partS=false:=by decide
theorem gp_quo:(DivM.quoS goalS partS).2=true:=by
 cases e:(DivM.quoS goalS partS).2 with
 |true=>rfl
 |false=>
  have:=DivM.quo_large goal_ok part_okS rfl e
  rw[gp_large] at this;cases this
theorem gp_div:(DivM.divS goalS partS).2=0∧fineR (DivM.divS goalS partS).1 goalS=true:=by
 have hS:=DivM.quo_same goal_ok part_okS rfl gp_ref (by decide) gp_quo
 have e:DivM.divS goalS partS=((DivM.quoS goalS partS).1,0):=by unfold DivM.divS;rw[if_pos gp_fine,if_pos gp_quo]
 rw[e]
 exact⟨rfl,DivM.fine_same hS⟩
theorem gp_miss {z:SSys × Int} (h:DivM.MissOK goalS partS z):z.2=0∧madeB z.1 goalS=true:=by
 rcases DivM.miss_ok gp_fine gp_ref (by decide) h with⟨_,g,_⟩|⟨_,_,g⟩|⟨g1,_,g2⟩
 ·rw[gp_large] at g;cases g
 ·rw[goal_not] at g;cases g
 ·exact⟨g1,g2⟩
theorem gp_fits {v:Bool × SSys} (h:JdgOK x0S goalS partS v):v.1=false∧madeB v.2 partS=true:=by
 have h1:v.1=false:=by
  cases e:v.1 with
  |false=>rfl
  |true=>
   rcases(h.yes e).2 with g|g
   ·rw[part_not] at g;cases g
   ·rw[part_trim] at g
    exact absurd ⟨1,by decide,by decide⟩ (g (0,0,0) .zero)
 refine⟨h1,?_⟩
 obtain⟨g1,g2,g3,_⟩:=part_ok (sysOK_ok x0_valid) goal_ok part_okS rfl rfl (by decide) h h1
 unfold madeB
 rw[g1,decide_eq_true g2,satD_iff.2 g3];rfl
end PartM
end Go.Proofs.YtcjemmihcplgdaaGreat
namespace Go.Proofs.YtcjemmihcplgdaaGreat
open AL Go
set_option linter.all false
namespace EncM
theorem map_inj {α β:Type} {f:α→β} (hf:∀a b,f a=f b→a=b):∀{l m:List α},l.map f=m.map f→l=m
 | [],[],_=>rfl
 | [],b::m,h=>by simp at h
 |a::l,[],h=>by simp at h
 |a::l,b::m,h=>by
  rw[List.map_cons,List.map_cons] at h
  injection h with h1 h2
  rw[hf _ _ h1,map_inj hf h2]
theorem agg_inj {l m:List Value} (h:Value.agg l.toArray=Value.agg m.toArray):l=m:=by
 injection h with h
 exact congrArg Array.toList h
def encS (s:SSpec):Value:= .agg #[.agg (s.actions.map Value.string).toArray,.agg (s.states.map fun x=>Value.agg #[.agg (x.accept.map (Value.int .i64)).toArray,.agg (x.next.map (Value.int .i64)).toArray]).toArray]
theorem encS_inj {a b:SSpec} (h:encS a=encS b):a=b:=by
 obtain⟨a1,a2⟩:=a
 obtain⟨b1,b2⟩:=b
 have h:=agg_inj (l:= [_,_]) (m:= [_,_]) h
 simp only [List.cons.injEq,and_true] at h
 obtain⟨h1,h2⟩:=h
 have hi:∀x y:Int,Value.int .i64 x=Value.int .i64 y→x=y:=fun x y g=>by
  simp only [Value.int.injEq,true_and] at g;exact g
 have e1:a1=b1:=map_inj (fun x y g=>by injection g) (agg_inj h1)
 have e2:a2=b2:=map_inj (fun x y g=>by
  obtain⟨x1,x2⟩:=x
  obtain⟨y1,y2⟩:=y
  have g:=agg_inj (l:= [_,_]) (m:= [_,_]) g
  simp only [List.cons.injEq,and_true] at g
  rw[map_inj hi (agg_inj g.1),map_inj hi (agg_inj g.2)]) (agg_inj h2)
 rw[e1,e2]
open Classical in
noncomputable def decS (v:Value):SSpec:=if h:∃s,encS s=v then Classical.choose h else default
theorem decS_enc (s:SSpec):decS (encS s)=s:=by
 have h:∃y,encS y=encS s:=⟨s,rfl⟩
 unfold decS
 rw[dif_pos h]
 exact encS_inj (Classical.choose_spec h)
end EncM
end Go.Proofs.YtcjemmihcplgdaaGreat
namespace Go.Proofs.YtcjemmihcplgdaaGreat
open AL Go
set_option maxRecDepth 100000
set_option linter.all false
open ref01 ref03 ref04 ref06 prog prog2 prog3 prog6 prog13 starts Part Rungs LeftM TrimM RoundM MergeM BisM BisM4 BisM5 WalkM StepM WitM JudgM JudgM2 refw judg wit refj sysw divr divs divd dive divg divw divv divf divc divj divq divp divm LevM LevM2 ChsM QuoM FailM DivM QuoW RefM FitM PartM EncM
attribute [local semireducible] sl eqv in
theorem edges0 {w:World} {F:Fz} {v:Value} (h:(sl 1 id [[eqv (.slice none 0 0)]]).p w F v):(sl 1 edgesE [([]:List (Int × Int))]).p w F v:=by
 obtain⟨A,cap,hv,hc,hm,h⟩:=h
 refine⟨A,cap,hv,hc,hm,fun _=> ?_⟩
 obtain⟨b,off,vs,hA,hb,hr,hl,he⟩:=h (by simp)
 refine⟨b,off,vs,hA,hb,hr,hl,fun i x hi=> ?_⟩
 have hi0:i=0:=by
  cases i with
  |zero=>rfl
  |succ i=>simp at hi
 subst hi0
 have hx:x= []:=by simpa using hi.symm
 subst hx
 have:=he 0 [eqv (.slice none 0 0)] rfl
 match hq:(vs.drop (0*1)).take 1,this with
 | [u],⟨h1,_⟩=>exact⟨slnil (n:=2) (enc:=pairE) h1,trivial⟩
theorem few_le {s:SSpec} {k:Int} (h:few s k=true):(size s:Int)≤k:=by unfold few at h;simpa using h
namespace T
theorem ent38:Ent Tryz.prog 38:=ent_of (by kernel_rfl)
theorem ent39:Ent Tryz.prog 39:=ent_of (by kernel_rfl)
theorem ent16:Ent Tryz.prog 16:=ent_of (by kernel_rfl)
theorem ent25:Ent Tryz.prog 25:=ent_of (by kernel_rfl)
theorem ent20:Ent Tryz.prog 20:=ent_of (by kernel_rfl)
theorem fld49_0:FieldAt Tryz.prog 49 0 0:=fieldAt_of (by kernel_rfl)
theorem fld49_1:FieldAt Tryz.prog 49 1 1:=fieldAt_of (by kernel_rfl)
end T
namespace diva
theorem awake_ok:
 Fn0 Tryz.prog 10 [] (bl true):=by
 refine fnI Tryz.func10 rfl rfl (fun w0 F0=> ?_)
 have hgm:=PartM.goal_ok.small;have hpm:=part_okS.small;have hgo:=PartM.goal_ok;have hpo:=part_okS;have hz0:x0S.states.length*(goalS.states.length*partS.states.length)≤1000000000:=by decide
 refine sq (rg (ag (nl (th (sq (rg (cal0 (φs:= []) (φ:=agg [sl 1 strE goalS.actions,sl 2 stateE goalS.states]) trivial (divs.goal_ok) T.ent38 (cal0 (φs:= []) (φ:=agg [sl 1 strE partS.actions,sl 2 stateE partS.states]) trivial (divs.part_ok) T.ent39 (cal0 (φs:= [agg [sl 1 strE goalS.actions,sl 2 stateE goalS.states],agg [sl 1 strE partS.actions,sl 2 stateE partS.states]]) (φ:=tup [agg [sl 1 strE (((divS goalS partS).1).actions),sl 2 stateE (((divS goalS partS).1).states)],int ((divS goalS partS).2)]) ⟨rfl,rfl,trivial⟩ (divq.Divide_ok goalS partS (by assumption) (by assumption)) T.ent14 (mv (xt rfl rfl (xt rfl rfl (al (key:=1) T.z25 (ex_cons (ex_cons (ex_nil))) fun b1=>(sPA (cs':= [sl 1 strE (((divS goalS partS).1).actions),sl 2 stateE (((divS goalS partS).1).states)]) rfl rfl rfl T.agg25 rfl rfl (ag (nl (th (sq (rg (cal0 (φs:= []) (φ:=agg [sl 1 strE goalS.actions,sl 2 stateE goalS.states]) trivial (divs.goal_ok) T.ent38 (cal0 (φs:= []) (φ:=agg [sl 1 strE partS.actions,sl 2 stateE partS.states]) trivial (divs.part_ok) T.ent39 (cl (divq.Missing_ok goalS partS (by assumption) (by assumption)) T.ent16 trivial fun N16 i16=>(mv (xt rfl rfl (xt rfl rfl (al (key:=3) T.z38 (ex_cons (ex_cons (ex_nil))) fun b3=>(sPA (cs':= [sl 1 strE i16.1.1.actions,sl 1 edgesE i16.1.1.states]) rfl rfl rfl T.agg38 rfl rfl (ag (nl (th (sq (rg (bsE (enc:=strE) (xs:= [({ data:= #[97] }),({ data:= #[98] })]) (css:= [[str ({ data:= #[97] })],[str ({ data:= #[98] })]]) T.mk22 ⟨rfl,rfl,p1 (φ:=str ({ data:= #[97] })) rfl,⟨rfl,rfl,p1 (φ:=str ({ data:= #[98] })) rfl,trivial⟩⟩ rfl rfl rfl rfl (bs (css:= [[eqv (.slice none 0 0)]]) T.mk36 ⟨rfl,rfl,p1 (φ:=eqv (.slice none 0 0)) rfl,trivial⟩ rfl rfl rfl (kn 21 (sl 1 edgesE [[]]) rfl (edges0) (bd (css:= [(0,_),(1,_)]) T.st38 (ex_cons (ex_cons (ex_nil))) ⟨rfl,rfl,p1 (φ:=sl 1 strE [({ data:= #[97] }),({ data:= #[98] })]) rfl,⟨rfl,rfl,p1 (φ:=sl 1 edgesE [[]]) rfl,trivial⟩⟩ (kn 22 (sys x0S) rfl (fun h=>h) (cal0 (φs:= []) (φ:=agg [sl 1 strE goalS.actions,sl 2 stateE goalS.states]) trivial (divs.goal_ok) T.ent38 (cal0 (φs:= []) (φ:=agg [sl 1 strE partS.actions,sl 2 stateE partS.states]) trivial (divs.part_ok) T.ent39 (cl (divj.Fits_ok x0S goalS partS (by assumption) (by assumption) (by omega)) T.ent25 trivial fun N25 i25=>(mv (xt rfl rfl (xt rfl rfl (al (key:=5) T.z49 (ex_cons (ex_cons (ex_cons (ex_nil)))) fun b5=>(sPA (cs':= [bl i25.1.1,sl 1 strE i25.1.2.actions,sl 1 edgesE i25.1.2.states]) rfl rfl rfl T.agg49 rfl rfl (ag (nl (th (sq (dr (nh:=32) [0,1,3,7,7,31,63,127,255,511,1023,2047,4095,4095,16383,32767,65535,131071,262143,524287,1048575,2097151,4194303,8388607,16777215,33554431,67108863,134217727,67108863,536870911,1073741823,2147483647] T.mixed (by kernel_rfl) ?_))))))))))))))))))))))))))))))))))))))))))))))))))
 refine st_ rfl (fun _ _ _ gq kq=>mv' (gq.1.trans rfl) kq) ?_
 refine st_ rfl (fun _ _ _ gq kq=>bi (gq.1.trans rfl) rfl b_eql kq) ?_
 refine st_ rfl (fun _ _ _ gq kq=>mv' (gq.1.trans rfl) kq) ?_
 refine sg_ (φ:=agg [sl 1 strE (((divS goalS partS).1).actions),sl 2 stateE (((divS goalS partS).1).states)]) rfl rfl rfl rfl (List.mem_of_elem_eq_true rfl) (fun hgd=> ?_) ?_
 ·have hgd':=hgd
  try simp at hgd'
  exact fun _ _ _ gq kq=>lPA (gq.1.trans rfl) rfl T.agg25 rfl kq
 refine sg_ (φ:=agg [sl 1 strE goalS.actions,sl 2 stateE goalS.states]) rfl rfl rfl rfl (List.mem_of_elem_eq_true rfl) (fun hgd=> ?_) ?_
 ·have hgd':=hgd
  try simp at hgd'
  exact fun _ _ _ gq kq=>cal0 (φs:= []) (φ:=agg [sl 1 strE goalS.actions,sl 2 stateE goalS.states]) trivial (divs.goal_ok) T.ent38 kq
 refine sg_ (φ:=bl (fineR ((divS goalS partS).1) goalS)) rfl rfl rfl rfl (List.mem_of_elem_eq_true rfl) (fun hgd=> ?_) ?_
 ·have hgd':=hgd
  try simp at hgd'
  exact fun _ _ _ gq kq=>cal0 (φs:= [agg [sl 1 strE (((divS goalS partS).1).actions),sl 2 stateE (((divS goalS partS).1).states)],agg [sl 1 strE goalS.actions,sl 2 stateE goalS.states]]) (φ:=bl (fineR ((divS goalS partS).1) goalS)) ⟨(gq.1.trans (gif_t hgd)),(gq.2.1.trans (gif_t hgd)),trivial⟩ (dive.Fine_ok ((divS goalS partS).1) goalS (by assumption)) T.ent40 kq
 refine st_ rfl (fun _ _ _ gq kq=>pk (gq.1.trans rfl) (pk_and (x:= .tmp 30) (gq.1.trans rfl) (gq.2.1.trans rfl) rfl) kq) ?_
 refine st_ rfl (fun _ _ _ gq kq=>mv' (gq.1.trans rfl) kq) ?_
 refine sg_ (φ:=int i16.1.2) rfl rfl rfl rfl (List.mem_of_elem_eq_true rfl) (fun hgd=> ?_) ?_
 ·have hgd':=hgd
  try simp at hgd'
  exact fun _ _ _ gq kq=>mv' (gq.1.trans rfl) kq
 refine sg_ (φ:=bl (decide (i16.1.2=0))) rfl rfl rfl rfl (List.mem_of_elem_eq_true rfl) (fun hgd=> ?_) ?_
 ·have hgd':=hgd
  try simp at hgd'
  exact fun _ _ _ gq kq=>bi (gq.1.trans (gif_t hgd)) rfl b_eql kq
 refine st_ rfl (fun _ _ _ gq kq=>pk (gq.1.trans rfl) (pk_and (x:= .tmp 35) (gq.1.trans rfl) (gq.2.1.trans rfl) rfl) kq) ?_
 refine st_ rfl (fun _ _ _ gq kq=>mv' (gq.1.trans rfl) kq) ?_
 refine sg_ (φ:=agg [sl 1 strE i16.1.1.actions,sl 1 edgesE i16.1.1.states]) rfl rfl rfl rfl (List.mem_of_elem_eq_true rfl) (fun hgd=> ?_) ?_
 ·have hgd':=hgd
  try simp at hgd'
  exact fun _ _ _ gq kq=>lPA (gq.1.trans rfl) rfl T.agg38 rfl kq
 refine sg_ (φ:=agg [sl 1 strE goalS.actions,sl 2 stateE goalS.states]) rfl rfl rfl rfl (List.mem_of_elem_eq_true rfl) (fun hgd=> ?_) ?_
 ·have hgd':=hgd
  try simp at hgd'
  exact fun _ _ _ gq kq=>cal0 (φs:= []) (φ:=agg [sl 1 strE goalS.actions,sl 2 stateE goalS.states]) trivial (divs.goal_ok) T.ent38 kq
 refine sg_ (φ:=bl (madeB i16.1.1 goalS)) rfl rfl rfl rfl (List.mem_of_elem_eq_true rfl) (fun hgd=> ?_) ?_
 ·have hgd':=hgd
  try simp at hgd'
  exact fun _ _ _ gq kq=>cal0 (φs:= [agg [sl 1 strE i16.1.1.actions,sl 1 edgesE i16.1.1.states],agg [sl 1 strE goalS.actions,sl 2 stateE goalS.states]]) (φ:=bl (madeB i16.1.1 goalS)) ⟨(gq.1.trans (gif_t hgd)),(gq.2.1.trans (gif_t hgd)),trivial⟩ (divg.Made_ok i16.1.1 goalS (by assumption)) T.ent20 kq
 refine st_ rfl (fun _ _ _ gq kq=>pk (gq.1.trans rfl) (pk_and (x:= .tmp 39) (gq.1.trans rfl) (gq.2.1.trans rfl) rfl) kq) ?_
 refine st_ rfl (fun _ _ _ gq kq=>mv' (gq.1.trans rfl) kq) ?_
 refine sg_ (φ:=int (fineX x0S goalS partS)) rfl rfl rfl rfl (List.mem_of_elem_eq_true rfl) (fun hgd=> ?_) ?_
 ·have hgd':=hgd
  try simp at hgd'
  exact fun _ _ _ gq kq=>mv' (gq.1.trans rfl) kq
 refine sg_ (φ:=bl (decide ((fineX x0S goalS partS)=0))) rfl rfl rfl rfl (List.mem_of_elem_eq_true rfl) (fun hgd=> ?_) ?_
 ·have hgd':=hgd
  try simp at hgd'
  exact fun _ _ _ gq kq=>bi (gq.1.trans (gif_t hgd)) rfl b_eql kq
 refine st_ rfl (fun _ _ _ gq kq=>pk (gq.1.trans rfl) (pk_and (x:= .tmp 44) (gq.1.trans rfl) (gq.2.1.trans rfl) rfl) kq) ?_
 refine st_ rfl (fun _ _ _ gq kq=>mv' (gq.1.trans rfl) kq) ?_
 refine sg_ (φ:=ptr 5 b5 0) rfl rfl rfl rfl (List.mem_of_elem_eq_true rfl) (fun hgd=> ?_) ?_
 ·have hgd':=hgd
  try simp at hgd'
  exact fun _ _ _ gq kq=>fP (gq.1.trans rfl) T.fld49_0 kq
 refine sg_ (φ:=bl i25.1.1) rfl rfl rfl rfl (List.mem_of_elem_eq_true rfl) (fun hgd=> ?_) ?_
 ·have hgd':=hgd
  try simp at hgd'
  exact fun _ _ _ gq kq=>lP (gq.1.trans (gif_t hgd)) rfl rfl T.one4 kq
 refine sg_ (φ:=bl (!i25.1.1)) rfl rfl rfl rfl (List.mem_of_elem_eq_true rfl) (fun hgd=> ?_) ?_
 ·have hgd':=hgd
  try simp at hgd'
  exact fun _ _ _ gq kq=>no (gq.1.trans (gif_t hgd)) kq
 refine st_ rfl (fun _ _ _ gq kq=>pk (gq.1.trans rfl) (pk_and (x:= .tmp 48) (gq.1.trans rfl) (gq.2.1.trans rfl) rfl) kq) ?_
 refine st_ rfl (fun _ _ _ gq kq=>mv' (gq.1.trans rfl) kq) ?_
 refine sg_ (φ:=ptr 5 b5 1) rfl rfl rfl rfl (List.mem_of_elem_eq_true rfl) (fun hgd=> ?_) ?_
 ·have hgd':=hgd
  try simp at hgd'
  exact fun _ _ _ gq kq=>fP (gq.1.trans rfl) T.fld49_1 kq
 refine sg_ (φ:=agg [sl 1 strE i25.1.2.actions,sl 1 edgesE i25.1.2.states]) rfl rfl rfl rfl (List.mem_of_elem_eq_true rfl) (fun hgd=> ?_) ?_
 ·have hgd':=hgd
  try simp at hgd'
  exact fun _ _ _ gq kq=>lPA (gq.1.trans (gif_t hgd)) rfl T.agg38 rfl kq
 refine sg_ (φ:=agg [sl 1 strE partS.actions,sl 2 stateE partS.states]) rfl rfl rfl rfl (List.mem_of_elem_eq_true rfl) (fun hgd=> ?_) ?_
 ·have hgd':=hgd
  try simp at hgd'
  exact fun _ _ _ gq kq=>cal0 (φs:= []) (φ:=agg [sl 1 strE partS.actions,sl 2 stateE partS.states]) trivial (divs.part_ok) T.ent39 kq
 refine sg_ (φ:=bl (madeB i25.1.2 partS)) rfl rfl rfl rfl (List.mem_of_elem_eq_true rfl) (fun hgd=> ?_) ?_
 ·have hgd':=hgd
  try simp at hgd'
  exact fun _ _ _ gq kq=>cal0 (φs:= [agg [sl 1 strE i25.1.2.actions,sl 1 edgesE i25.1.2.states],agg [sl 1 strE partS.actions,sl 2 stateE partS.states]]) (φ:=bl (madeB i25.1.2 partS)) ⟨(gq.1.trans (gif_t hgd)),(gq.2.1.trans (gif_t hgd)),trivial⟩ (divg.Made_ok i25.1.2 partS (by assumption)) T.ent20 kq
 refine st_ rfl (fun _ _ _ gq kq=>pk (gq.1.trans rfl) (pk_and (x:= .tmp 53) (gq.1.trans rfl) (gq.2.1.trans rfl) rfl) kq) ?_
 refine st_ rfl (fun _ _ _ gq kq=>ag' (gq.1.trans rfl) kq) ?_
 refine pn (nl (th (rt ?_)))
 have h1:=gp_div;have h2:=gp_miss i16.2;have h3:=gp_fits (i25.2.2 xgp_fine)
 have hr0:(((((((decide (((divS goalS partS).2)=0))&&(fineR ((divS goalS partS).1) goalS))&&(decide (i16.1.2=0)))&&(madeB i16.1.1 goalS))&&(decide ((fineX x0S goalS partS)=0)))&&(!i25.1.1))&&(madeB i25.1.2 partS))=true:=by
  rw[h1.1,h1.2,h2.1,h2.2,decide_eq_true xgp_fine,h3.1,h3.2];rfl
 have hall:∀x0,(((((((decide (((divS goalS partS).2)=0))&&(fineR ((divS goalS partS).1) goalS))&&(decide (i16.1.2=0)))&&(madeB i16.1.1 goalS))&&(decide ((fineX x0S goalS partS)=0)))&&(!i25.1.1))&&(madeB i25.1.2 partS))=x0→resAV [bl (((((((decide (((divS goalS partS).2)=0))&&(fineR ((divS goalS partS).1) goalS))&&(decide (i16.1.2=0)))&&(madeB i16.1.1 goalS))&&(decide ((fineX x0S goalS partS)=0)))&&(!i25.1.1))&&(madeB i25.1.2 partS))]=resAV [bl x0]:=by rintro _ rfl;rfl
 exact rE () [.tmp 0] rfl [bl (((((((decide (((divS goalS partS).2)=0))&&(fineR ((divS goalS partS).1) goalS))&&(decide (i16.1.2=0)))&&(madeB i16.1.1 goalS))&&(decide ((fineX x0S goalS partS)=0)))&&(!i25.1.1))&&(madeB i25.1.2 partS))] ⟨.tmp rfl,trivial⟩ (hall _ hr0) trivial (by first|exact .inr rfl|exact .inl rfl)
end diva
end Go.Proofs.YtcjemmihcplgdaaGreat
namespace Go.Proofs.YtcjemmihcplgdaaGreat
open AL Go
set_option maxRecDepth 100000
set_option linter.all false
namespace OtherM
open ref01 ref03 ref04 ref06 Part Rungs LeftM TrimM RoundM MergeM BisM BisM2 BisM4 BisM5 BisM6 WalkM WitM JudgM LevM divr divs divd dive divv refj ChsM BisS TrimI ValidM QuoM FailM DivM
theorem numb_bb2 {α:Type} [DecidableEq α] [Inhabited α] {A A':α→List Int} {N N':α→Nat→α} {n:Nat} {z z':α} {l r:List α} {S D:SSpec} (ρ:α→α→Prop) (hA:∀{p p'},ρ p p'→A p=A' p')
 (hN:∀{p p'},ρ p p'→∀a,a<n→ρ (N p a) (N' p' a)) (h:Numb A N n z l S) (g:Numb A' N' n z' r D):BB S D (fun x y=>x<l.length∧y<r.length∧ρ (ix l x) (ix r y)):=by
 refine⟨⟨fun {x y} ⟨hx,hy,e⟩=>by rw[h.acc x hx,g.acc y hy,hA e],fun {x y} ⟨hx,hy,e⟩=>by rw[h.nl x hx,g.nl y hy],fun {x y} ⟨hx,hy,e⟩ a ha=> ?_⟩,fun {x y} ⟨hx,hy,_⟩=>⟨by rw[h.len];exact hx,by rw[g.len];exact hy⟩⟩
 rw[h.nl x hx] at ha
 rw[h.nx x hx a ha,g.nx y hy a ha,hA e]
 by_cases c:has (orAll (A' (ix r y))) (a:Int)=true
 ·rw[if_pos c,if_pos c]
  have h1:=h.cl x hx a ha (by rw[hA e];exact c)
  have h2:=g.cl y hy a ha c
  have i1:=List.idxOf_lt_length_of_mem h1
  have i2:=List.idxOf_lt_length_of_mem h2
  refine⟨by omega,fun _=>⟨by rw[Int.toNat_natCast];exact i1,by rw[Int.toNat_natCast];exact i2,?_⟩⟩
  rw[Int.toNat_natCast,Int.toNat_natCast,ix_get i1,ix_get i2,List.getElem_idxOf,List.getElem_idxOf]
  exact hN e a ha
 ·rw[if_neg c,if_neg c];exact⟨Iff.rfl,fun h0=>absurd h0 (by decide)⟩
def rho (T T':SSpec) (p p':PP):Prop:=(p=bes∧p'=bes)∨(p≠bes∧p'≠bes∧p.1=p'.1∧p.2.toNat<T.states.length∧Sim2 T T' p.2.toNat p'.2.toNat)
theorem rho_A {t T T':SSpec} {p p':PP} (h:rho T T' p p'):qA t T p=qA t T' p':=by
 rcases h with⟨h1,h2⟩|⟨h1,h2,h3,_,h4⟩
 ·subst h1;subst h2;unfold qA;rw[if_pos rfl,if_pos rfl]
 ·unfold qA
  rw[if_neg h1,if_neg h2,h3]
  have e:acc T p.2.toNat=acc T' p'.2.toNat:=(sim_bis T T').acc h4
  congr 1
  funext u
  unfold fitsB
  rw[show(ix T.states p.2.toNat).accept=(ix T'.states p'.2.toNat).accept from e]
theorem rho_N {t T T':SSpec} (hT:okSpec T) (ha:T.actions.length=t.actions.length) {p p':PP} (h:rho T T' p p') (a:Nat) (hn:a<t.actions.length):rho T T' (qN t T p a) (qN t T' p' a):=by
 rcases h with⟨h1,h2⟩|⟨h1,h2,h3,hl,h4⟩
 ·subst h1;subst h2
  unfold qN
  rw[if_neg (by rintro⟨g,_⟩;exact g rfl),if_neg (by rintro⟨g,_⟩;exact g rfl)]
  exact .inl ⟨rfl,rfl⟩
 ·have hlen:(nxt T p.2.toNat).length=T.actions.length:=(hT.st _ hl).len
  obtain⟨g1,g2⟩:=(sim_bis T T').nxt h4 a (by rw[hlen,ha];exact hn)
  unfold qN
  by_cases e:0≤ix (nxt T p.2.toNat) a
  ·have e2:0≤ix (nxt T' p'.2.toNat) a:=by omega
   rw[if_pos ⟨h1,e⟩,if_pos ⟨h2,e2⟩]
   have hb:=((hT.st _ hl).nx a (by omega)).2
   refine .inr ⟨fun g=> ?_,fun g=> ?_,by rw[h3],?_,g2 e⟩
   ·have:=congrArg Prod.snd g
    have this:ix (nxt T p.2.toNat) a= -1:=this
    omega
   ·have:=congrArg Prod.snd g
    have this:ix (nxt T' p'.2.toNat) a= -1:=this
    omega
   ·show(ix (nxt T p.2.toNat) a).toNat<_
    have hb:ix (nxt T p.2.toNat) a<(T.states.length:Int):=hb
    omega
  ·have e2:¬0≤ix (nxt T' p'.2.toNat) a:=by omega
   rw[if_neg (fun g=>e g.2),if_neg (fun g=>e2 g.2)]
   exact .inl ⟨rfl,rfl⟩
theorem quo_sim {t q D E:SSpec} (ht:okSpec t) (hS:Same q D) (hD:okSpec D) (ha:t.actions=q.actions) (h:RefQ t D E) (hz:t.states.length*D.states.length+1≤10000) (hq:(quoS t q).2=true):Same (quoS t q).1 E:=by
 have hE:=refq_ok ht h hz
 have hh:=ref_hollow hS hD
 unfold quoS at hq ⊢
 cases e:ix (hollow q) 0 with
 |true=>
  rw[if_pos rfl]
  have:=h.hol (by rw[←hh];exact e)
  rw[this]
  exact⟨every_ok ht.acts,by show 1≤500;omega,rfl,every_trim ht.acts,ref_refl (every_ok ht.acts),ref_refl (every_ok ht.acts)⟩
 |false=>
  rw[e] at hq
  rw[if_neg (by simp)] at hq ⊢
  split at hq
  ·next g=>
   rw[if_pos g]
   have eD:ix (hollow D) 0=false:=by rw[←hh];exact e
   obtain⟨l,h1,h2⟩:=h.num eD
   have hl:(trimS q).1.actions.length=t.actions.length:=by rw[trim_acts,←ha]
   have hN:=q_numb ht (trim_ok hS.ok) (trim_used hS.ok) hl
   have hok:okSpec (quoD t (trimS q).1):=q_ok ht hN rfl (by omega)
   have hsim:Sim2 (trimS q).1 (trimS D).1 0 0:=by
    have s1:=sim_trim hS.ok
    have s2:=sim_trim hD
    have s3:=(ref_iff hS.ok hD hS.acts).1 ⟨hS.r1,hS.r2⟩
    have s4:=(s1.trans s3).trans s2.symm
    rw[trimmed_not e,trimmed_not eD] at s4 ⊢
    have s4:Sim2 (solid (tS q)) (solid (tS D)) 0 0:=s4
    rw[solid_tS hS.ok e,solid_tS hD eD] at s4
    exact s4
   have f0:=(trim_ok hS.ok).few0
   have hbb:=numb_bb2 (rho (trimS q).1 (trimS D).1) (fun h=>rho_A h) (fun h a ha=>rho_N (trim_ok hS.ok) hl h a ha) hN h1
   have h0:rho (trimS q).1 (trimS D).1 (ix (qL t (trimS q).1) 0) (ix l 0):=by
    rw[hN.hd,h1.hd]
    exact .inr ⟨by decide,by decide,rfl,by show 0<_;omega,hsim⟩
   have hr:=bb_ref hok hE (show t.actions=E.actions from h.acts.symm) hbb ⟨hN.ne,h1.ne,h0⟩
   have hr2:=ref_trim hok hE (show t.actions=E.actions from h.acts.symm) hr
   refine⟨trim_ok hok,?_,by rw[trim_acts];exact h.acts.symm,trim_trim hok,hr2.1,hr2.2⟩
   have:=trim_len hok
   have e2:(quoD t (trimS q).1).states.length=(qL t (trimS q).1).length:=by simp[quoD]
   show(trimS (quoD t (trimS q).1)).1.states.length≤500
   omega
  ·cases hq
noncomputable def othS (t s:SSpec):SSpec × Int:=if (divS t s).2=0 then divS t (divS t s).1 else(⟨[],[]⟩,(divS t s).2)
theorem quo_len {t s:SSpec} (ht:okSpec t) (hs:okSpec s) (ha:t.actions=s.actions) (hq:(quoS t s).2=true):(quoS t s).1.states.length≤t.states.length*s.states.length+1:=by
 unfold quoS at hq ⊢
 cases e:ix (hollow s) 0 with
 |true=>rw[if_pos rfl];show 1≤_;omega
 |false=>
  rw[e] at hq
  rw[if_neg (by simp)] at hq ⊢
  split at hq
  ·next g=>
   rw[if_pos g]
   have hl:(trimS s).1.actions.length=t.actions.length:=by rw[trim_acts,←ha]
   have hok:okSpec (quoD t (trimS s).1):=q_ok ht (q_numb ht (trim_ok hs) (trim_used hs) hl) rfl (by omega)
   have h1:=trim_len hok
   have e2:(quoD t (trimS s).1).states.length=(qL t (trimS s).1).length:=by simp[quoD]
   have h3:=ql_len ht hs (by rw[ha])
   show(trimS (quoD t (trimS s).1)).1.states.length≤_
   omega
  ·cases hq
theorem other_told {t s D E:SSpec} (hf:fineE t s=0) (h:RefQ t s D) (h2:RefQ t D E) (hz:t.states.length*s.states.length+1≤10000) (hz2:t.states.length*D.states.length+1≤10000) (b:Bool) (hb:500<t.states.length*t.states.length*s.states.length+t.states.length+1→b=true):
 toldB (othS t s).1 (othS t s).2 0 E b=true:=by
 obtain⟨h1,h3,h4⟩:=Go.Proofs.YtcjemmihcplgdaaGreat.fine_ok hf
 have ht:=okSpec_of h1
 have hs:=okSpec_of h3
 have hD:=refq_ok ht h hz
 have f0:=ht.few0
 have hmul:t.states.length*s.states.length≤t.states.length*t.states.length*s.states.length:=by
  rw[Nat.mul_assoc];exact Nat.le_mul_of_pos_left _ f0
 unfold toldB othS
 rw[if_pos rfl]
 cases e:(quoS t s).2 with
 |false=>
  have e2:divS t s=(⟨[],[]⟩,2):=by unfold divS;rw[if_pos hf,if_neg (by simp[e])]
  have hl:=quo_large ht hs h4 e
  unfold largeB at hl
  rw[decide_eq_true_eq] at hl
  have e3:((t.states.length*s.states.length:Nat):Int)=(t.states.length:Int)*(s.states.length:Int):=by simp
  rw[e2,if_neg (by decide),hb (by omega)]
  rfl
 |true=>
  have e2:divS t s=((quoS t s).1,0):=by unfold divS;rw[if_pos hf,if_pos e]
  have hS:=quo_same ht hs h4 h hz e
  have hlq:=quo_len ht hs h4 e
  rw[e2,if_pos rfl]
  show(decide ((divS t (quoS t s).1).2=2)&&b&&isNone (divS t (quoS t s).1).1||decide ((divS t (quoS t s).1).2=0)&&fineR (divS t (quoS t s).1).1 E)=true
  have hqa:t.actions=(quoS t s).1.actions:=by rw[hS.acts,h.acts]
  have hf2:fineE t (quoS t s).1=0:=by
   unfold fineE
   rw[if_pos ⟨h1,specOK_of hS.ok hS.few⟩,if_pos hqa]
  cases g:(quoS t (quoS t s).1).2 with
  |true=>
   have e5:divS t (quoS t s).1=((quoS t (quoS t s).1).1,0):=by unfold divS;rw[if_pos hf2,if_pos g]
   rw[e5,fine_same (quo_sim ht hS hD hqa h2 hz2 g)]
   simp
  |false=>
   have e5:divS t (quoS t s).1=(⟨[],[]⟩,2):=by unfold divS;rw[if_pos hf2,if_neg (by simp[g])]
   have hl:=quo_large ht hS.ok hqa g
   unfold largeB at hl
   rw[decide_eq_true_eq] at hl
   have e3:((t.states.length*(quoS t s).1.states.length:Nat):Int)=(t.states.length:Int)*((quoS t s).1.states.length:Int):=by simp
   have h6:=Nat.mul_le_mul_left t.states.length hlq
   rw[Nat.mul_add,Nat.mul_one,←Nat.mul_assoc] at h6
   rw[e5,hb (by omega)]
   rfl
theorem refq_len {t s D:SSpec} (h:RefQ t s D):D.states.length≤t.states.length*s.states.length+1:=by
 cases e:ix (hollow s) 0 with
 |true=>rw[h.hol e];show 1≤_;omega
 |false=>
  obtain⟨l,h1,h2⟩:=h.num e
  rw[h1.len];exact h2
def RefO (t s E:SSpec):Prop:=∃D,RefQ t s D∧RefQ t D E
theorem refo_ok {t s E:SSpec} (ht:okSpec t) (h:RefO t s E) (hz:t.states.length*(t.states.length*s.states.length+1)+1≤10000):okSpec E:=by
 obtain⟨D,h1,h2⟩:=h
 have h3:=refq_len h1
 have h4:=Nat.mul_le_mul_left t.states.length h3
 exact refq_ok ht h2 (by omega)
theorem refo_told {t s E:SSpec} (hf:fineE t s=0) (h:RefO t s E) (hz:t.states.length*(t.states.length*s.states.length+1)+1≤10000) (b:Bool) (hb:500<t.states.length*t.states.length*s.states.length+t.states.length+1→b=true):toldB (othS t s).1 (othS t s).2 0 E b=true:=by
 obtain⟨D,h1,h2⟩:=h
 have ht:=okSpec_of (Go.Proofs.YtcjemmihcplgdaaGreat.fine_ok hf).1
 have f0:=ht.few0
 have h3:=refq_len h1
 have h4:=Nat.mul_le_mul_left t.states.length h3
 have h5:t.states.length*s.states.length≤t.states.length*(t.states.length*s.states.length+1):=by
  have:=Nat.le_mul_of_pos_left (t.states.length*s.states.length+1) f0
  omega
 exact other_told hf h1 h2 (by omega) (by omega) b hb
theorem oth_no {t s E:SSpec} (hf:fineE t s≠0) (b:Bool):toldB (othS t s).1 (othS t s).2 (fineE t s) E b=true:=by
 have e:divS t s=(⟨[],[]⟩,fineE t s):=by unfold divS;rw[if_neg hf]
 unfold toldB othS
 rw[if_neg hf,e,if_neg (show((⟨[],[]⟩,fineE t s):SSpec × Int).2≠0 from hf)]
 simp[isNone]
end OtherM
end Go.Proofs.YtcjemmihcplgdaaGreat
