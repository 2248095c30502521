/- The walks of the functions and the plain laws. Own texts of this claim, packed: Zddivq, Zddivm, Zddiva, Zddivo, Zddivu. -/
import Derived.Test.YtcjemmihcplgdaaGreatDoorX24
import Derived.Test.YtcjemmihcplgdaaGreatDoorX18
import Derived.Test.YtcjemmihcplgdaaGreatDoorX07
import Derived.Test.YtcjemmihcplgdaaGreatDoorX21
set_option linter.all false
namespace Go.Proofs.YtcjemmihcplgdaaGreatDoor
open AL Go
set_option maxRecDepth 100000
section
open ref01 ref03 ref04 ref06 prog prog2 prog3 prog4 prog6 prog13 Part Rungs LeftM TrimM RoundM MergeM BisM BisM4 BisM5 WalkM StepM WitM JudgM JudgM2 refw judg wit refj sysw divr divs divd dive divg divw divv divf divc LevM LevM2 ChsM QuoM FailM DivM QuoW
theorem osl_raw {key:Nat} {x v:Value} {w:World} {F:Fz} (h:(osl key x).p w F v):(eqv x).p w F v:=by rw[osl_is] at h;exact h
theorem spot_le {p:Int × Int} {a b c:Int} (h:(a,b,c)=k3 p):([[int a,int b,int c]]:List (List AV))= [p].map spotE:=by
 show _= [spotE p]
 unfold spotE
 rw[←h]
theorem k3_dom {t T:SS} (h1:t.sT.length≤10000) (h2:T.sT.length≤10000) {p:Int × Int} (h:qOk t T p):triD (k3 p):=by
 by_cases e:p=bes
 ·rw[e,k3_bes];exact tri_dom ⟨O,O⟩ ⟨O,O⟩ ⟨O,O⟩
 ·obtain⟨a,b,c,d⟩:=h.resolve_left e
  rw[k3_at e];exact tri_dom ⟨O,O⟩ ⟨O,O⟩ ⟨O,O⟩
theorem quoS_hol {t s:SS} (h:ix (hOl s) 0=true):quoS t s=(everyS t.aC,true):=by unfold quoS;rw[if_pos h]
theorem quoS_yes {t s:SS} (h:ix (hOl s) 0=false) (h5:(qL t (tR s).1).length≤500):quoS t s=((tR (quoD t (tR s).1)).1,true):=by unfold quoS;rw[if_neg (by simp[h]),if_pos h5]
theorem quoS_no {t s:SS} (h:ix (hOl s) 0=false) (h5:500<(qL t (tR s).1).length):quoS t s=(⟨[],[]⟩,false):=by unfold quoS;rw[if_neg (by simp[h]),if_neg O]
theorem fit_qA {t T:SS} {p:Int × Int} (h:p≠bes):chs (ix t.sT ((k3 p).2.1).toNat) (ix T.sT ((k3 p).2.2).toNat) t.aC.length 0=qA t T p:=by
 rw[k3_at h,chs_zero]
 unfold qA
 rw[if_neg h];rfl
theorem qA_len {t T:SS} (hn:t.aC.length≤8) (p:Int × Int):(qA t T p).length≤256:=by
 have h1:(subs t.aC.length).length≤2^8:=by unfold subs;simp;exact Nat.pow_le_pow_right O hn
 unfold qA
 split
 ·exact h1
 ·exact Nat.le_trans (List.length_filter_le _ _) h1
namespace T
theorem map195:MapT Tryz.prog 195 194 3 triV triD:=mapT_tri Tryz.underlying195 Tryz.underlying194 kR (by decide+kernel) kR kR ⟨rfl,rfl,by kernel_rfl,by kernel_rfl⟩ ⟨rfl,rfl,by kernel_rfl,by kernel_rfl⟩ ⟨rfl,rfl,by kernel_rfl,by kernel_rfl⟩ kR kR
theorem z227:ZeroIs Tryz.prog 227 [.nilFunc]:=zeroIs_of kR
theorem ent151:Ent Tryz.prog 151:=ent_of kR
theorem flv25_1:FldV Tryz.prog 25 1 1 23:=fldV_of kR
theorem st194:StructT Tryz.prog 194 [(0,1),(1,1),(2,1)] [.int .i64 0,.int .i64 0,.int .i64 0]:=structT_of kR kR
theorem z195:ZeroIs Tryz.prog 195 [.map none]:=zeroIs_of kR
theorem one195:IsOne Tryz.prog 195:=isOne_of kR
theorem mk196:MakeT Tryz.prog 196 194 3 24 [.int .i64 0,.int .i64 0,.int .i64 0]:=makeT_of kR kR
theorem z196:ZeroIs Tryz.prog 196 [.slice none 0 0]:=zeroIs_of kR
theorem one196:IsOne Tryz.prog 196:=isOne_of kR
theorem sl196:IsSlice Tryz.prog 196 194 3:=isSlice_of kR
theorem agg194:IsAgg Tryz.prog 194 3:=isAgg_of kR
theorem z194:ZeroIs Tryz.prog 194 [.int .i64 0,.int .i64 0,.int .i64 0]:=zeroIs_of kR
theorem fld194_0:FieldAt Tryz.prog 194 0 0:=fieldAt_of kR
theorem one192:IsOne Tryz.prog 192:=isOne_of kR
theorem fld194_1:FieldAt Tryz.prog 194 1 1:=fieldAt_of kR
theorem fld194_2:FieldAt Tryz.prog 194 2 2:=fieldAt_of kR
theorem ent152:Ent Tryz.prog 152:=ent_of kR
theorem ent103:Ent Tryz.prog 103:=ent_of kR
theorem ent46:Ent Tryz.prog 46:=ent_of kR
theorem ent148:Ent Tryz.prog 148:=ent_of kR
end T
namespace divq
theorem fit_ok (x y:SA) (n:Nat) (hn:n≤8) (hr:rising x.aP=true) (hy:∀k,k<y.aP.length→0≤ix y.aP k∧ix y.aP k<256):
 Fn0 Tryz.prog 152 [int (n:Int),state x,state y] (ints (chs x y n 0)):=by
 refine fnI Tryz.func152 rfl rfl (fun w0 F0=> ?_)
 have hp8:2^n≤2^8:=Nat.pow_le_pow_right O hn
 refine fcC (inhS 1 J) (fun hS1=> ?_)
 obtain⟨hxa1,hxn1⟩:=state_lens hS1
 refine fcC (inhS 2 J) (fun hS2=> ?_)
 obtain⟨hxa2,hxn2⟩:=state_lens hS2
 refine sq (rg (bx (key:=4) (cs:= [sl 1 nE x.aP,sl 1 nE x.next]) J fun b4=>(bx (key:=5) (cs:= [sl 1 nE y.aP,sl 1 nE y.next]) J fun b5=>(ag (nl (th (sq (rg (al (key:=7) T.z36 (eC eZ) fun b7=>(nl (th (sq (rg (al (key:=8) T.z227 (eC eZ) fun b8=>(nl (th (sq (rg (fzv 5 5 J J (fzv 4 4 J J (nw 70 3 1 nE (knc 7 0 (osl 70 (.slice none 0 0)) J J eq_osl (mkf (sP (φ:=clo 187 [fp [sl 1 nE y.aP,sl 1 nE y.next],fp [sl 1 nE x.aP,sl 1 nE x.next],ptr 7 b7 0,ptr 8 b8 0]) J J J T.one227 J (nl (th (sq (rg (lP J J J T.one227 (mv (bi J J (b_sub i6) (callC (Hi:=chH x y b7 b8 (.slice none 0 0) []) (ι:=Value) (res:=fun _ _=>tup []) (Ho:=fun v2=>chH x y b7 b8 v2 (chs x y n 0)) J (choose_ok x y hr hy b7 b8 n hn 0 (.slice none 0 0) [] ⟨O,O⟩ (by simp;omega)) T.ent187 ⟨rI,rI,rI,tV⟩ fun N z=>(nl (th (sq (rg (lP J J J T.one36 (ag (nl (th (rt ?_)))))))))))))))))))))))))))))))))))))))))
 refine fzA 70 6 rfl rfl ?_
 exact rE () [.tmp 6] J [sl 1 nE (chs x y n 0)] ⟨.tmp J,tV⟩ J trivial eX
theorem Quotient_ok (t s:SS) (ht:oK t) (hs:oK s) (hts:t.aC=s.aC):
 Fn0 Tryz.prog 103 [spec t,spec s] (tup [spec (quoS t s).1,bl (quoS t s).2]):=by
 refine fnI Tryz.func103 rfl rfl (fun w0 F0=> ?_)
 have hop:=ordS_pos s;have f1:=ht.few1;have f2:=ht.few0;have hn8:=ht.n8
 refine fcC (inhS 0 J) (fun hS0=> ?_)
 obtain⟨hsa0,hss0,hse0⟩:=sLn hS0
 refine fcC (inhS 1 J) (fun hS1=> ?_)
 obtain⟨hsa1,hss1,hse1⟩:=sLn hS1
 refine sq (rg (bx (key:=2) (cs:= [sl 1 rE_ t.aC,sl 2 sE t.sT]) J fun b2=>(bx (key:=3) (cs:= [sl 1 rE_ s.aC,sl 2 sE s.sT]) J fun b3=>(al (key:=4) T.z25 (eC (eC eZ)) fun b4=>(al (key:=5) T.z4 (eC eZ) fun b5=>(nl (th (sq (rg (lPA J J T.agg25 J (calW (φs:= [agg [sl 1 rE_ s.aC,sl 2 sE s.sT]]) (φ:=tup [agg [sl 1 rE_ ((tR s).1.aC),sl 2 sE ((tR s).1.sT)],sl 1 nE ((tR s).2)]) ⟨J,tV⟩ (prog9.Trimmed_ok s aS) T.ent68 (fun N hN=>fun h=>tup_le (cs:= [agg [fre N (sl 1 rE_ ((tR s).1.aC)),frb (ix (hOl s) 0) N (sl 2 sE ((tR s).1.sT))],sl 1 nE ((tR s).2)]) (ds:= [agg [sl 1 rE_ ((tR s).1.aC),sl 2 sE ((tR s).1.sT)],sl 1 nE ((tR s).2)]) ⟨fun h=>agg_le (cs:= [fre N (sl 1 rE_ ((tR s).1.aC)),frb (ix (hOl s) 0) N (sl 2 sE ((tR s).1.sT))]) (ds:= [sl 1 rE_ ((tR s).1.aC),sl 2 sE ((tR s).1.sT)]) ⟨fun h=>nw_le h,fun h=>frb_le h,tV⟩ h,fun h=>h,tV⟩ h) (mv (xt J J (xt J J (sPA (cs':= [sl 1 rE_ ((tR s).1.aC),sl 2 sE ((tR s).1.sT)]) J J J T.agg25 J J (ag (nl (th (sq (sq (rg (mv (fc (slenI 26 J) fun hm26=>(lnF J T.sl36 (bi J J b_eql (nl (th ?_)))))))))))))))))))))))))))
 refine cd J (fun hc0=> ?_) (fun hc0=> ?_)
 ·try simp at hc0
  have hh0:ix (hOl s) 0=true:=by
   cases h:ix (hOl s) 0 with
   |true=>rfl
   |false=>
    exfalso
    rw[trimmed_not h] at hc0
    have h3:=hop
    rw[show ordS s= [] from hc0] at h3
    simp at h3
  have hq0:=quoS_hol (t:=t) hh0
  refine sq (rg (fP J T.fld25_0 (lP J J J T.one22 (cal0 (φs:= [sl 1 rE_ t.aC]) (φ:=agg [sl 1 rE_ (everyS t.aC).aC,sl 2 sE (everyS t.aC).sT]) ⟨J,tV⟩ (divv.Every_ok t.aC O) T.ent151 (sPA (cs':= [sl 1 rE_ (everyS t.aC).aC,sl 2 sE (everyS t.aC).sT]) J J J T.agg25 J J (sP (φ:=bl true) J J J T.one4 J (nl (th (rt (rt_ ?_))))))))))
  have hr0:(everyS t.aC).aC=((quoS t s).1).aC:=by
   rw[hq0]
  have hr1:(everyS t.aC).sT=((quoS t s).1).sT:=by
   rw[hq0]
  have hr2:true=((quoS t s).2):=by
   rw[hq0]
  exact rE () [.cell 4 25,.cell 5 4] J [agg [sl 1 rE_ (everyS t.aC).aC,sl 2 sE (everyS t.aC).sT],bl true] ⟨.agg J J T.agg25 J J,.one J J T.one4 J,tV⟩ (cA3 (fun x0 x1 x2=>rV [agg [sl 1 rE_ x0,sl 2 sE x1],bl x2]) hr0 hr1 hr2) trivial eX
 ·try simp at hc0
  have h00:ix (hOl s) 0=false:=by
   cases h:ix (hOl s) 0 with
   |false=>rfl
   |true=>exact absurd (by rw[trimmed_hol h]) hc0
  have hT:=trim_ok hs
  have hU:=trim_used hs
  have hTa:(tR s).1.aC.length=t.aC.length:=by rw[trim_acts,←hts]
  have hT8:=hT.n8
  have f4:=hT.few1
  have f5:=hT.few0
  refine sk (th (sq (rg (fP J T.fld25_0 (lP J J J T.one22 (cal0 (φs:= [sl 1 rE_ t.aC]) (φ:=agg [sl 1 rE_ (everyS t.aC).aC,sl 2 sE (everyS t.aC).sT]) ⟨J,tV⟩ (divv.Every_ok t.aC O) T.ent151 (fld1 J T.flv25_1 T.one23 J (iF J J T.sl23 O (gK (k:=0) (by show 0<1;omega)) (fF J T.fld81_0 (lF J J T.one36 (ag (nl (th (sq (rg (mkm (key:=39) (kE:=triV) (dom:=triD) (vE:=intV) fun b39=>(bd (css:= []) T.st194 (eC (eC (eC eZ))) trivial (AL.insert (q:=(0,0,0)) (u:=0) J J agg_tri J T.map195 (tri_dom ⟨O,O⟩ ⟨O,O⟩ ⟨O,O⟩) (mv (al (key:=8) T.z195 (eC eZ) fun b8=>(sP (φ:=mpv 39 b39) J J J T.one195 J (nl (th (sq (rg (bd (css:= []) T.st194 (eC (eC (eC eZ))) trivial (bsO 43 (enc:=spotE) (xs:= [(0,0)]) (css:= [[int 0,int 0,int 0]]) T.mk196 ⟨J,J,pA (cs:= [int 0,int 0,int 0]) J,tV⟩ J J J J fun v43=>(al (key:=9) T.z196 (eC eZ) fun b9=>(storePO J J J J T.one196 J (nl (th (sq (rg (fP J T.fld25_0 (lP J J J T.one22 (calW (φs:= [sl 1 rE_ t.aC]) (φ:=sl 1 rE_ t.aC) ⟨J,tV⟩ (prog.sClonestrE_ok _ O) T.ent78 (fun N hN=>fun h=>nw_le h) (bd (css:= [(0,_)]) T.st25 (eC (eC eZ)) ⟨J,J,p1 (φ:=sl 1 rE_ t.aC) J,tV⟩ (al (key:=10) T.z25 (eC (eC eZ)) fun b10=>(sPA (cs':= [sl 1 rE_ t.aC,eqv (.slice none 0 0)]) J J J T.agg25 J J (nl (th (sq (sq (rg (ag (nl (th (bk ?_))))))))))))))))))))))))))))))))))))))))))))))))
  refine nwC 100 81 2 sE (kncC 10 1 (osl 100 (.slice none 0 0)) rfl rfl eq_osl ?_)
  have hI0_0:QW t (tR s).1 0 ([(0,0)]:List (Int × Int)) (mset ([]:List ((Int × Int × Int) × Int)) (0,0,0) 0) ([]:List SA):=by
   exact qw_zero ht hT
  refine lp (κ:=Nat × Value × (List (Int × Int)) × (List ((Int × Int × Int) × Int)) × Value × (List SA)) (fun p=> [(2,ptr 2 b2 0),(3,ptr 3 b3 0),(4,ptr 4 b4 0),(5,ptr 5 b5 0),(7,sl 1 nE (ix (everyS t.aC).sT 0).aP),(8,ptr 8 b8 0),(9,ptr 9 b9 0),(10,ptr 10 b10 0),(11,int (p.1:Int))]) (fun p=> [(2,cell b2 [sl 1 rE_ t.aC,sl 2 sE t.sT]),(3,cell b3 [sl 1 rE_ ((tR s).1.aC),sl 2 sE ((tR s).1.sT)]),(4,cell b4 [eqv (.slice none 0 0),eqv (.slice none 0 0)]),(5,cell b5 [bl false]),(8,cell b8 [mpv 39 b39]),(9,cell b9 [osl 43 p.2.1]),(10,cell b10 [sl 1 rE_ t.aC,osl 100 p.2.2.2.2.1]),(39,mp b39 triV triD intV p.2.2.2.1),(43,own p.2.1 194 3 spotE p.2.2.1),(100,own p.2.2.2.2.1 81 2 sE p.2.2.2.2.2)]) (fun p=>QW t (tR s).1 p.1 p.2.2.1 p.2.2.2.1 p.2.2.2.2.2) (fun p=>501- p.1) ⟨0,v43,([(0,0)]:List (Int × Int)),mset ([]:List ((Int × Int × Int) × Int)) (0,0,0) 0,(.slice none 0 0),([]:List SA)⟩ hI0_0 ⟨id,id,id,id,id,id,id,id,id,tV⟩ ⟨rI,rI,rI,rI,rI,rI,rI,rI,rI,rI,tV⟩ ?_
  intro⟨i,v,ql,mm,v10,outs⟩ hG0
  have hQW:QW t (tR s).1 i ql mm outs:=hG0
  show Ct _ _ _ _ [(2,ptr 2 b2 0),(3,ptr 3 b3 0),(4,ptr 4 b4 0),(5,ptr 5 b5 0),(7,sl 1 nE (ix (everyS t.aC).sT 0).aP),(8,ptr 8 b8 0),(9,ptr 9 b9 0),(10,ptr 10 b10 0),(11,int (i:Int))] [(2,cell b2 [sl 1 rE_ t.aC,sl 2 sE t.sT]),(3,cell b3 [sl 1 rE_ ((tR s).1.aC),sl 2 sE ((tR s).1.sT)]),(4,cell b4 [eqv (.slice none 0 0),eqv (.slice none 0 0)]),(5,cell b5 [bl false]),(8,cell b8 [mpv 39 b39]),(9,cell b9 [osl 43 v]),(10,cell b10 [sl 1 rE_ t.aC,osl 100 v10]),(39,mp b39 triV triD intV mm),(43,own v 194 3 spotE ql),(100,own v10 81 2 sE outs)] _
  have hlf:=hQW.few
  have hil:=hQW.il
  have hol:outs.length≤i:=by rw[hQW.out];simp;omega
  refine sq (sq (rg (mv (lP J J J T.one196 (lnO J J T.sl196 (bi J J b_lss (nl (th ?_))))))))
  refine cd J (fun hc1=> ?_) (fun hc1=> ?_)
  ·try simp at hc1
   refine sk (th (sq (bk (sq (rg (lP J J J T.one196 (mv (iO J J J T.sl196 O O (lOA J J gB T.agg194 (by decide) (al (key:=12) T.z194 (eC (eC (eC eZ))) fun b12=>(sPA (cs':= [int ((k3 (ix ql i)).1),int ((k3 (ix ql i)).2.1),int ((k3 (ix ql i)).2.2)]) J J J T.agg194 J J (nl (th (sq (rg (mv (bsE (enc:=nE) (xs:= [(-1)]) (css:= [[int (-1)]]) T.mk36 ⟨J,J,p1 (φ:=int (-1)) J,tV⟩ J J J J (fP J T.fld25_0 (lP J J J T.one22 (fc (slenI 61 J) fun hm61=>(lnF J T.sl22 (cl (prog8.Repeat_ok t.aC.length O) T.ent123 trivial fun N63 v63=>(fc (svI 30 J) fun hsv30=> ?_)))))))))))))))))))))))
   rw[←hsv30]
   refine kn 63 (eqv (sv v63)) rfl osl_raw (bd (css:= [(0,_),(1,_)]) T.st81 (eC (eC eZ)) ⟨rfl,rfl,p1 (φ:=sl 1 nE (ix (everyS t.aC).sT 0).aP) rfl,⟨rfl,rfl,p1 (φ:=eqv (sv v63)) rfl,tV⟩⟩ (al (key:=13) T.z81 (eC (eC eZ)) fun b13=>(sPA (cs':= [sl 1 nE (ix (everyS t.aC).sT 0).aP,eqv (sv v63)]) rfl rfl rfl T.agg81 rfl rfl (knc 13 1 (osl 30 (sv v63)) rfl rfl eq_osl (nl (th (sq (sq (rg (fP rfl T.fld194_0 (lP rfl rfl rfl T.one192 (bi rfl rfl b_eql (nl (th ?_))))))))))))))
   refine jn (κ:=(List Int)) (fun p=> [(2,ptr 2 b2 0),(3,ptr 3 b3 0),(4,ptr 4 b4 0),(5,ptr 5 b5 0),(7,sl 1 nE (ix (everyS t.aC).sT 0).aP),(8,ptr 8 b8 0),(9,ptr 9 b9 0),(10,ptr 10 b10 0),(11,int (i:Int)),(12,ptr 12 b12 0),(13,ptr 13 b13 0)]) (fun p=> [(2,cell b2 [sl 1 rE_ t.aC,sl 2 sE t.sT]),(3,cell b3 [sl 1 rE_ ((tR s).1.aC),sl 2 sE ((tR s).1.sT)]),(4,cell b4 [eqv (.slice none 0 0),eqv (.slice none 0 0)]),(5,cell b5 [bl false]),(8,cell b8 [mpv 39 b39]),(9,cell b9 [osl 43 v]),(10,cell b10 [sl 1 rE_ t.aC,osl 100 v10]),(12,cell b12 [int ((k3 (ix ql i)).1),int ((k3 (ix ql i)).2.1),int ((k3 (ix ql i)).2.2)]),(13,cell b13 [sl 1 nE p,osl 30 (sv v63)]),(30,own (sv v63) 3 1 nE (List.replicate t.aC.length (-1))),(39,mp b39 triV triD intV mm),(43,own v 194 3 spotE ql),(100,own v10 81 2 sE outs)]) (fun p=>p=qA t (tR s).1 (ix ql i)) ?_ ?_
   ·
    refine cd J (fun hc2=> ?_) (fun hc2=> ?_)
    ·try simp at hc2
     have hp0:(k3 (ix ql i)).1=0:=hc2
     have hnb:=k3_ne hp0
     have hk3:=k3_at hnb
     have hpb:=(hQW.ok _ (ix_memS hc1)).resolve_left hnb
     obtain⟨hp1,hp2,hp3,hp4⟩:=hpb
     have hk1:(k3 (ix ql i)).2.1=(ix ql i).1:=by rw[hk3]
     have hk2:(k3 (ix ql i)).2.2=(ix ql i).2:=by rw[hk3]
     have hst:=ht.st ((k3 (ix ql i)).2.1).toNat O
     have hss:=hT.st ((k3 (ix ql i)).2.2).toNat O
     have htl:=hst.len
     have hsl:=hss.len
     have hri:=hst.rise
     have hac:=hss.ac
     refine dr (nh:=17) [0,1,3,0,8,0,32,120,248,0,512,0,2048,7680,15872,32767,65535,131071] T.mixed kR ?_
     refine st_ J (fun _ _ _ gq kq=>fP (gq.1.trans J) T.fld25_0 kq) ?_
     refine st_ J (fun _ _ _ gq kq=>lP (gq.1.trans J) J J T.one22 kq) ?_
     refine st_ J (fun _ _ _ gq kq=>lnF (gq.1.trans J) T.sl22 kq) ?_
     refine st_ J (fun _ _ _ gq kq=>fP (gq.1.trans J) T.fld25_1 kq) ?_
     refine st_ J (fun _ _ _ gq kq=>lP (gq.1.trans J) J J T.one23 kq) ?_
     refine st_ J (fun _ _ _ gq kq=>fP (gq.1.trans J) T.fld194_1 kq) ?_
     refine st_ J (fun _ _ _ gq kq=>lP (gq.1.trans J) J J T.one3 kq) ?_
     refine st_ J (fun _ _ _ gq kq=>iF (gq.1.trans J) (gq.2.1.trans J) T.sl23 O gB kq) ?_
     refine st_ J (fun _ _ _ gq kq=>lFA (gq.1.trans J) T.agg81 (Nat.le_of_ble_eq_true J) kq) ?_
     refine st_ J (fun _ _ _ gq kq=>fP (gq.1.trans J) T.fld25_1 kq) ?_
     refine st_ J (fun _ _ _ gq kq=>lP (gq.1.trans J) J J T.one23 kq) ?_
     refine st_ J (fun _ _ _ gq kq=>fP (gq.1.trans J) T.fld194_2 kq) ?_
     refine st_ J (fun _ _ _ gq kq=>lP (gq.1.trans J) J J T.one3 kq) ?_
     refine st_ J (fun _ _ _ gq kq=>iF (gq.1.trans J) (gq.2.1.trans J) T.sl23 O gB kq) ?_
     refine st_ J (fun _ _ _ gq kq=>lFA (gq.1.trans J) T.agg81 (Nat.le_of_ble_eq_true J) kq) ?_
     refine st_ J (fun _ _ _ gq kq=>cal0 (φs:= [int (t.aC.length:Int),agg [sl 1 nE (ix t.sT ((k3 (ix ql i)).2.1).toNat).aP,sl 1 nE (ix t.sT ((k3 (ix ql i)).2.1).toNat).next],agg [sl 1 nE (ix ((tR s).1.sT) ((k3 (ix ql i)).2.2).toNat).aP,sl 1 nE (ix ((tR s).1.sT) ((k3 (ix ql i)).2.2).toNat).next]]) (φ:=sl 1 nE (chs (ix t.sT ((k3 (ix ql i)).2.1).toNat) (ix ((tR s).1.sT) ((k3 (ix ql i)).2.2).toNat) t.aC.length 0)) ⟨(gq.1.trans J),(gq.2.1.trans J),(gq.2.2.1.trans J),tV⟩ (divq.fit_ok (ix t.sT ((k3 (ix ql i)).2.1).toNat) (ix ((tR s).1.sT) ((k3 (ix ql i)).2.2).toNat) t.aC.length O aS aS) T.ent152 kq) ?_
     refine st_ J (fun _ _ _ gq kq=>fP (gq.1.trans J) T.fld81_0 kq) ?_
     refine pn (sP (φ:=sl 1 nE (chs (ix t.sT ((k3 (ix ql i)).2.1).toNat) (ix ((tR s).1.sT) ((k3 (ix ql i)).2.2).toNat) t.aC.length 0)) J J J T.one36 J (nl ?_))
     have hN0:(chs (ix t.sT ((k3 (ix ql i)).2.1).toNat) (ix ((tR s).1.sT) ((k3 (ix ql i)).2.2).toNat) t.aC.length 0)=qA t (tR s).1 (ix ql i):=by
      exact fit_qA hnb
     exact jx (chs (ix t.sT ((k3 (ix ql i)).2.1).toNat) (ix ((tR s).1.sT) ((k3 (ix ql i)).2.2).toNat) t.aC.length 0) hN0 ⟨id,id,id,id,id,id,id,id,id,id,id,tV⟩ ⟨rI,rI,rI,rI,rI,rI,rI,rI,rI,rI,rI,rI,rI,tV⟩
    ·try simp at hc2
     have hpb:(ix ql i)=bes:=k3_eq hc2
     refine sk ?_
     have hN0:(ix (everyS t.aC).sT 0).aP=qA t (tR s).1 (ix ql i):=by
      unfold qA;rw[if_pos hpb];rfl
     exact jx (ix (everyS t.aC).sT 0).aP hN0 ⟨id,id,id,id,id,id,id,id,id,id,id,tV⟩ ⟨rI,rI,rI,rI,rI,rI,rI,rI,rI,rI,rI,rI,rI,tV⟩
   ·intro ac hG
    have hJ2:ac=qA t (tR s).1 (ix ql i):=hG
    have hal:ac.length≤256:=by rw[hJ2];exact qA_len hn8 _
    have hab:∀u∈ac,0≤u∧u<256:=fun u hu=>by rw[hJ2] at hu;exact qA_bd hn8 hu
    skip
    show At _ _ _ [(2,ptr 2 b2 0),(3,ptr 3 b3 0),(4,ptr 4 b4 0),(5,ptr 5 b5 0),(7,sl 1 nE (ix (everyS t.aC).sT 0).aP),(8,ptr 8 b8 0),(9,ptr 9 b9 0),(10,ptr 10 b10 0),(11,int (i:Int)),(12,ptr 12 b12 0),(13,ptr 13 b13 0)] [(2,cell b2 [sl 1 rE_ t.aC,sl 2 sE t.sT]),(3,cell b3 [sl 1 rE_ ((tR s).1.aC),sl 2 sE ((tR s).1.sT)]),(4,cell b4 [eqv (.slice none 0 0),eqv (.slice none 0 0)]),(5,cell b5 [bl false]),(8,cell b8 [mpv 39 b39]),(9,cell b9 [osl 43 v]),(10,cell b10 [sl 1 rE_ t.aC,osl 100 v10]),(12,cell b12 [int ((k3 (ix ql i)).1),int ((k3 (ix ql i)).2.1),int ((k3 (ix ql i)).2.2)]),(13,cell b13 [sl 1 nE ac,osl 30 (sv v63)]),(30,own (sv v63) 3 1 nE (List.replicate t.aC.length (-1))),(39,mp b39 triV triD intV mm),(43,own v 194 3 spotE ql),(100,own v10 81 2 sE outs)]
    refine th (sq (rg (ag (nl (th (sq (sq (rg (fP rfl T.fld81_0 (lP rfl rfl rfl T.one36 (fc (slenI 86 rfl) fun hm86=>(lnF rfl T.sl36 (mv (nl (th (bk ?_))))))))))))))))
    have hI1_0:0≤ac.length:=by
     first|omega|simp
    have hI1_1:(0:Int)=orAll (ac.take 0)∧0≤(0:Int)∧(0:Int)<256:=by
     exact⟨rfl,O,O⟩
    refine lp (κ:=Nat × Int) (fun p=> [(2,ptr 2 b2 0),(3,ptr 3 b3 0),(4,ptr 4 b4 0),(5,ptr 5 b5 0),(7,sl 1 nE (ix (everyS t.aC).sT 0).aP),(8,ptr 8 b8 0),(9,ptr 9 b9 0),(10,ptr 10 b10 0),(11,int (i:Int)),(12,ptr 12 b12 0),(13,ptr 13 b13 0),(14,int p.2),(86,sl 1 nE ac),(87,int (ac.length:Int)),(88,int (p.1:Int))]) (fun p=> [(2,cell b2 [sl 1 rE_ t.aC,sl 2 sE t.sT]),(3,cell b3 [sl 1 rE_ ((tR s).1.aC),sl 2 sE ((tR s).1.sT)]),(4,cell b4 [eqv (.slice none 0 0),eqv (.slice none 0 0)]),(5,cell b5 [bl false]),(8,cell b8 [mpv 39 b39]),(9,cell b9 [osl 43 v]),(10,cell b10 [sl 1 rE_ t.aC,osl 100 v10]),(12,cell b12 [int ((k3 (ix ql i)).1),int ((k3 (ix ql i)).2.1),int ((k3 (ix ql i)).2.2)]),(13,cell b13 [sl 1 nE ac,osl 30 (sv v63)]),(30,own (sv v63) 3 1 nE (List.replicate t.aC.length (-1))),(39,mp b39 triV triD intV mm),(43,own v 194 3 spotE ql),(100,own v10 81 2 sE outs)]) (fun p=>(p.1≤ac.length)∧(p.2=orAll (ac.take p.1)∧0≤p.2∧p.2<256)) (fun p=>ac.length- p.1) ⟨0,(0:Int)⟩ ⟨hI1_0,hI1_1⟩ ⟨id,id,id,id,id,id,id,id,id,id,id,id,id,id,id,tV⟩ ⟨rI,rI,rI,rI,rI,rI,rI,rI,rI,rI,rI,rI,rI,tV⟩ ?_
    intro⟨k1,cn⟩ hG1
    obtain⟨hk1,hI1⟩:(k1≤ac.length)∧(cn=orAll (ac.take k1)∧0≤cn∧cn<256):=hG1
    show Ct _ _ _ _ [(2,ptr 2 b2 0),(3,ptr 3 b3 0),(4,ptr 4 b4 0),(5,ptr 5 b5 0),(7,sl 1 nE (ix (everyS t.aC).sT 0).aP),(8,ptr 8 b8 0),(9,ptr 9 b9 0),(10,ptr 10 b10 0),(11,int (i:Int)),(12,ptr 12 b12 0),(13,ptr 13 b13 0),(14,int cn),(86,sl 1 nE ac),(87,int (ac.length:Int)),(88,int (k1:Int))] [(2,cell b2 [sl 1 rE_ t.aC,sl 2 sE t.sT]),(3,cell b3 [sl 1 rE_ ((tR s).1.aC),sl 2 sE ((tR s).1.sT)]),(4,cell b4 [eqv (.slice none 0 0),eqv (.slice none 0 0)]),(5,cell b5 [bl false]),(8,cell b8 [mpv 39 b39]),(9,cell b9 [osl 43 v]),(10,cell b10 [sl 1 rE_ t.aC,osl 100 v10]),(12,cell b12 [int ((k3 (ix ql i)).1),int ((k3 (ix ql i)).2.1),int ((k3 (ix ql i)).2.2)]),(13,cell b13 [sl 1 nE ac,osl 30 (sv v63)]),(30,own (sv v63) 3 1 nE (List.replicate t.aC.length (-1))),(39,mp b39 triV triD intV mm),(43,own v 194 3 spotE ql),(100,own v10 81 2 sE outs)] _
    refine sq (rg (bi J J b_lss (nl (th (sq ?_)))))
    refine cd J (fun hc3=> ?_) (fun hc3=> ?_)
    ·try simp at hc3
     have hkb:=hab _ (ix_memS (l:=ac) (i:=k1) O)
     refine sk (th (sq (bk (sq (rg (iF J J T.sl36 O gB (lF J J T.one3 (ag (nl (th (rg (mv (mv (bi J J (b_orI O O O O) (ag (nl (eb (th (rg (bi J J (b_add i6) (mv (nl ?_))))))))))))))))))))))
     have hN0:(k1+1)≤ac.length:=by
      first|omega|simp_all
     have hN1:((cn.toNat|||(ix ac k1).toNat:Nat):Int)=orAll (ac.take (k1+1))∧0≤((cn.toNat|||(ix ac k1).toNat:Nat):Int)∧((cn.toNat|||(ix ac k1).toNat:Nat):Int)<256:=by
      refine⟨?_,O,or_lt256 hI1.2.2 hkb.2⟩
      rw[take_s O,orAll_snoc,←hI1.1]
     exact ln (⟨k1+1,((cn.toNat|||(ix ac k1).toNat:Nat):Int)⟩:Nat × Int) ⟨hN0,hN1⟩ dO ⟨id,id,id,id,id,id,id,id,id,id,id,id,id,id,id,tV⟩ ⟨rI,rI,rI,rI,rI,rI,rI,rI,rI,rI,rI,rI,rI,tV⟩
    ·try simp at hc3
     refine ex (xt_ (xt_ (xb (th (sq (sq (rg (mv (cal0 (φs:= [int cn]) (φ:=clo 162 [fp [int cn]]) ⟨J,tV⟩ (prog3.In_ok cn) T.ent124 (nl (th (bk ?_))))))))))))
     have hR0:QN t (tR s).1 i ql 0 ql mm (List.replicate t.aC.length (-1)):=by
      exact qn_zero hQW
     refine rf (κ:=Value × (List (Int × Int)) × (List ((Int × Int × Int) × Int)) × (List Int)) 900 (fun p=> [(2,cell b2 [sl 1 rE_ t.aC,sl 2 sE t.sT]),(3,cell b3 [sl 1 rE_ ((tR s).1.aC),sl 2 sE ((tR s).1.sT)]),(4,cell b4 [eqv (.slice none 0 0),eqv (.slice none 0 0)]),(5,cell b5 [bl false]),(8,cell b8 [mpv 39 b39]),(9,cell b9 [osl 43 p.1]),(10,cell b10 [sl 1 rE_ t.aC,osl 100 v10]),(12,cell b12 [int ((k3 (ix ql i)).1),int ((k3 (ix ql i)).2.1),int ((k3 (ix ql i)).2.2)]),(13,cell b13 [sl 1 nE ac,osl 30 (sv v63)]),(30,own (sv v63) 3 1 nE p.2.2.2),(39,mp b39 triV triD intV p.2.2.1),(43,own p.1 194 3 spotE p.2.1),(100,own v10 81 2 sE outs)]) (fun iR p=>QN t (tR s).1 i ql iR p.2.1 p.2.2.1 p.2.2.2) (fun c p=>c= .ret∧(500<(qL t (tR s).1).length)) J (InIt cn O O) T.ent162 J (fun _=>J) (fun _=>J) ⟨v,ql,mm,List.replicate t.aC.length (-1)⟩ hR0 ⟨rI,rI,rI,rI,rI,rI,rI,rI,rI,rI,rI,rI,rI,tV⟩ ?_ ?_ ?_ (fun id k h=>nomatch h.1) (fun c k h=> .inl h.1)
     ·intro m0 ⟨v2,l2,mm2,nx⟩ x0 hG0 hx0 l R w1 M1 F1 hRd
      have hR0:QN t (tR s).1 i ql m0 l2 mm2 nx:=hG0
      show Ct _ _ _ _ _ ((900,obj l (.loop R)):: [(2,cell b2 [sl 1 rE_ t.aC,sl 2 sE t.sT]),(3,cell b3 [sl 1 rE_ ((tR s).1.aC),sl 2 sE ((tR s).1.sT)]),(4,cell b4 [eqv (.slice none 0 0),eqv (.slice none 0 0)]),(5,cell b5 [bl false]),(8,cell b8 [mpv 39 b39]),(9,cell b9 [osl 43 v2]),(10,cell b10 [sl 1 rE_ t.aC,osl 100 v10]),(12,cell b12 [int ((k3 (ix ql i)).1),int ((k3 (ix ql i)).2.1),int ((k3 (ix ql i)).2.2)]),(13,cell b13 [sl 1 nE ac,osl 30 (sv v63)]),(30,own (sv v63) 3 1 nE nx),(39,mp b39 triV triD intV mm2),(43,own v2 194 3 spotE l2),(100,own v10 81 2 sE outs)]) _
      have hcn2:cn=orAll (qA t (tR s).1 (ix ql i)):=by rw[←hJ2,hI1.1,show k1=ac.length by omega,List.take_length]
      have hx2:(actsL (qA t (tR s).1) (ix ql i))[m0]?=some x0:=by unfold actsL;rw[←hcn2];exact hx0
      obtain⟨a,rfl,ha63,hha⟩:=listOf_get hx0
      have hha2:has (orAll (qA t (tR s).1 (ix ql i))) (a:Int)=true:=by rw[←hcn2];exact hha
      have hal8:=qA_has hha2
      have hqok1:=qN_ok ht hT hU hTa (hQW.ok _ (ix_memS hc1)) hha2
      have hnl:nx.length=t.aC.length:=by rw[hR0.nx];simp
      have hl2f:=hR0.few
      refine rg (ag (nl (aq hRd J (bk (sq (rg (bd (css:= [(0,_)]) T.st194 (eC (eC (eC eZ))) ⟨J,J,p1 (φ:=int 1) J,tV⟩ (al (key:=18) T.z194 (eC (eC (eC eZ))) fun b18=>(sPA (cs':= [int 1,int 0,int 0]) J J J T.agg194 J J (nl (th (sq (sq (rg (fP J T.fld194_0 (lP J J J T.one192 (bi J J b_eql (mv ?_))))))))))))))))))
      apply gAnd (t:=103) (pd:=115) rfl
      rotate_left
      ·intro hg0 fin
       have hg0':=hg0
       try simp at hg0'
       have hp0:(k3 (ix ql i)).1=0:=by simpa using hg0
       have hnb:=k3_ne hp0
       have hk3:=k3_at hnb
       have hpb:=(hQW.ok _ (ix_memS hc1)).resolve_left hnb
       obtain⟨hp1,hp2,hp3,hp4⟩:=hpb
       have hk1:(k3 (ix ql i)).2.1=(ix ql i).1:=by rw[hk3]
       have hk2:(k3 (ix ql i)).2.2=(ix ql i).2:=by rw[hk3]
       have hst:=ht.st ((k3 (ix ql i)).2.1).toNat O
       have hss:=hT.st ((k3 (ix ql i)).2.2).toNat O
       have htl:=hst.len
       have hsl:=hss.len
       exact gy J J J hg0 (fP J T.fld25_1 (gy J J J hg0 (lP J J J T.one23 (gy J J J hg0 (fP J T.fld194_2 (gy J J J hg0 (lP J J J T.one3 (gy J J J hg0 (iF J J T.sl23 O gB (gy J J J hg0 (fF J T.fld81_1 (gy J J J hg0 (lF J J T.one36 (gy J J J hg0 (mv (gy J J J hg0 (iF J J T.sl36 O gB (gy J J J hg0 (lF J J T.one3 (gy J J J hg0 (bi J J b_geq (pkT J hg0 J (drp (X:= [(114,_),(113,_),(112,_),(111,_),(110,_),(109,_),(108,_),(107,_),(106,_),(105,_),(104,_)]) ⟨J,J,J,J,J,J,J,J,J,J,J,tV⟩ fin)))))))))))))))))))))))
      ·intro hg0 fin
       exact gn J J J hg0 J J (gn J J J hg0 J J (gn J J J hg0 J J (gn J J J hg0 J J (gn J J J hg0 J J (gn J J J hg0 J J (gn J J J hg0 J J (gn J J J hg0 J J (gn J J J hg0 J J (gn J J J hg0 J J (gn J J J hg0 J J (pkF J hg0 J (drp (X:= [(114,_),(113,_),(112,_),(111,_),(110,_),(109,_),(108,_),(107,_),(106,_),(105,_),(104,_)]) ⟨J,J,J,J,J,J,J,J,J,J,J,tV⟩ fin))))))))))))
      refine nl (th ?_)
      refine jn (κ:=Int × Int × Int) (fun p=> [(4,ptr 4 b4 0),(5,ptr 5 b5 0),(8,ptr 8 b8 0),(9,ptr 9 b9 0),(13,ptr 13 b13 0),(17,int (a:Int)),(18,ptr 18 b18 0)]) (fun p=> [(2,cell b2 [sl 1 rE_ t.aC,sl 2 sE t.sT]),(3,cell b3 [sl 1 rE_ ((tR s).1.aC),sl 2 sE ((tR s).1.sT)]),(4,cell b4 [eqv (.slice none 0 0),eqv (.slice none 0 0)]),(5,cell b5 [bl false]),(8,cell b8 [mpv 39 b39]),(9,cell b9 [osl 43 v2]),(10,cell b10 [sl 1 rE_ t.aC,osl 100 v10]),(12,cell b12 [int ((k3 (ix ql i)).1),int ((k3 (ix ql i)).2.1),int ((k3 (ix ql i)).2.2)]),(13,cell b13 [sl 1 nE ac,osl 30 (sv v63)]),(18,cell b18 [int p.1,int p.2.1,int p.2.2]),(30,own (sv v63) 3 1 nE nx),(39,mp b39 triV triD intV mm2),(43,own v2 194 3 spotE l2),(100,own v10 81 2 sE outs),(900,obj l (.loop { R with state:= .busy }))]) (fun p=>(p.1,p.2.1,p.2.2)=k3 (qN t (tR s).1 (ix ql i) a)) ?_ ?_
      ·
       refine cd J (fun hc4=> ?_) (fun hc4=> ?_)
       ·try simp at hc4
        have hp0:(k3 (ix ql i)).1=0:=hc4.1
        have hnb:=k3_ne hp0
        have hk3:=k3_at hnb
        have hpb:=(hQW.ok _ (ix_memS hc1)).resolve_left hnb
        obtain⟨hp1,hp2,hp3,hp4⟩:=hpb
        have hk1:(k3 (ix ql i)).2.1=(ix ql i).1:=by rw[hk3]
        have hk2:(k3 (ix ql i)).2.2=(ix ql i).2:=by rw[hk3]
        have hst:=ht.st ((k3 (ix ql i)).2.1).toNat O
        have hss:=hT.st ((k3 (ix ql i)).2.2).toNat O
        have htl:=hst.len
        have hsl:=hss.len
        have hgo:=qN_go ht hT hU hTa (hQW.ok _ (ix_memS hc1)) hnb hha2 (by show 0≤ix (ix (tR s).1.sT (ix ql i).2.toNat).next a;have h:=hc4.2;rw[hk2] at h;exact h)
        refine dr (nh:=21) [0,1,0,4,15,31,63,0,255,511,0,1024,0,4096,15360,31744,64512,0,261120,523264,1048575,2097151] T.mixed kR ?_
        refine st_ J (fun _ _ _ gq kq=>fP (gq.1.trans J) T.fld25_1 kq) ?_
        refine st_ J (fun _ _ _ gq kq=>lP (gq.1.trans J) J J T.one23 kq) ?_
        refine st_ J (fun _ _ _ gq kq=>fP (gq.1.trans J) T.fld194_1 kq) ?_
        refine st_ J (fun _ _ _ gq kq=>lP (gq.1.trans J) J J T.one3 kq) ?_
        refine st_ J (fun _ _ _ gq kq=>iF (gq.1.trans J) (gq.2.1.trans J) T.sl23 O gB kq) ?_
        refine st_ J (fun _ _ _ gq kq=>fF (gq.1.trans J) T.fld81_1 kq) ?_
        refine st_ J (fun _ _ _ gq kq=>lF (gq.1.trans J) J T.one36 kq) ?_
        refine st_ J (fun _ _ _ gq kq=>mv' (gq.1.trans J) kq) ?_
        refine st_ J (fun _ _ _ gq kq=>iF (gq.1.trans J) (gq.2.1.trans J) T.sl36 O gB kq) ?_
        refine st_ J (fun _ _ _ gq kq=>lF (gq.1.trans J) J T.one3 kq) ?_
        refine st_ J (fun _ _ _ gq kq=>fP (gq.1.trans J) T.fld25_1 kq) ?_
        refine st_ J (fun _ _ _ gq kq=>lP (gq.1.trans J) J J T.one23 kq) ?_
        refine st_ J (fun _ _ _ gq kq=>fP (gq.1.trans J) T.fld194_2 kq) ?_
        refine st_ J (fun _ _ _ gq kq=>lP (gq.1.trans J) J J T.one3 kq) ?_
        refine st_ J (fun _ _ _ gq kq=>iF (gq.1.trans J) (gq.2.1.trans J) T.sl23 O gB kq) ?_
        refine st_ J (fun _ _ _ gq kq=>fF (gq.1.trans J) T.fld81_1 kq) ?_
        refine st_ J (fun _ _ _ gq kq=>lF (gq.1.trans J) J T.one36 kq) ?_
        refine st_ J (fun _ _ _ gq kq=>mv' (gq.1.trans J) kq) ?_
        refine st_ J (fun _ _ _ gq kq=>iF (gq.1.trans J) (gq.2.1.trans J) T.sl36 O gB kq) ?_
        refine st_ J (fun _ _ _ gq kq=>lF (gq.1.trans J) J T.one3 kq) ?_
        refine st_ J (fun _ _ _ gq kq=>bd (css:= [(0,_),(1,_),(2,_)]) T.st194 (eC (eC (eC eZ))) ⟨J,J,p1 (φ:=int 0) J,⟨J,J,p1 (φ:=int (ix (ix t.sT ((k3 (ix ql i)).2.1).toNat).next a)) (by exact(gq.1.trans J)),⟨J,J,p1 (φ:=int (ix (ix ((tR s).1.sT) ((k3 (ix ql i)).2.2).toNat).next a)) (by exact(gq.2.1.trans J)),tV⟩⟩⟩ kq) ?_
        refine pn (sPA (cs':= [int 0,int (ix (ix t.sT ((k3 (ix ql i)).2.1).toNat).next a),int (ix (ix ((tR s).1.sT) ((k3 (ix ql i)).2.2).toNat).next a)]) J J J T.agg194 J J (nl ?_))
        have hN0:((0:Int),(ix (ix t.sT ((k3 (ix ql i)).2.1).toNat).next a),(ix (ix ((tR s).1.sT) ((k3 (ix ql i)).2.2).toNat).next a))=k3 (qN t (tR s).1 (ix ql i) a):=by
         have e:qN t (tR s).1 (ix ql i) a=(ix (ix t.sT (ix ql i).1.toNat).next a,ix (ix (tR s).1.sT (ix ql i).2.toNat).next a):=by
          unfold qN
          rw[if_pos ⟨hnb,by have h:=hc4.2;rw[hk2] at h;exact h⟩]
         rw[e,hk1,hk2]
         exact(k3_at (p:=(ix (ix t.sT (ix ql i).1.toNat).next a,ix (ix (tR s).1.sT (ix ql i).2.toNat).next a)) (fun g=>by have g:=congrArg Prod.fst g;have g:ix (ix t.sT (ix ql i).1.toNat).next a= -1:=g;have:=hgo.1;dsimp only [nxt] at this;omega)).symm
        exact jx ⟨(0:Int),ix (ix t.sT ((k3 (ix ql i)).2.1).toNat).next a,ix (ix ((tR s).1.sT) ((k3 (ix ql i)).2.2).toNat).next a⟩ hN0 ⟨id,id,id,id,id,id,id,tV⟩ ⟨rI,rI,rI,rI,rI,rI,rI,rI,rI,rI,rI,rI,rI,rI,rI,tV⟩
       ·try simp at hc4
        refine sk ?_
        have hN0:((1:Int),(0:Int),(0:Int))=k3 (qN t (tR s).1 (ix ql i) a):=by
         have e:qN t (tR s).1 (ix ql i) a=bes:=by
          unfold qN
          rw[if_neg]
          rintro⟨h1,h2⟩
          have h3:=k3_at h1
          have h4:(k3 (ix ql i)).1=0:=by rw[h3]
          have h5:(k3 (ix ql i)).2.2=(ix ql i).2:=by rw[h3]
          rw[←h5] at h2
          dsimp only [nxt] at h2
          exact absurd h2 (by have:=hc4 h4;omega)
         rw[e,k3_bes]
        exact jx ⟨(1:Int),(0:Int),(0:Int)⟩ hN0 ⟨id,id,id,id,id,id,id,tV⟩ ⟨rI,rI,rI,rI,rI,rI,rI,rI,rI,rI,rI,rI,rI,rI,rI,tV⟩
      ·intro⟨px,py,pz⟩ hG
       have hJ4:(px,py,pz)=k3 (qN t (tR s).1 (ix ql i) a):=hG
       skip
       show At _ _ _ [(4,ptr 4 b4 0),(5,ptr 5 b5 0),(8,ptr 8 b8 0),(9,ptr 9 b9 0),(13,ptr 13 b13 0),(17,int (a:Int)),(18,ptr 18 b18 0)] [(2,cell b2 [sl 1 rE_ t.aC,sl 2 sE t.sT]),(3,cell b3 [sl 1 rE_ ((tR s).1.aC),sl 2 sE ((tR s).1.sT)]),(4,cell b4 [eqv (.slice none 0 0),eqv (.slice none 0 0)]),(5,cell b5 [bl false]),(8,cell b8 [mpv 39 b39]),(9,cell b9 [osl 43 v2]),(10,cell b10 [sl 1 rE_ t.aC,osl 100 v10]),(12,cell b12 [int ((k3 (ix ql i)).1),int ((k3 (ix ql i)).2.1),int ((k3 (ix ql i)).2.2)]),(13,cell b13 [sl 1 nE ac,osl 30 (sv v63)]),(18,cell b18 [int px,int py,int pz]),(30,own (sv v63) 3 1 nE nx),(39,mp b39 triV triD intV mm2),(43,own v2 194 3 spotE l2),(100,own v10 81 2 sE outs),(900,obj l (.loop { R with state:= .busy }))]
       refine th (sq (rg (lP rfl rfl rfl T.one195 (lPA rfl rfl T.agg194 rfl (lookup2 (z:=(0:Int)) (q:=(px,py,pz)) rfl rfl agg_tri T.map195 (by rw[hJ4];exact k3_dom f1 f4 hqok1) T.zvi3 (mv (xt rfl rfl (xt rfl rfl (ag (ag (nl (th (sq (sq (rg (mv (no rfl (nl (th ?_)))))))))))))))))))
       refine cd J (fun hc5=> ?_) (fun hc5=> ?_)
       ·skip
        have h5:(mget mm2 (px,py,pz)).isSome=false:=by
         revert hc5
         cases(mget mm2 (px,py,pz)).isSome<;>simp
        refine sq (sq (rg (lP J J J T.one196 (lnO J J T.sl196 (bi J J b_eql (nl (th ?_)))))))
        refine cd J (fun hc6=> ?_) (fun hc6=> ?_)
        ·try simp at hc6
         refine sq (rg (bd (css:= []) T.st25 (eC (eC eZ)) trivial (sPA (cs':= [eqv (.slice none 0 0),eqv (.slice none 0 0)]) J J J T.agg25 J J (sP (φ:=bl false) J J J T.one4 J (nl (th (rt (rt_ (rt_ (rb ?_))))))))))
         have hRr:500<(qL t (tR s).1).length:=by
          exact qn_fail hQW hR0 hc1 hx2 hJ4 h5 hc6
         exact rqR ⟨v2,l2,mm2,nx⟩ ⟨rfl,hRr⟩ ⟨rI,rI,rI,rI,rI,rI,rI,rI,rI,rI,rI,rI,rI,rI,tV⟩
        ·try simp at hc6
         refine sk (th (sq (rg (lP J J J T.one196 (lnO J J T.sl196 (ag (nl (th (sq (rg (lP J J J T.one195 (lPA J J T.agg194 J (mv (mapUpdate (q:=(px,py,pz)) (u:=(l2.length:Int)) J J agg_tri J T.map195 (by rw[hJ4];exact k3_dom f1 f4 hqok1) (nl (th (rg (lP J J J T.one196 (lPA J J T.agg194 J (bs (css:= [[int px,int py,int pz]]) T.mk196 ⟨J,J,pA (cs:= [int px,int py,int pz]) J,tV⟩ J J J (ap (key:=43) (zs:= [qN t (tR s).1 (ix ql i) a]) osl_eq J J (spot_le hJ4) T.mk196 (by unfold maxL at*;simp;omega) (by unfold maxL at*;simp;omega) fun v157=>(storePO J J J J T.one196 J (nl (th (rg (fP J T.fld81_1 (lP J J J T.one36 (mv (mv (iO J J J T.sl36 O O (sO (φ:=int (l2.length:Int)) J J J T.one3 gB J (y':=(l2.length:Int)) J (nl (eb ?_)))))))))))))))))))))))))))))))))
         have hN0:QN t (tR s).1 i ql (m0+1) (l2++ [qN t (tR s).1 (ix ql i) a]) (mset mm2 (px,py,pz) (l2.length:Int)) (nx.set a (l2.length:Int)):=by
          exact qn_new hQW hR0 hc1 hqok1 hx2 hal8 hJ4 h5 O
         exact rqN ⟨v157,l2++ [qN t (tR s).1 (ix ql i) a],mset mm2 (px,py,pz) (l2.length:Int),nx.set a (l2.length:Int)⟩ hN0 ⟨rI,rI,rI,rI,rI,rI,rI,rI,rI,rI,rI,rI,rI,rI,tV⟩
       ·skip
        have h5:(mget mm2 (px,py,pz)).isSome=true:=by
         revert hc5
         cases(mget mm2 (px,py,pz)).isSome<;>simp
        refine sk (th (rg (fP J T.fld81_1 (lP J J J T.one36 (mv (mv (iO J J J T.sl36 O O (sO (φ:=int ((mget mm2 (px,py,pz)).getD (0:Int))) J J J T.one3 gB J (y':=((mget mm2 (px,py,pz)).getD (0:Int))) J (nl (eb ?_))))))))))
        have hN0:QN t (tR s).1 i ql (m0+1) l2 mm2 (nx.set a ((mget mm2 (px,py,pz)).getD (0:Int))):=by
         exact qn_old hQW hR0 hc1 hx2 hal8 hJ4 h5
        exact rqN ⟨v2,l2,mm2,nx.set a ((mget mm2 (px,py,pz)).getD (0:Int))⟩ hN0 ⟨rI,rI,rI,rI,rI,rI,rI,rI,rI,rI,rI,rI,rI,rI,tV⟩
     ·intro⟨v2,l2,mm2,nx⟩ hG0
      have hR0:QN t (tR s).1 i ql (listOf 63 cn).length l2 mm2 nx:=hG0
      show At _ _ _ _ [(2,cell b2 [sl 1 rE_ t.aC,sl 2 sE t.sT]),(3,cell b3 [sl 1 rE_ ((tR s).1.aC),sl 2 sE ((tR s).1.sT)]),(4,cell b4 [eqv (.slice none 0 0),eqv (.slice none 0 0)]),(5,cell b5 [bl false]),(8,cell b8 [mpv 39 b39]),(9,cell b9 [osl 43 v2]),(10,cell b10 [sl 1 rE_ t.aC,osl 100 v10]),(12,cell b12 [int ((k3 (ix ql i)).1),int ((k3 (ix ql i)).2.1),int ((k3 (ix ql i)).2.2)]),(13,cell b13 [sl 1 nE ac,osl 30 (sv v63)]),(30,own (sv v63) 3 1 nE nx),(39,mp b39 triV triD intV mm2),(43,own v2 194 3 spotE l2),(100,own v10 81 2 sE outs)]
      refine eb (th (rg (fP rfl T.fld25_1 (lP rfl rfl rfl T.one23 (fzc 13 30 1 rfl rfl rfl rfl (lPA rfl rfl T.agg81 rfl (bsE (enc:=sE) (xs:= [(⟨ac,nx⟩)]) (css:= [[sl 1 nE ac,sl 1 nE nx]]) T.mk23 ⟨rfl,rfl,pA (cs:= [sl 1 nE ac,sl 1 nE nx]) rfl,tV⟩ rfl rfl rfl rfl (ap (key:=100) (zs:= [(⟨ac,nx⟩)]) osl_eq rfl rfl rfl T.mk23 (by unfold maxL at*;simp;omega) (by unfold maxL at*;simp;omega) fun v167=>(fP rfl T.fld25_1 (storePO rfl rfl rfl rfl T.one23 rfl (nl (eb (th (rg (mv (bi rfl rfl (b_add i6) (ag (nl ?_))))))))))))))))))
      have hN0:QW t (tR s).1 (i+1) l2 mm2 (outs++ [(⟨ac,nx⟩)]):=by
       have hcl:listOf 63 cn=actsL (qA t (tR s).1) (ix ql i):=by
        unfold actsL
        rw[←hJ2,hI1.1,show k1=ac.length by omega,List.take_length]
       rw[hcl] at hR0
       rw[hJ2]
       exact qn_end hn8 hQW hR0 hc1
      exact ln (⟨i+1,v2,l2,mm2,v167,outs++ [(⟨ac,nx⟩)]⟩:Nat × Value × (List (Int × Int)) × (List ((Int × Int × Int) × Int)) × Value × (List SA)) hN0 (by have:=hQW.few;show 501- (i+1)<501- i;omega) ⟨id,id,id,id,id,id,id,id,id,tV⟩ ⟨rI,rI,rI,rI,rI,rI,rI,rI,rI,rI,tV⟩
     ·intro⟨v2,l2,mm2,nx⟩ hS0
      have hRt0:500<(qL t (tR s).1).length:=hS0.2
      show At _ _ _ _ [(2,cell b2 [sl 1 rE_ t.aC,sl 2 sE t.sT]),(3,cell b3 [sl 1 rE_ ((tR s).1.aC),sl 2 sE ((tR s).1.sT)]),(4,cell b4 [eqv (.slice none 0 0),eqv (.slice none 0 0)]),(5,cell b5 [bl false]),(8,cell b8 [mpv 39 b39]),(9,cell b9 [osl 43 v2]),(10,cell b10 [sl 1 rE_ t.aC,osl 100 v10]),(12,cell b12 [int ((k3 (ix ql i)).1),int ((k3 (ix ql i)).2.1),int ((k3 (ix ql i)).2.2)]),(13,cell b13 [sl 1 nE ac,osl 30 (sv v63)]),(30,own (sv v63) 3 1 nE nx),(39,mp b39 triV triD intV mm2),(43,own v2 194 3 spotE l2),(100,own v10 81 2 sE outs)]
      refine rb (rt_ (rb (rt_ (rt_ (rb (rt_ ?_))))))
      refine kncA 4 0 (sl 1 rE_ []) rfl rfl slnil ?_
      refine kncA 4 1 (sl 2 sE []) rfl rfl slnil ?_
      have hr0: []=((quoS t s).1).aC:=by
       rw[quoS_no h00 hRt0]
      have hr1: []=((quoS t s).1).sT:=by
       rw[quoS_no h00 hRt0]
      have hr2:false=((quoS t s).2):=by
       rw[quoS_no h00 hRt0]
      exact rE () [.cell 4 25,.cell 5 4] J [agg [sl 1 rE_ [],sl 2 sE []],bl false] ⟨.agg J J T.agg25 J J,.one J J T.one4 J,tV⟩ (cA3 (fun x0 x1 x2=>rV [agg [sl 1 rE_ x0,sl 2 sE x1],bl x2]) hr0 hr1 hr2) trivial eX
  ·try simp at hc1
   have hdn:=qw_done hQW O
   have hq5:(qL t (tR s).1).length≤500:=by rw[←hdn.1];exact hQW.few
   have hq1:=quoS_yes (t:=t) h00 hq5
   have hqok:oK (quoD t (tR s).1):=q_ok ht (q_numb ht hT hU hTa) rfl O
   refine ex (xt_ (xt_ (xb (th (sq (rg (fzc 10 100 1 J J J J (lPA J J T.agg25 J (kn 170 (spec (quoD t (tR s).1)) J (by rw[show outs=(quoD t (tR s).1).sT from hdn.2];exact fun h=>h) (calW (φs:= [agg [sl 1 rE_ (quoD t (tR s).1).aC,sl 2 sE (quoD t (tR s).1).sT]]) (φ:=tup [agg [sl 1 rE_ ((tR (quoD t (tR s).1)).1.aC),sl 2 sE ((tR (quoD t (tR s).1)).1.sT)],sl 1 nE ((tR (quoD t (tR s).1)).2)]) ⟨J,tV⟩ (prog9.Trimmed_ok (quoD t (tR s).1) aS) T.ent68 (fun N hN=>fun h=>tup_le (cs:= [agg [fre N (sl 1 rE_ ((tR (quoD t (tR s).1)).1.aC)),frb (ix (hOl (quoD t (tR s).1)) 0) N (sl 2 sE ((tR (quoD t (tR s).1)).1.sT))],sl 1 nE ((tR (quoD t (tR s).1)).2)]) (ds:= [agg [sl 1 rE_ ((tR (quoD t (tR s).1)).1.aC),sl 2 sE ((tR (quoD t (tR s).1)).1.sT)],sl 1 nE ((tR (quoD t (tR s).1)).2)]) ⟨fun h=>agg_le (cs:= [fre N (sl 1 rE_ ((tR (quoD t (tR s).1)).1.aC)),frb (ix (hOl (quoD t (tR s).1)) 0) N (sl 2 sE ((tR (quoD t (tR s).1)).1.sT))]) (ds:= [sl 1 rE_ ((tR (quoD t (tR s).1)).1.aC),sl 2 sE ((tR (quoD t (tR s).1)).1.sT)]) ⟨fun h=>nw_le h,fun h=>frb_le h,tV⟩ h,fun h=>h,tV⟩ h) (mv (xt J J (xt J J (sPA (cs':= [sl 1 rE_ ((tR (quoD t (tR s).1)).1.aC),sl 2 sE ((tR (quoD t (tR s).1)).1.sT)]) J J J T.agg25 J J (nl (th (sq (rg (lPA J J T.agg25 J (sPA (cs':= [sl 1 rE_ ((tR (quoD t (tR s).1)).1.aC),sl 2 sE ((tR (quoD t (tR s).1)).1.sT)]) J J J T.agg25 J J (sP (φ:=bl true) J J J T.one4 J (nl (th (rt ?_))))))))))))))))))))))))
   have hr0:((tR (quoD t (tR s).1)).1.aC)=((quoS t s).1).aC:=by
    rw[hq1]
   have hr1:((tR (quoD t (tR s).1)).1.sT)=((quoS t s).1).sT:=by
    rw[hq1]
   have hr2:true=((quoS t s).2):=by
    rw[hq1]
   exact rE () [.cell 4 25,.cell 5 4] J [agg [sl 1 rE_ ((tR (quoD t (tR s).1)).1.aC),sl 2 sE ((tR (quoD t (tR s).1)).1.sT)],bl true] ⟨.agg J J T.agg25 J J,.one J J T.one4 J,tV⟩ (cA3 (fun x0 x1 x2=>rV [agg [sl 1 rE_ x0,sl 2 sE x1],bl x2]) hr0 hr1 hr2) trivial eX
theorem Divide_ok (t s:SS) (htm:smallSpec t) (hsm:smallSpec s):
 Fn0 Tryz.prog 46 [spec t,spec s] (tup [spec (divS t s).1,int (divS t s).2]):=by
 refine fnI Tryz.func46 rfl rfl (fun w0 F0=> ?_)
 refine fcC (inhS 0 J) (fun hS0=> ?_)
 obtain⟨hsa0,hss0,hse0⟩:=sLn hS0
 refine fcC (inhS 1 J) (fun hS1=> ?_)
 obtain⟨hsa1,hss1,hse1⟩:=sLn hS1
 refine sq (rg (bx (key:=2) (cs:= [sl 1 rE_ t.aC,sl 2 sE t.sT]) J fun b2=>(bx (key:=3) (cs:= [sl 1 rE_ s.aC,sl 2 sE s.sT]) J fun b3=>(al (key:=4) T.z25 (eC (eC eZ)) fun b4=>(ag (nl (th (sq (sq (rg (lPA J J T.agg25 J (lPA J J T.agg25 J (cal0 (φs:= [agg [sl 1 rE_ t.aC,sl 2 sE t.sT],agg [sl 1 rE_ s.aC,sl 2 sE s.sT]]) (φ:=int (fineE t s)) ⟨J,J,tV⟩ (judg.Fine_ok t s aS aS) T.ent61 (ag (nl (th (sq (rg (mv (bi J J b_neq (nl (th ?_))))))))))))))))))))))
 refine cd J (fun hc0=> ?_) (fun hc0=> ?_)
 ·try simp at hc0
  have hd:divS t s=(⟨[],[]⟩,fineE t s):=by unfold divS;rw[if_neg hc0]
  refine sq (rg (bd (css:= []) T.st25 (eC (eC eZ)) trivial (mv (sPA (cs':= [eqv (.slice none 0 0),eqv (.slice none 0 0)]) J J J T.agg25 J J (ag (nl (th (rt (rt_ ?_)))))))))
  refine kncA 4 0 (sl 1 rE_ []) rfl rfl slnil ?_
  refine kncA 4 1 (sl 2 sE []) rfl rfl slnil ?_
  have hr0: []=((divS t s).1).aC:=by
   rw[hd]
  have hr1: []=((divS t s).1).sT:=by
   rw[hd]
  have hr2:((fineE t s):Int)=((divS t s).2):=by
   rw[hd]
  exact rE () [.cell 4 25,.tmp 5] J [agg [sl 1 rE_ [],sl 2 sE []],int (fineE t s)] ⟨.agg J J T.agg25 J J,.tmp J,tV⟩ (cA3 (fun x0 x1 x2=>rV [agg [sl 1 rE_ x0,sl 2 sE x1],int x2]) hr0 hr1 hr2) trivial eX
 ·try simp at hc0
  obtain⟨htv,hsv,hts⟩:=Go.Proofs.YtcjemmihcplgdaaGreatDoor.fine_ok hc0
  have ht:=okSpec_of htv
  have hs:=okSpec_of hsv
  refine sk (th (sq (rg (lPA J J T.agg25 J (lPA J J T.agg25 J (cal0 (φs:= [agg [sl 1 rE_ t.aC,sl 2 sE t.sT],agg [sl 1 rE_ s.aC,sl 2 sE s.sT]]) (φ:=tup [agg [sl 1 rE_ ((quoS t s).1).aC,sl 2 sE ((quoS t s).1).sT],bl ((quoS t s).2)]) ⟨J,J,tV⟩ (divq.Quotient_ok t s aS aS aS) T.ent103 (mv (xt J J (xt J J (al (key:=7) T.z25 (eC (eC eZ)) fun b7=>(sPA (cs':= [sl 1 rE_ ((quoS t s).1).aC,sl 2 sE ((quoS t s).1).sT]) J J J T.agg25 J J (ag (nl (th (sq (sq (rg (mv (no J (nl (th ?_)))))))))))))))))))))
  refine cd J (fun hc1=> ?_) (fun hc1=> ?_)
  ·try simp at hc1
   have hd:divS t s=(⟨[],[]⟩,2):=by unfold divS;rw[if_pos hc0,if_neg (by simpa using hc1)]
   refine sq (rg (bd (css:= []) T.st25 (eC (eC eZ)) trivial (sPA (cs':= [eqv (.slice none 0 0),eqv (.slice none 0 0)]) J J J T.agg25 J J (ag (nl (th (rt (rt_ ?_))))))))
   refine kncA 4 0 (sl 1 rE_ []) rfl rfl slnil ?_
   refine kncA 4 1 (sl 2 sE []) rfl rfl slnil ?_
   have hr0: []=((divS t s).1).aC:=by
    rw[hd]
   have hr1: []=((divS t s).1).sT:=by
    rw[hd]
   have hr2:(2:Int)=((divS t s).2):=by
    rw[hd]
   exact rE () [.cell 4 25,.tmp 5] J [agg [sl 1 rE_ [],sl 2 sE []],int 2] ⟨.agg J J T.agg25 J J,.tmp J,tV⟩ (cA3 (fun x0 x1 x2=>rV [agg [sl 1 rE_ x0,sl 2 sE x1],int x2]) hr0 hr1 hr2) trivial eX
  ·try simp at hc1
   have hd:divS t s=((quoS t s).1,0):=by unfold divS;rw[if_pos hc0,if_pos (by simpa using hc1)]
   refine sk (th (sq (rg (lPA J J T.agg25 J (sPA (cs':= [sl 1 rE_ ((quoS t s).1).aC,sl 2 sE ((quoS t s).1).sT]) J J J T.agg25 J J (ag (nl (th (rt ?_)))))))))
   have hr0:((quoS t s).1).aC=((divS t s).1).aC:=by
    rw[hd]
   have hr1:((quoS t s).1).sT=((divS t s).1).sT:=by
    rw[hd]
   have hr2:(0:Int)=((divS t s).2):=by
    rw[hd]
   exact rE () [.cell 4 25,.tmp 5] J [agg [sl 1 rE_ ((quoS t s).1).aC,sl 2 sE ((quoS t s).1).sT],int 0] ⟨.agg J J T.agg25 J J,.tmp J,tV⟩ (cA3 (fun x0 x1 x2=>rV [agg [sl 1 rE_ x0,sl 2 sE x1],int x2]) hr0 hr1 hr2) trivial eX
theorem Missing_ok (t s:SS) (htm:smallSpec t) (hsm:smallSpec s):
 AL.Fn Tryz.prog 101 [spec t,spec s] [] (ι:= { z:SSys × Int//MissOK t s z }) (fun _ i=>tup [sys i.1.1,int i.1.2]) (fun _=> []):=by
 refine fnI Tryz.func101 rfl rfl (fun w0 F0=> ?_)
 refine fcC (inhS 0 J) (fun hS0=> ?_)
 obtain⟨hsa0,hss0,hse0⟩:=sLn hS0
 refine fcC (inhS 1 J) (fun hS1=> ?_)
 obtain⟨hsa1,hss1,hse1⟩:=sLn hS1
 refine sq (rg (bx (key:=2) (cs:= [sl 1 rE_ t.aC,sl 2 sE t.sT]) J fun b2=>(bx (key:=3) (cs:= [sl 1 rE_ s.aC,sl 2 sE s.sT]) J fun b3=>(al (key:=4) T.z43 (eC (eC eZ)) fun b4=>(ag (nl (th (sq (rg (lPA J J T.agg25 J (lPA J J T.agg25 J (cal0 (φs:= [agg [sl 1 rE_ t.aC,sl 2 sE t.sT],agg [sl 1 rE_ s.aC,sl 2 sE s.sT]]) (φ:=tup [agg [sl 1 rE_ ((divS t s).1).aC,sl 2 sE ((divS t s).1).sT],int ((divS t s).2)]) ⟨J,J,tV⟩ (divq.Divide_ok t s aS aS) T.ent46 (mv (xt J J (xt J J (al (key:=6) T.z25 (eC (eC eZ)) fun b6=>(sPA (cs':= [sl 1 rE_ ((divS t s).1).aC,sl 2 sE ((divS t s).1).sT]) J J J T.agg25 J J (ag (nl (th (sq (sq (rg (mv (bi J J b_neq (nl (th ?_)))))))))))))))))))))))))))
 refine cd J (fun hc0=> ?_) (fun hc0=> ?_)
 ·try simp at hc0
  refine sq (rg (bd (css:= []) T.st43 (eC (eC eZ)) trivial (mv (sPA (cs':= [eqv (.slice none 0 0),eqv (.slice none 0 0)]) J J J T.agg43 J J (ag (nl (th (rt (rt_ ?_)))))))))
  refine kncA 4 0 (sl 1 rE_ []) rfl rfl slnil ?_
  refine kncA 4 1 (sl 1 gE []) rfl rfl slnil ?_
  exact rE ⟨(⟨[],[]⟩,(divS t s).2),⟨fun _=>J,fun h=>absurd h hc0⟩⟩ [.cell 4 43,.tmp 5] J [agg [sl 1 rE_ [],sl 1 gE []],int ((divS t s).2)] ⟨.agg J J T.agg43 J J,.tmp J,tV⟩ J trivial eX
 ·try simp at hc0
  have hdm:smallSpec (divS t s).1:=DivM.div_small htm hc0
  refine sk (th (sq (rg (lPA J J T.agg25 J (cl (divw.Some_ok ((divS t s).1) aS) T.ent148 trivial fun N19 i19=>(xt J J (xt J J (sPA (cs':= [sl 1 rE_ i19.1.1.aC,sl 1 gE i19.1.1.sT]) J J J T.agg43 J J (ag (nl (th (rt ?_))))))))))))
  exact rE ⟨i19.1,⟨fun h=>absurd hc0 h,fun _=>i19.2⟩⟩ [.cell 4 43,.tmp 5] J [agg [sl 1 rE_ i19.1.1.aC,sl 1 gE i19.1.1.sT],int i19.1.2] ⟨.agg J J T.agg43 J J,.tmp J,tV⟩ J trivial eX
end divq
end
section
open ref01 ref03 ref04 ref06 prog prog2 prog3 prog6 prog13 starts Part Rungs LeftM TrimM RoundM MergeM BisM BisM4 BisM5 WalkM StepM WitM JudgM JudgM2 refw judg wit refj sysw divr divs divd dive divg divw divv divf divc divj divq divp LevM LevM2 ChsM QuoM FailM DivM QuoW RefM
namespace divm
end divm
end
section
open ref01 ref03 ref04 ref06 prog prog2 prog3 prog6 prog13 starts Part Rungs LeftM TrimM RoundM MergeM BisM BisM4 BisM5 WalkM StepM WitM JudgM JudgM2 refw judg wit refj sysw divr divs divd dive divg divw divv divf divc divj divq divp divm LevM LevM2 ChsM QuoM FailM DivM QuoW RefM FitM PartM EncM
attribute [local semireducible] sl eqv in
theorem edges0 {w:World} {F:Fz} {v:Value} (h:(sl 1 id [[eqv (.slice none 0 0)]]).p w F v):(sl 1 gE [([]:List (Int × Int))]).p w F v:=by
 obtain⟨A,cap,hv,hc,hm,h⟩:=h
 refine⟨A,cap,hv,hc,hm,fun _=> ?_⟩
 obtain⟨b,off,vs,hA,hb,hr,hl,he⟩:=h (by simp)
 refine⟨b,off,vs,hA,hb,hr,hl,fun i x hi=> ?_⟩
 have hi0:i=0:=by
  cases i with
  |zero=>rfl
  |succ i=>simp at hi
 subst hi0
 have hx:x= []:=by simpa using hi.symm
 subst hx
 have:=he 0 [eqv (.slice none 0 0)] rfl
 match hq:(vs.drop (0*1)).take 1,this with
 | [u],⟨h1,_⟩=>exact⟨slnil (n:=2) (enc:=pE) h1,tV⟩
namespace T
theorem ent99:Ent Tryz.prog 99:=ent_of kR
theorem ent100:Ent Tryz.prog 100:=ent_of kR
theorem ent101:Ent Tryz.prog 101:=ent_of kR
theorem ent102:Ent Tryz.prog 102:=ent_of kR
theorem ent54:Ent Tryz.prog 54:=ent_of kR
theorem ent24:Ent Tryz.prog 24:=ent_of kR
theorem fld132_0:FieldAt Tryz.prog 132 0 0:=fieldAt_of kR
theorem fld132_1:FieldAt Tryz.prog 132 1 1:=fieldAt_of kR
end T
namespace diva
theorem awake_ok:
 Fn0 Tryz.prog 45 [] (bl true):=by
 refine fnI Tryz.func45 rfl rfl (fun w0 F0=> ?_)
 have hgm:=PartM.goal_ok.small;have hpm:=part_okS.small;have hgo:=PartM.goal_ok;have hpo:=part_okS;have hz0:x0S.sT.length*(goalS.sT.length*partS.sT.length)≤1000000000:=by decide
 refine sq (rg (ag (nl (th (sq (rg (cal0 (φs:= []) (φ:=agg [sl 1 rE_ goalS.aC,sl 2 sE goalS.sT]) trivial divs.goal_ok T.ent99 (cal0 (φs:= []) (φ:=agg [sl 1 rE_ partS.aC,sl 2 sE partS.sT]) trivial divs.part_ok T.ent100 (cal0 (φs:= [agg [sl 1 rE_ goalS.aC,sl 2 sE goalS.sT],agg [sl 1 rE_ partS.aC,sl 2 sE partS.sT]]) (φ:=tup [agg [sl 1 rE_ ((divS goalS partS).1).aC,sl 2 sE ((divS goalS partS).1).sT],int ((divS goalS partS).2)]) ⟨J,J,tV⟩ (divq.Divide_ok goalS partS aS aS) T.ent46 (mv (xt J J (xt J J (al (key:=1) T.z25 (eC (eC eZ)) fun b1=>(sPA (cs':= [sl 1 rE_ ((divS goalS partS).1).aC,sl 2 sE ((divS goalS partS).1).sT]) J J J T.agg25 J J (ag (nl (th (sq (rg (cal0 (φs:= []) (φ:=agg [sl 1 rE_ goalS.aC,sl 2 sE goalS.sT]) trivial divs.goal_ok T.ent99 (cal0 (φs:= []) (φ:=agg [sl 1 rE_ partS.aC,sl 2 sE partS.sT]) trivial divs.part_ok T.ent100 (cl (divq.Missing_ok goalS partS aS aS) T.ent101 trivial fun N16 i16=>(mv (xt J J (xt J J (al (key:=3) T.z43 (eC (eC eZ)) fun b3=>(sPA (cs':= [sl 1 rE_ i16.1.1.aC,sl 1 gE i16.1.1.sT]) J J J T.agg43 J J (ag (nl (th (sq (rg (bsE (enc:=rE_) (xs:= [({ data:= #[97] }),({ data:= #[98] })]) (css:= [[str ({ data:= #[97] })],[str ({ data:= #[98] })]]) T.mk22 ⟨J,J,p1 (φ:=str ({ data:= #[97] })) J,⟨J,J,p1 (φ:=str ({ data:= #[98] })) J,tV⟩⟩ J J J J (bs (css:= [[eqv (.slice none 0 0)]]) T.mk41 ⟨J,J,p1 (φ:=eqv (.slice none 0 0)) J,tV⟩ J J J (kn 21 (sl 1 gE [[]]) J edges0 (bd (css:= [(0,_),(1,_)]) T.st43 (eC (eC eZ)) ⟨J,J,p1 (φ:=sl 1 rE_ [({ data:= #[97] }),({ data:= #[98] })]) J,⟨J,J,p1 (φ:=sl 1 gE [[]]) J,tV⟩⟩ (kn 22 (sys x0S) J (fun h=>h) (cal0 (φs:= []) (φ:=agg [sl 1 rE_ goalS.aC,sl 2 sE goalS.sT]) trivial divs.goal_ok T.ent99 (cal0 (φs:= []) (φ:=agg [sl 1 rE_ partS.aC,sl 2 sE partS.sT]) trivial divs.part_ok T.ent100 (cl (divj.Fits_ok x0S goalS partS aS aS O) T.ent102 trivial fun N25 i25=>(mv (xt J J (xt J J (al (key:=5) T.z132 (eC (eC (eC eZ))) fun b5=>(sPA (cs':= [bl i25.1.1,sl 1 rE_ i25.1.2.aC,sl 1 gE i25.1.2.sT]) J J J T.agg132 J J (ag (nl (th (sq (dr (nh:=32) [0,1,3,7,7,31,63,127,255,511,1023,2047,4095,4095,16383,32767,65535,131071,262143,524287,1048575,2097151,4194303,8388607,16777215,33554431,67108863,134217727,67108863,536870911,1073741823,2147483647] T.mixed kR ?_))))))))))))))))))))))))))))))))))))))))))))))))))
 refine st_ J (fun _ _ _ gq kq=>mv' (gq.1.trans J) kq) ?_
 refine st_ J (fun _ _ _ gq kq=>bi (gq.1.trans J) J b_eql kq) ?_
 refine st_ J (fun _ _ _ gq kq=>mv' (gq.1.trans J) kq) ?_
 refine sg_ (φ:=agg [sl 1 rE_ ((divS goalS partS).1).aC,sl 2 sE ((divS goalS partS).1).sT]) J J J J (List.mem_of_elem_eq_true J) (fun hgd=> ?_) ?_
 ·have hgd':=hgd
  try simp at hgd'
  exact fun _ _ _ gq kq=>lPA (gq.1.trans J) J T.agg25 J kq
 refine sg_ (φ:=agg [sl 1 rE_ goalS.aC,sl 2 sE goalS.sT]) J J J J (List.mem_of_elem_eq_true J) (fun hgd=> ?_) ?_
 ·have hgd':=hgd
  try simp at hgd'
  exact fun _ _ _ gq kq=>cal0 (φs:= []) (φ:=agg [sl 1 rE_ goalS.aC,sl 2 sE goalS.sT]) trivial divs.goal_ok T.ent99 kq
 refine sg_ (φ:=bl (fineR ((divS goalS partS).1) goalS)) J J J J (List.mem_of_elem_eq_true J) (fun hgd=> ?_) ?_
 ·have hgd':=hgd
  try simp at hgd'
  exact fun _ _ _ gq kq=>cal0 (φs:= [agg [sl 1 rE_ ((divS goalS partS).1).aC,sl 2 sE ((divS goalS partS).1).sT],agg [sl 1 rE_ goalS.aC,sl 2 sE goalS.sT]]) (φ:=bl (fineR ((divS goalS partS).1) goalS)) ⟨(gq.1.trans (gif_t hgd)),(gq.2.1.trans (gif_t hgd)),tV⟩ (dive.Fine_ok ((divS goalS partS).1) goalS aS) T.ent54 kq
 refine st_ J (fun _ _ _ gq kq=>pk (gq.1.trans J) (pk_and (x:= .tmp 30) (gq.1.trans J) (gq.2.1.trans J) J) kq) ?_
 refine st_ J (fun _ _ _ gq kq=>mv' (gq.1.trans J) kq) ?_
 refine sg_ (φ:=int i16.1.2) J J J J (List.mem_of_elem_eq_true J) (fun hgd=> ?_) ?_
 ·have hgd':=hgd
  try simp at hgd'
  exact fun _ _ _ gq kq=>mv' (gq.1.trans J) kq
 refine sg_ (φ:=bl (decide (i16.1.2=0))) J J J J (List.mem_of_elem_eq_true J) (fun hgd=> ?_) ?_
 ·have hgd':=hgd
  try simp at hgd'
  exact fun _ _ _ gq kq=>bi (gq.1.trans (gif_t hgd)) J b_eql kq
 refine st_ J (fun _ _ _ gq kq=>pk (gq.1.trans J) (pk_and (x:= .tmp 35) (gq.1.trans J) (gq.2.1.trans J) J) kq) ?_
 refine st_ J (fun _ _ _ gq kq=>mv' (gq.1.trans J) kq) ?_
 refine sg_ (φ:=agg [sl 1 rE_ i16.1.1.aC,sl 1 gE i16.1.1.sT]) J J J J (List.mem_of_elem_eq_true J) (fun hgd=> ?_) ?_
 ·have hgd':=hgd
  try simp at hgd'
  exact fun _ _ _ gq kq=>lPA (gq.1.trans J) J T.agg43 J kq
 refine sg_ (φ:=agg [sl 1 rE_ goalS.aC,sl 2 sE goalS.sT]) J J J J (List.mem_of_elem_eq_true J) (fun hgd=> ?_) ?_
 ·have hgd':=hgd
  try simp at hgd'
  exact fun _ _ _ gq kq=>cal0 (φs:= []) (φ:=agg [sl 1 rE_ goalS.aC,sl 2 sE goalS.sT]) trivial divs.goal_ok T.ent99 kq
 refine sg_ (φ:=bl (madeB i16.1.1 goalS)) J J J J (List.mem_of_elem_eq_true J) (fun hgd=> ?_) ?_
 ·have hgd':=hgd
  try simp at hgd'
  exact fun _ _ _ gq kq=>cal0 (φs:= [agg [sl 1 rE_ i16.1.1.aC,sl 1 gE i16.1.1.sT],agg [sl 1 rE_ goalS.aC,sl 2 sE goalS.sT]]) (φ:=bl (madeB i16.1.1 goalS)) ⟨(gq.1.trans (gif_t hgd)),(gq.2.1.trans (gif_t hgd)),tV⟩ (divg.Made_ok i16.1.1 goalS aS) T.ent24 kq
 refine st_ J (fun _ _ _ gq kq=>pk (gq.1.trans J) (pk_and (x:= .tmp 39) (gq.1.trans J) (gq.2.1.trans J) J) kq) ?_
 refine st_ J (fun _ _ _ gq kq=>mv' (gq.1.trans J) kq) ?_
 refine sg_ (φ:=int (fineX x0S goalS partS)) J J J J (List.mem_of_elem_eq_true J) (fun hgd=> ?_) ?_
 ·have hgd':=hgd
  try simp at hgd'
  exact fun _ _ _ gq kq=>mv' (gq.1.trans J) kq
 refine sg_ (φ:=bl (decide ((fineX x0S goalS partS)=0))) J J J J (List.mem_of_elem_eq_true J) (fun hgd=> ?_) ?_
 ·have hgd':=hgd
  try simp at hgd'
  exact fun _ _ _ gq kq=>bi (gq.1.trans (gif_t hgd)) J b_eql kq
 refine st_ J (fun _ _ _ gq kq=>pk (gq.1.trans J) (pk_and (x:= .tmp 44) (gq.1.trans J) (gq.2.1.trans J) J) kq) ?_
 refine st_ J (fun _ _ _ gq kq=>mv' (gq.1.trans J) kq) ?_
 refine sg_ (φ:=ptr 5 b5 0) J J J J (List.mem_of_elem_eq_true J) (fun hgd=> ?_) ?_
 ·have hgd':=hgd
  try simp at hgd'
  exact fun _ _ _ gq kq=>fP (gq.1.trans J) T.fld132_0 kq
 refine sg_ (φ:=bl i25.1.1) J J J J (List.mem_of_elem_eq_true J) (fun hgd=> ?_) ?_
 ·have hgd':=hgd
  try simp at hgd'
  exact fun _ _ _ gq kq=>lP (gq.1.trans (gif_t hgd)) J J T.one4 kq
 refine sg_ (φ:=bl (!i25.1.1)) J J J J (List.mem_of_elem_eq_true J) (fun hgd=> ?_) ?_
 ·have hgd':=hgd
  try simp at hgd'
  exact fun _ _ _ gq kq=>no (gq.1.trans (gif_t hgd)) kq
 refine st_ J (fun _ _ _ gq kq=>pk (gq.1.trans J) (pk_and (x:= .tmp 48) (gq.1.trans J) (gq.2.1.trans J) J) kq) ?_
 refine st_ J (fun _ _ _ gq kq=>mv' (gq.1.trans J) kq) ?_
 refine sg_ (φ:=ptr 5 b5 1) J J J J (List.mem_of_elem_eq_true J) (fun hgd=> ?_) ?_
 ·have hgd':=hgd
  try simp at hgd'
  exact fun _ _ _ gq kq=>fP (gq.1.trans J) T.fld132_1 kq
 refine sg_ (φ:=agg [sl 1 rE_ i25.1.2.aC,sl 1 gE i25.1.2.sT]) J J J J (List.mem_of_elem_eq_true J) (fun hgd=> ?_) ?_
 ·have hgd':=hgd
  try simp at hgd'
  exact fun _ _ _ gq kq=>lPA (gq.1.trans (gif_t hgd)) J T.agg43 J kq
 refine sg_ (φ:=agg [sl 1 rE_ partS.aC,sl 2 sE partS.sT]) J J J J (List.mem_of_elem_eq_true J) (fun hgd=> ?_) ?_
 ·have hgd':=hgd
  try simp at hgd'
  exact fun _ _ _ gq kq=>cal0 (φs:= []) (φ:=agg [sl 1 rE_ partS.aC,sl 2 sE partS.sT]) trivial divs.part_ok T.ent100 kq
 refine sg_ (φ:=bl (madeB i25.1.2 partS)) J J J J (List.mem_of_elem_eq_true J) (fun hgd=> ?_) ?_
 ·have hgd':=hgd
  try simp at hgd'
  exact fun _ _ _ gq kq=>cal0 (φs:= [agg [sl 1 rE_ i25.1.2.aC,sl 1 gE i25.1.2.sT],agg [sl 1 rE_ partS.aC,sl 2 sE partS.sT]]) (φ:=bl (madeB i25.1.2 partS)) ⟨(gq.1.trans (gif_t hgd)),(gq.2.1.trans (gif_t hgd)),tV⟩ (divg.Made_ok i25.1.2 partS aS) T.ent24 kq
 refine st_ J (fun _ _ _ gq kq=>pk (gq.1.trans J) (pk_and (x:= .tmp 53) (gq.1.trans J) (gq.2.1.trans J) J) kq) ?_
 refine st_ J (fun _ _ _ gq kq=>ag' (gq.1.trans J) kq) ?_
 refine pn (nl (th (rt ?_)))
 have h1:=gp_div;have h2:=gp_miss i16.2;have h3:=gp_fits (i25.2.2 xgp_fine)
 have hr0:(((((((decide (((divS goalS partS).2)=0))&&(fineR ((divS goalS partS).1) goalS))&&(decide (i16.1.2=0)))&&(madeB i16.1.1 goalS))&&(decide ((fineX x0S goalS partS)=0)))&&(!i25.1.1))&&(madeB i25.1.2 partS))=true:=by
  rw[h1.1,h1.2,h2.1,h2.2,decide_eq_true xgp_fine,h3.1,h3.2];rfl
 exact rE () [.tmp 0] J [bl (((((((decide (((divS goalS partS).2)=0))&&(fineR ((divS goalS partS).1) goalS))&&(decide (i16.1.2=0)))&&(madeB i16.1.1 goalS))&&(decide ((fineX x0S goalS partS)=0)))&&(!i25.1.1))&&(madeB i25.1.2 partS))] ⟨.tmp J,tV⟩ (cA1 (fun x0=>rV [bl x0]) hr0) trivial eX
end diva
end
section
open ref01 ref03 ref04 ref06 prog prog2 prog3 prog6 prog13 starts Part Rungs LeftM TrimM RoundM MergeM BisM BisM4 BisM5 WalkM StepM WitM JudgM JudgM2 refw judg wit refj sysw divr divs divd dive divg divw divv divf divc divj divq divp divm diva LevM LevM2 ChsM QuoM FailM DivM QuoW RefM FitM PartM EncM OtherM
namespace divo
theorem Other_ok (t s:SS) (htm:smallSpec t) (hsm:smallSpec s):
 Fn0 Tryz.prog 47 [spec t,spec s] (tup [spec (othS t s).1,int (othS t s).2]):=by
 refine fnI Tryz.func47 rfl rfl (fun w0 F0=> ?_)
 refine fcC (inhS 0 J) (fun hS0=> ?_)
 obtain⟨hsa0,hss0,hse0⟩:=sLn hS0
 refine fcC (inhS 1 J) (fun hS1=> ?_)
 obtain⟨hsa1,hss1,hse1⟩:=sLn hS1
 refine sq (rg (bx (key:=2) (cs:= [sl 1 rE_ t.aC,sl 2 sE t.sT]) J fun b2=>(bx (key:=3) (cs:= [sl 1 rE_ s.aC,sl 2 sE s.sT]) J fun b3=>(al (key:=4) T.z25 (eC (eC eZ)) fun b4=>(ag (nl (th (sq (rg (lPA J J T.agg25 J (lPA J J T.agg25 J (cal0 (φs:= [agg [sl 1 rE_ t.aC,sl 2 sE t.sT],agg [sl 1 rE_ s.aC,sl 2 sE s.sT]]) (φ:=tup [agg [sl 1 rE_ ((divS t s).1).aC,sl 2 sE ((divS t s).1).sT],int ((divS t s).2)]) ⟨J,J,tV⟩ (divq.Divide_ok t s aS aS) T.ent46 (mv (xt J J (xt J J (al (key:=6) T.z25 (eC (eC eZ)) fun b6=>(sPA (cs':= [sl 1 rE_ ((divS t s).1).aC,sl 2 sE ((divS t s).1).sT]) J J J T.agg25 J J (ag (nl (th (sq (sq (rg (mv (bi J J b_neq (nl (th ?_)))))))))))))))))))))))))))
 refine cd J (fun hc0=> ?_) (fun hc0=> ?_)
 ·try simp at hc0
  have ho:othS t s=(⟨[],[]⟩,(divS t s).2):=by unfold othS;rw[if_neg hc0]
  refine sq (rg (bd (css:= []) T.st25 (eC (eC eZ)) trivial (mv (sPA (cs':= [eqv (.slice none 0 0),eqv (.slice none 0 0)]) J J J T.agg25 J J (ag (nl (th (rt (rt_ ?_)))))))))
  refine kncA 4 0 (sl 1 rE_ []) rfl rfl slnil ?_
  refine kncA 4 1 (sl 2 sE []) rfl rfl slnil ?_
  have hr0: []=((othS t s).1).aC:=by
   rw[ho]
  have hr1: []=((othS t s).1).sT:=by
   rw[ho]
  have hr2:(((divS t s).2):Int)=((othS t s).2):=by
   rw[ho]
  exact rE () [.cell 4 25,.tmp 5] J [agg [sl 1 rE_ [],sl 2 sE []],int ((divS t s).2)] ⟨.agg J J T.agg25 J J,.tmp J,tV⟩ (cA3 (fun x0 x1 x2=>rV [agg [sl 1 rE_ x0,sl 2 sE x1],int x2]) hr0 hr1 hr2) trivial eX
 ·try simp at hc0
  have ho:othS t s=divS t (divS t s).1:=by unfold othS;rw[if_pos hc0]
  have hdm:smallSpec (divS t s).1:=DivM.div_small htm hc0
  refine sk (th (sq (rg (lPA J J T.agg25 J (lPA J J T.agg25 J (cal0 (φs:= [agg [sl 1 rE_ t.aC,sl 2 sE t.sT],agg [sl 1 rE_ ((divS t s).1).aC,sl 2 sE ((divS t s).1).sT]]) (φ:=tup [agg [sl 1 rE_ ((divS t ((divS t s).1)).1).aC,sl 2 sE ((divS t ((divS t s).1)).1).sT],int ((divS t ((divS t s).1)).2)]) ⟨J,J,tV⟩ (divq.Divide_ok t ((divS t s).1) aS aS) T.ent46 (xt J J (xt J J (sPA (cs':= [sl 1 rE_ ((divS t ((divS t s).1)).1).aC,sl 2 sE ((divS t ((divS t s).1)).1).sT]) J J J T.agg25 J J (ag (nl (th (rt ?_)))))))))))))
  have hr0:((divS t ((divS t s).1)).1).aC=((othS t s).1).aC:=by
   rw[ho]
  have hr1:((divS t ((divS t s).1)).1).sT=((othS t s).1).sT:=by
   rw[ho]
  have hr2:(((divS t ((divS t s).1)).2):Int)=((othS t s).2):=by
   rw[ho]
  exact rE () [.cell 4 25,.tmp 5] J [agg [sl 1 rE_ ((divS t ((divS t s).1)).1).aC,sl 2 sE ((divS t ((divS t s).1)).1).sT],int ((divS t ((divS t s).1)).2)] ⟨.agg J J T.agg25 J J,.tmp J,tV⟩ (cA3 (fun x0 x1 x2=>rV [agg [sl 1 rE_ x0,sl 2 sE x1],int x2]) hr0 hr1 hr2) trivial eX
end divo
end
section
open ValidM ref01 ref03 ref04 ref06 prog prog2 prog3 prog4 prog5 prog6 prog7 prog8 prog9 prog13 prog15 starts Part Rungs LeftM TrimM Itoa Keys RoundM MergeM BisM BisM4 BisM5 WalkM StepM WitM JudgM JudgM2 refw judg wit refj sysw divr divs divd dive divg divw divv divf divc divj divq divm diva divo LevM LevM2 ChsM TrimI QuoM FailM DivM OtherM RefM GenW CompM CrossM CompP prodc divp SevM prods prodo OrdM AdjM
theorem com_few {s t:SS} (hs:oK s) (ht:oK t) (hq:(comS s t).2=true):(comS s t).1.sT.length≤500:=by
 unfold comS at hq ⊢
 by_cases e:hol2 s t
 ·rw[if_pos e];show 1≤500;omega
 ·rw[if_neg e] at hq ⊢
  split at hq
  ·next g=>
   rw[if_pos g]
   have hok:oK (compD (tR s).1 (tR t).1):=numc_ok (trim_ok hs) (trim_ok ht) (c_numc (trim_ok hs) (trim_ok ht)) O
   have:=trim_len hok
   have e2:(compD (tR s).1 (tR t).1).sT.length=(cL (tR s).1 (tR t).1).length:=by simp[compD]
   show(tR (compD (tR s).1 (tR t).1)).1.sT.length≤500
   omega
  ·cases hq
theorem size_okO {s:SS} (hs:oK s):size s≤8+10000+s.sT.length*264:=by
 have h8:=hs.n8
 have h1:=hs.few1
 have h0:part s 0≤8+10000:=by unfold part;simp;omega
 have key:∀k,k≤s.sT.length→part s k≤8+10000+k*264:=by
  intro k
  induction k with
  |zero=>intro _;omega
  |succ k ih=>
   intro hk
   have h2:=(hs.st k O).len
   have h3:=(hs.st k O).acl
   have h4:=ih O
   rw[part_succ O,Nat.add_mul]
   omega
 exact key _ (Nat.le_refl _)
theorem small_nil:smallSpec ⟨[],[]⟩:=fun k hk=>absurd hk (by show ¬k<0;omega)
theorem cmp_cases (s t:SS):(cmpS s t).1=⟨[],[]⟩∨(oK (cmpS s t).1∧(cmpS s t).1.sT.length≤500):=by
 unfold cmpS
 by_cases e:fineE s t=0
 ·rw[if_pos e]
  obtain⟨h1,h2,_⟩:=Go.Proofs.YtcjemmihcplgdaaGreatDoor.fine_ok e
  cases g:(comS s t).2 with
  |true=>rw[if_pos rfl];exact .inr ⟨com_ok (okSpec_of h1) (okSpec_of h2) g,com_few (okSpec_of h1) (okSpec_of h2) g⟩
  |false=>rw[if_neg (by simp)];exact .inl rfl
 ·rw[if_neg e];exact .inl rfl
theorem size_nil:size ⟨[],[]⟩=0:=rfl
theorem com_6 {s t:SS} (hs:oK s) (ht:oK t) (h:s.sT.length*t.sT.length≤500):(comS s t).2=true:=by
 cases e:(comS s t).2 with
 |true=>rfl
 |false=>
  have:=com_large hs ht e
  unfold largeC at this
  rw[decide_eq_true_eq] at this
  have e2:((s.sT.length*t.sT.length:Nat):Int)=(s.sT.length:Int)*(t.sT.length:Int):=by simp
  omega
theorem cmp_com {s t:SS} (hf:fineE s t=0) (h:(comS s t).2=true):cmpS s t=((comS s t).1,0):=by unfold cmpS;rw[if_pos hf,if_pos h]
theorem fine_of {s t:SS} (h1:specOK s=true) (h2:specOK t=true) (h3:s.aC=t.aC):fineE s t=0:=by unfold fineE;rw[if_pos ⟨h1,h2⟩,if_pos h3]
theorem eqB_of {s t:SS} (hf:fineE s t=0) (h1:RefP s t) (h2:RefP t s):eqB s t=true:=by unfold eqB;rw[decide_eq_true hf,refB_iff.2 h1,refB_iff.2 h2];rfl
theorem rfB_of {s t:SS} (hf:fineE s t=0) (h1:RefP s t):rfB s t=true:=by unfold rfB;rw[decide_eq_true hf,refB_iff.2 h1];rfl
theorem rfB_to {s t:SS} (h:rfB s t=true):RefP s t:=by unfold rfB at h;rw[Bool.and_eq_true] at h;exact refB_iff.1 h.2
theorem quo_few {t s:SS} (ht:oK t) (hs:oK s) (ha:t.aC=s.aC) (hq:(quoS t s).2=true):(quoS t s).1.sT.length≤500:=by
 rcases hol_or s with e|e
 ·rw[quo_hol e];show 1≤500;omega
 ·obtain⟨c,d⟩:=quo_not e hq
  rw[d]
  have hN:=q_numb ht (trim_ok hs) (trim_used hs) (by rw[trim_acts,ha])
  have hD:=q_ok ht hN rfl O
  have:=trim_len hD
  have e2:(quoD t (tR s).1).sT.length=(qL t (tR s).1).length:=by simp[quoD]
  omega
theorem div_cases (t s:SS):(divS t s).1=⟨[],[]⟩∨(oK (divS t s).1∧(divS t s).1.sT.length≤500):=by
 unfold divS
 by_cases e:fineE t s=0
 ·rw[if_pos e]
  obtain⟨h1,h2,h3⟩:=Go.Proofs.YtcjemmihcplgdaaGreatDoor.fine_ok e
  cases g:(quoS t s).2 with
  |true=>rw[if_pos rfl];exact .inr ⟨quo_ok (okSpec_of h1) (okSpec_of h2) h3 g,quo_few (okSpec_of h1) (okSpec_of h2) h3 g⟩
  |false=>rw[if_neg (by simp)];exact .inl rfl
 ·rw[if_neg e];exact .inl rfl
theorem oth_cases (t s:SS):(othS t s).1=⟨[],[]⟩∨(oK (othS t s).1∧(othS t s).1.sT.length≤500):=by
 unfold othS
 split
 ·exact div_cases _ _
 ·exact .inl rfl
theorem szS {x:SS} (h:x=⟨[],[]⟩∨(oK x∧x.sT.length≤500)):smallSpec x∧(size x:Int)≤1000000:=by
 rcases h with h|h
 ·rw[h,size_nil];exact⟨small_nil,O⟩
 ·have:=size_okO h.1
  have:=h.2
  exact⟨h.1.small,O⟩
theorem div_q {t s:SS} (hf:fineE t s=0) (h:(divS t s).2=0):(quoS t s).2=true∧(divS t s).1=(quoS t s).1:=by
 cases e:(quoS t s).2 with
 |true=>exact⟨rfl,by unfold divS;rw[if_pos hf,if_pos e]⟩
 |false=>
  have e2:divS t s=(⟨[],[]⟩,2):=by unfold divS;rw[if_pos hf,if_neg (by simp[e])]
  rw[e2] at h;cases h
theorem div_of {t s:SS} (hf:fineE t s=0) (h:(quoS t s).2=true):divS t s=((quoS t s).1,0):=by unfold divS;rw[if_pos hf,if_pos h]
theorem quo_5 {t s:SS} (ht:oK t) (hs:oK s) (ha:t.aC=s.aC) (h:t.sT.length*s.sT.length+1≤500):(quoS t s).2=true:=by
 cases e:(quoS t s).2 with
 |true=>rfl
 |false=>
  have:=quo_large ht hs ha e
  unfold largeB at this
  rw[decide_eq_true_eq] at this
  have e2:((t.sT.length*s.sT.length:Nat):Int)=(t.sT.length:Int)*(s.sT.length:Int):=by simp
  omega
structure OkA (s x:SS):Prop where
 few:x.sT.length≤5
 sz:(size x:Int)≤200
 fine:fineE x s=0
theorem okA_of {s x:SS} (h:((decide ((5:Int)<(x.sT.length:Int))|| !few x 200)||decide (bothE x s≠0))=false):OkA s x:=by
 rw[Bool.or_eq_false_iff,Bool.or_eq_false_iff,Bool.not_eq_false',decide_eq_false_iff_not,decide_eq_false_iff_not] at h
 have h2:(size x:Int)≤200:=by have:=h.1.2;unfold few at this;simpa using this
 exact⟨O,h2,Classical.not_not.1 h.2⟩
structure AdjF (t s u:SS):Prop where
 e:(divS t s).2=0
 f:(cmpS s u).2=0
 g:(othS t s).2=0
 a1:rfB u (divS t s).1=rfB (cmpS s u).1 t
 a2:rfB s (othS t s).1=true
 a3:(divS t (othS t s).1).2=0→eqB (divS t (othS t s).1).1 (divS t s).1=true
 a4:(divS t (cmpS s u).1).2=0→(divS (divS t s).1 u).2=0→eqB (divS t (cmpS s u).1).1 (divS (divS t s).1 u).1=true
theorem adjF_of {t s u:SS} (k0:OkA s s) (k1:OkA s t) (k2:OkA s u):AdjF t s u:=by
 obtain⟨sv,_,_⟩:=Go.Proofs.YtcjemmihcplgdaaGreatDoor.fine_ok k0.fine
 obtain⟨tv,_,ta⟩:=Go.Proofs.YtcjemmihcplgdaaGreatDoor.fine_ok k1.fine
 obtain⟨uv,_,ua⟩:=Go.Proofs.YtcjemmihcplgdaaGreatDoor.fine_ok k2.fine
 have hs:=okSpec_of sv
 have ht:=okSpec_of tv
 have hu:=okSpec_of uv
 have f0:=k0.few
 have f1:=k1.few
 have f2:=k2.few
 have ub:=ua.trans ta.symm
 have m1:t.sT.length*s.sT.length≤5*5:=Nat.mul_le_mul f1 f0
 have m2:s.sT.length*u.sT.length≤5*5:=Nat.mul_le_mul f0 f2
 have cq:=quo_5 ht hs ta O
 have gq:=div_of (fine_of tv sv ta) cq
 have cc:=com_6 hs hu O
 have gc:=cmp_com (fine_of sv uv ua.symm) cc
 have hQ:=quo_ok ht hs ta cq
 have vq:specOK (quoS t s).1=true:=specOK_of hQ (quo_few ht hs ta cq)
 have qa:=quo_acts cq
 have ql:=quo_len ht hs ta cq
 have m3:t.sT.length*(quoS t s).1.sT.length≤5*26:=Nat.mul_le_mul f1 O
 have co:=quo_5 ht hQ qa.symm O
 have ftq:=fine_of tv vq qa.symm
 have go:othS t s=((quoS t (quoS t s).1).1,0):=by
  unfold othS
  rw[gq,if_pos rfl]
  exact div_of ftq co
 have hO:=quo_ok ht hQ qa.symm co
 have vo:specOK (quoS t (quoS t s).1).1=true:=specOK_of hO (quo_few ht hQ qa.symm co)
 have oa:=quo_acts co
 have hC:=com_ok hs hu cc
 have vc:specOK (comS s u).1=true:=specOK_of hC (com_few hs hu cc)
 have ca:=com_acts cc
 refine⟨by rw[gq],by rw[gc],by rw[go],?_,?_,fun h=> ?_,fun h1 h2=> ?_⟩
 ·rw[gq,gc,Bool.eq_iff_iff]
  constructor
  ·intro h
   exact rfB_of (fine_of vc tv (ca.trans ta.symm)) ((adj_ref hs ht hu ta ub cq cc).1 (rfB_to h))
  ·intro h
   exact rfB_of (fine_of uv vq (ub.trans qa.symm)) ((adj_ref hs ht hu ta ub cq cc).2 (rfB_to h))
 ·rw[go]
  exact rfB_of (fine_of sv vo (ta.symm.trans oa.symm)) (oth_ref hs ht ta cq co)
 ·rw[go] at h ⊢
  rw[gq]
  have f3:=fine_of tv vo oa.symm
  obtain⟨k,e⟩:=div_q f3 h
  obtain⟨r1,r2⟩:=oth_quo hs ht ta cq co k
  have vp:specOK (quoS t (quoS t (quoS t s).1).1).1=true:=specOK_of (quo_ok ht hO oa.symm k) (quo_few ht hO oa.symm k)
  show eqB (divS t (quoS t (quoS t s).1).1).1 (quoS t s).1=true
  rw[e]
  exact eqB_of (fine_of vp vq ((quo_acts k).trans qa.symm)) r1 r2
 ·rw[gc] at h1 ⊢
  rw[gq] at h2 ⊢
  have fa:=fine_of tv vc (ta.trans ca.symm)
  have fb:=fine_of vq uv (qa.trans ub.symm)
  obtain⟨kA,eA⟩:=div_q fa h1
  obtain⟨kB,eB⟩:=div_q fb h2
  have r1:=twice1 hs ht hu ta ub cq cc kA kB
  have r2:=twice2 hs ht hu ta ub cq cc kA kB
  have vA:specOK (quoS t (comS s u).1).1=true:=specOK_of (quo_ok ht hC (ta.trans ca.symm) kA) (quo_few ht hC (ta.trans ca.symm) kA)
  have vB:specOK (quoS (quoS t s).1 u).1=true:=specOK_of (quo_ok hQ hu (qa.trans ub.symm) kB) (quo_few hQ hu (qa.trans ub.symm) kB)
  show eqB (divS t (comS s u).1).1 (divS (quoS t s).1 u).1=true
  rw[eA,eB]
  exact eqB_of (fine_of vA vB ((quo_acts kA).trans ((quo_acts kB).trans qa).symm)) r1 r2
namespace T
theorem mk49:MakeT Tryz.prog 49 25 2 48 [.slice none 0 0,.slice none 0 0]:=makeT_of kR kR
theorem sl49:IsSlice Tryz.prog 49 25 2:=isSlice_of kR
theorem ent18:Ent Tryz.prog 18:=ent_of kR
theorem ent44:Ent Tryz.prog 44:=ent_of kR
theorem ent45:Ent Tryz.prog 45:=ent_of kR
theorem ent15:Ent Tryz.prog 15:=ent_of kR
theorem ent47:Ent Tryz.prog 47:=ent_of kR
theorem ent48:Ent Tryz.prog 48:=ent_of kR
theorem bool4:Tryz.prog.underlying 4=some .bool:=by kernel_rfl
theorem ent49:Ent Tryz.prog 49:=ent_of kR
end T
namespace divu
theorem DivideAdjoins_ok (t:SS) (htm:smallSpec t) (s:SS) (hsm:smallSpec s) (u:SS) (hum:smallSpec u):
 Fn0 Tryz.prog 9 [tabbed (spec t),spec s,spec u] (bl true):=by
 refine fnI Tryz.func9 rfl rfl (fun w0 F0=> ?_)
 have hl3: [s,t,u].length=3:=rfl
 refine tbI 0 9999 rfl ?_
 refine tbJC (ψ:=tab) 9999 997 rfl ?_
 refine fcC (inhS 0 J) (fun hS0=> ?_)
 obtain⟨hsa0,hss0,hse0⟩:=sLn hS0
 refine fcC (inhS 1 J) (fun hS1=> ?_)
 obtain⟨hsa1,hss1,hse1⟩:=sLn hS1
 refine fcC (inhS 2 J) (fun hS2=> ?_)
 obtain⟨hsa2,hss2,hse2⟩:=sLn hS2
 refine sq (rg (bx (key:=3) (cs:= [sl 1 rE_ t.aC,sl 2 sE t.sT]) J fun b3=>(bx (key:=4) (cs:= [sl 1 rE_ s.aC,sl 2 sE s.sT]) J fun b4=>(bx (key:=5) (cs:= [sl 1 rE_ u.aC,sl 2 sE u.sT]) J fun b5=>(ag (nl (th (sq (sq (rg (lPA J J T.agg25 J (lPA J J T.agg25 J (lPA J J T.agg25 J (bsO 24 (enc:=specE) (xs:= [s,t,u]) (css:= [[sl 1 rE_ s.aC,sl 2 sE s.sT],[sl 1 rE_ t.aC,sl 2 sE t.sT],[sl 1 rE_ u.aC,sl 2 sE u.sT]]) T.mk49 ⟨J,J,pA (cs:= [sl 1 rE_ s.aC,sl 2 sE s.sT]) J,⟨J,J,pA (cs:= [sl 1 rE_ t.aC,sl 2 sE t.sT]) J,⟨J,J,pA (cs:= [sl 1 rE_ u.aC,sl 2 sE u.sT]) J,tV⟩⟩⟩ J J J J fun v24=>(lnO J J T.sl49 (mv (nl (th (bk ?_)))))))))))))))))))
 have hI0_0:0≤[s,t,u].length:=by
  first|omega|simp
 have hI0_1:∀j,j<0→OkA s (ix [s,t,u] j):=by
  exact fun j hj=>absurd hj O
 refine lp (κ:=Nat) (fun p=> [(3,ptr 3 b3 0),(4,ptr 4 b4 0),(5,ptr 5 b5 0),(24,osl 24 v24),(25,int ([s,t,u].length:Int)),(26,int (p:Int)),(9999,tab)]) (fun p=> [(3,cell b3 [sl 1 rE_ t.aC,sl 2 sE t.sT]),(4,cell b4 [sl 1 rE_ s.aC,sl 2 sE s.sT]),(5,cell b5 [sl 1 rE_ u.aC,sl 2 sE u.sT]),(24,own v24 25 2 specE [s,t,u]),(997,ambH tab)]) (fun p=>(p≤[s,t,u].length)∧(∀j,j<p→OkA s (ix [s,t,u] j))) (fun p=> [s,t,u].length- p) 0 ⟨hI0_0,hI0_1⟩ ⟨id,id,id,id,id,id,id,tV⟩ ⟨rI,rI,rI,rI,rI,tV⟩ ?_
 intro k hG0
 obtain⟨hk0,hI0⟩:(k≤[s,t,u].length)∧(∀j,j<k→OkA s (ix [s,t,u] j)):=hG0
 refine sq (rg (bi J J b_lss (nl (th (sq ?_)))))
 refine cd J (fun hc0=> ?_) (fun hc0=> ?_)
 ·try simp at hc0
  have hxsm:smallSpec (ix [s,t,u] k):=by rcases(by omega:k=0∨k=1∨k=2) with h|h|h<;>subst h<;>assumption
  refine sk (th (sq (bk (sq (rg (iO J J J T.sl49 O O (lOA J J gB T.agg25 (by decide) (al (key:=8) T.z25 (eC (eC eZ)) fun b8=>(sPA (cs':= [sl 1 rE_ (ix [s,t,u] k).aC,sl 2 sE (ix [s,t,u] k).sT]) J J J T.agg25 J J (nl (th (sq (rg (fP J T.fld25_1 (lP J J J T.one23 (fc (slenI 31 J) fun hm31=>(lnF J T.sl23 (bi J J b_gtr (mv ?_)))))))))))))))))))
  apply gOr (t:=34) (pd:=38) rfl
  rotate_left
  ·intro hg0 fin
   have hg0':=hg0
   try simp at hg0'
   exact gy J J J hg0 (lPA J J T.agg25 J (gy J J J hg0 (cal0 (φs:= [agg [sl 1 rE_ (ix [s,t,u] k).aC,sl 2 sE (ix [s,t,u] k).sT],int 200]) (φ:=bl (few (ix [s,t,u] k) 200)) ⟨J,J,tV⟩ (ref03.Few_ok (ix [s,t,u] k) _ O) T.ent18 (gy J J J hg0 (no J (pkF J hg0 J (drp (X:= [(37,_),(36,_),(35,_)]) ⟨J,J,J,tV⟩ fin)))))))
  ·intro hg0 fin
   exact gn J J J hg0 J J (gn J J J hg0 J J (gn J J J hg0 J J (pkT J hg0 J (drp (X:= [(37,_),(36,_),(35,_)]) ⟨J,J,J,tV⟩ fin))))
  refine mv ?_
  apply gOr (t:=39) (pd:=44) rfl
  rotate_left
  ·intro hg1 fin
   have hg1':=hg1
   try simp at hg1'
   exact gy J J J hg1 (lPA J J T.agg25 J (gy J J J hg1 (lPA J J T.agg25 J (gy J J J hg1 (cal0 (φs:= [agg [sl 1 rE_ (ix [s,t,u] k).aC,sl 2 sE (ix [s,t,u] k).sT],agg [sl 1 rE_ s.aC,sl 2 sE s.sT]]) (φ:=int (bothE (ix [s,t,u] k) s)) ⟨J,J,tV⟩ (divs.both_ok (ix [s,t,u] k) s) T.ent44 (gy J J J hg1 (bi J J b_neq (pkF J hg1 J (drp (X:= [(43,_),(42,_),(41,_),(40,_)]) ⟨J,J,J,J,tV⟩ fin)))))))))
  ·intro hg1 fin
   exact gn J J J hg1 J J (gn J J J hg1 J J (gn J J J hg1 J J (gn J J J hg1 J J (pkT J hg1 J (drp (X:= [(43,_),(42,_),(41,_),(40,_)]) ⟨J,J,J,J,tV⟩ fin)))))
  refine nl (th ?_)
  refine cd J (fun hc1=> ?_) (fun hc1=> ?_)
  ·skip
   refine sq (rg (cal0 (φs:= []) (φ:=bl true) trivial diva.awake_ok T.ent45 (ag (nl (th (rt (rb (rt_ (rt_ (rb (rt_ ?_)))))))))))
   exact rE () [.tmp 6] J [bl true] ⟨.tmp J,tV⟩ J trivial eX
  ·skip
   refine sk (eb (th (rg (bi J J (b_add i6) (mv (nl ?_))))))
   have hN0:(k+1)≤[s,t,u].length:=by
    first|omega|simp_all
   have hN1:∀j,j<(k+1)→OkA s (ix [s,t,u] j):=by
    exact fun j hj=>by
     by_cases e:j=k
     ·subst e;exact okA_of hc1
     ·exact hI0 j O
   exact ln (k+1) ⟨hN0,hN1⟩ dO ⟨id,id,id,id,id,id,id,tV⟩ ⟨rI,rI,rI,rI,rI,tV⟩
 ·try simp at hc0
  have k0:OkA s s:=hI0 0 O
  have k1:OkA s t:=hI0 1 O
  have k2:OkA s u:=hI0 2 O
  have hF:=adjF_of k0 k1 k2
  have hzs:=k0.sz
  have hzt:=k1.sz
  have hzu:=k2.sz
  obtain⟨dt1,dt2⟩:=szS (div_cases t s)
  obtain⟨ot1,ot2⟩:=szS (oth_cases t s)
  obtain⟨ct1,ct2⟩:=szS (cmp_cases s u)
  obtain⟨pt1,pt2⟩:=szS (div_cases t (othS t s).1)
  obtain⟨at1,at2⟩:=szS (div_cases t (cmpS s u).1)
  obtain⟨bt1,bt2⟩:=szS (div_cases (divS t s).1 u)
  refine cutE (E':= [(3,ptr 3 b3 0),(4,ptr 4 b4 0),(5,ptr 5 b5 0),(24,osl 24 v24),(25,int ([s,t,u].length:Int)),(26,int (k:Int)),(9999,tab)]) (H':= [(3,cell b3 [sl 1 rE_ t.aC,sl 2 sE t.sT]),(4,cell b4 [sl 1 rE_ s.aC,sl 2 sE s.sT]),(5,cell b5 [sl 1 rE_ u.aC,sl 2 sE u.sT]),(24,own v24 25 2 specE [s,t,u]),(997,ambH tab)]) ⟨id,id,id,id,id,id,id,tV⟩ ⟨rI,rI,rI,rI,rI,tV⟩ ?_
  refine ex (xt_ (xt_ (xb (th (sq ?_)))))
  refine drH (nh:=11) [0,1,0,7,15,31,63,63,0,383,1023] [(none,[3]),(none,[]),(none,[4]),(none,[]),(none,[]),(none,[]),(none,[]),(none,[]),(some 9,[]),(some 9,[9]),(none,[])] T.mixed kR kR ?_
  refine stv (d:=48) (fun β0=>agg [sl 1 rE_ t.aC,sl 2 sE t.sT]) [3] J (fun β β' hb=>J) (fun β0 _ _ _ _ gq gh kq=>lPA (gq.1.trans J) (gh.1.trans J) T.agg25 J kq) ?_
  refine stv (d:=49) (fun β0=>agg [sl 1 rE_ t.aC,sl 2 sE t.sT]) [] J (fun β β' hb=>J) (fun β0 _ _ _ _ gq gh kq=>calW (φs:= [agg [sl 1 rE_ t.aC,sl 2 sE t.sT]]) (φ:=agg [sl 1 rE_ t.aC,sl 2 sE t.sT]) ⟨(gq.1.trans J),tV⟩ (ref03.Copy_ok t O) T.ent16 (fun N hN=>fun h=>agg_le (cs:= [fre N (sl 1 rE_ t.aC),fre N (sl 2 sE t.sT)]) (ds:= [sl 1 rE_ t.aC,sl 2 sE t.sT]) ⟨fun h=>nw_le h,fun h=>nw_le h,tV⟩ h) kq) ?_
  refine stv (d:=50) (fun β0=>agg [sl 1 rE_ s.aC,sl 2 sE s.sT]) [4] J (fun β β' hb=>J) (fun β0 _ _ _ _ gq gh kq=>lPA (gq.1.trans J) (gh.1.trans J) T.agg25 J kq) ?_
  refine stv (d:=51) (fun β0=>agg [sl 1 rE_ s.aC,sl 2 sE s.sT]) [] J (fun β β' hb=>J) (fun β0 _ _ _ _ gq gh kq=>calW (φs:= [agg [sl 1 rE_ s.aC,sl 2 sE s.sT]]) (φ:=agg [sl 1 rE_ s.aC,sl 2 sE s.sT]) ⟨(gq.1.trans J),tV⟩ (ref03.Copy_ok s O) T.ent16 (fun N hN=>fun h=>agg_le (cs:= [fre N (sl 1 rE_ s.aC),fre N (sl 2 sE s.sT)]) (ds:= [sl 1 rE_ s.aC,sl 2 sE s.sT]) ⟨fun h=>nw_le h,fun h=>nw_le h,tV⟩ h) kq) ?_
  refine stv (d:=52) (fun β0=>tup [agg [sl 1 rE_ ((divS t s).1).aC,sl 2 sE ((divS t s).1).sT],int ((divS t s).2)]) [] J (fun β β' hb=>J) (fun β0 _ _ _ _ gq gh kq=>cal0 (φs:= [agg [sl 1 rE_ t.aC,sl 2 sE t.sT],agg [sl 1 rE_ s.aC,sl 2 sE s.sT]]) (φ:=tup [agg [sl 1 rE_ ((divS t s).1).aC,sl 2 sE ((divS t s).1).sT],int ((divS t s).2)]) ⟨(gq.1.trans J),(gq.2.1.trans J),tV⟩ (divq.Divide_ok t s aS aS) T.ent46 kq) ?_
  refine stv (d:=47) (fun β0=>tup [agg [sl 1 rE_ ((divS t s).1).aC,sl 2 sE ((divS t s).1).sT],int ((divS t s).2)]) [] J (fun β β' hb=>J) (fun β0 _ _ _ _ gq gh kq=>mv' (gq.1.trans J) kq) ?_
  refine stv (d:=53) (fun β0=>agg [sl 1 rE_ ((divS t s).1).aC,sl 2 sE ((divS t s).1).sT]) [] J (fun β β' hb=>J) (fun β0 _ _ _ _ gq gh kq=>xt (gq.1.trans J) J kq) ?_
  refine stv (d:=54) (fun β0=>int ((divS t s).2)) [] J (fun β β' hb=>J) (fun β0 _ _ _ _ gq gh kq=>xt (gq.1.trans J) J kq) ?_
  refine sta 9 T.z25 (eC (eC eZ)) ?_
  refine stw 9 (fun β0=>cell (gbk (β0 8)) [sl 1 rE_ ((divS t s).1).aC,sl 2 sE ((divS t s).1).sT]) [9] J (fun β β' hb=>by first|rw[hb 8 J]|(dsimp only;rw[hb 8 J])) (fun β0 _ _ _ _ gq gh kq=>sPA (cs':= [sl 1 rE_ ((divS t s).1).aC,sl 2 sE ((divS t s).1).sT]) (gq.1.trans J) (gh.1.trans J) (gq.2.1.trans J) T.agg25 J J kq) ?_
  refine stv (d:=10) (fun β0=>int ((divS t s).2)) [] J (fun β β' hb=>J) (fun β0 _ _ _ _ gq gh kq=>ag' (gq.1.trans J) kq) ?_
  refine pnH fun β0=>(nl (th (sq ?_)))
  refine drH (nh:=11) [0,1,0,7,15,31,63,63,0,383,1023] [(none,[4]),(none,[]),(none,[5]),(none,[]),(none,[997]),(none,[]),(none,[]),(none,[]),(some 11,[]),(some 11,[11]),(none,[])] T.mixed kR kR ?_
  refine stv (d:=56) (fun β1=>agg [sl 1 rE_ s.aC,sl 2 sE s.sT]) [4] J (fun β β' hb=>J) (fun β1 _ _ _ _ gq gh kq=>lPA (gq.1.trans J) (gh.1.trans J) T.agg25 J kq) ?_
  refine stv (d:=57) (fun β1=>agg [sl 1 rE_ s.aC,sl 2 sE s.sT]) [] J (fun β β' hb=>J) (fun β1 _ _ _ _ gq gh kq=>calW (φs:= [agg [sl 1 rE_ s.aC,sl 2 sE s.sT]]) (φ:=agg [sl 1 rE_ s.aC,sl 2 sE s.sT]) ⟨(gq.1.trans J),tV⟩ (ref03.Copy_ok s O) T.ent16 (fun N hN=>fun h=>agg_le (cs:= [fre N (sl 1 rE_ s.aC),fre N (sl 2 sE s.sT)]) (ds:= [sl 1 rE_ s.aC,sl 2 sE s.sT]) ⟨fun h=>nw_le h,fun h=>nw_le h,tV⟩ h) kq) ?_
  refine stv (d:=58) (fun β1=>agg [sl 1 rE_ u.aC,sl 2 sE u.sT]) [5] J (fun β β' hb=>J) (fun β1 _ _ _ _ gq gh kq=>lPA (gq.1.trans J) (gh.1.trans J) T.agg25 J kq) ?_
  refine stv (d:=59) (fun β1=>agg [sl 1 rE_ u.aC,sl 2 sE u.sT]) [] J (fun β β' hb=>J) (fun β1 _ _ _ _ gq gh kq=>calW (φs:= [agg [sl 1 rE_ u.aC,sl 2 sE u.sT]]) (φ:=agg [sl 1 rE_ u.aC,sl 2 sE u.sT]) ⟨(gq.1.trans J),tV⟩ (ref03.Copy_ok u O) T.ent16 (fun N hN=>fun h=>agg_le (cs:= [fre N (sl 1 rE_ u.aC),fre N (sl 2 sE u.sT)]) (ds:= [sl 1 rE_ u.aC,sl 2 sE u.sT]) ⟨fun h=>nw_le h,fun h=>nw_le h,tV⟩ h) kq) ?_
  refine stv (d:=60) (fun β1=>tup [agg [sl 1 rE_ ((cmpS s u).1).aC,sl 2 sE ((cmpS s u).1).sT],int ((cmpS s u).2)]) [997] J (fun β β' hb=>J) (fun β1 _ _ _ _ gq gh kq=>tbK (ψ:=tab) 57 997 (gq.1.trans J) (gh.1.trans J) (cal0 (φs:= [both (agg [sl 1 rE_ s.aC,sl 2 sE s.sT]) tab,agg [sl 1 rE_ u.aC,sl 2 sE u.sT]]) (φ:=tup [agg [sl 1 rE_ ((cmpS s u).1).aC,sl 2 sE ((cmpS s u).1).sT],int ((cmpS s u).2)]) ⟨J,(gq.2.1.trans J),tV⟩ (prodc.Compose_ok s u aS aS) T.ent15 (tbX (gq.1.trans J) kq))) ?_
  refine stv (d:=55) (fun β1=>tup [agg [sl 1 rE_ ((cmpS s u).1).aC,sl 2 sE ((cmpS s u).1).sT],int ((cmpS s u).2)]) [] J (fun β β' hb=>J) (fun β1 _ _ _ _ gq gh kq=>mv' (gq.1.trans J) kq) ?_
  refine stv (d:=61) (fun β1=>agg [sl 1 rE_ ((cmpS s u).1).aC,sl 2 sE ((cmpS s u).1).sT]) [] J (fun β β' hb=>J) (fun β1 _ _ _ _ gq gh kq=>xt (gq.1.trans J) J kq) ?_
  refine stv (d:=62) (fun β1=>int ((cmpS s u).2)) [] J (fun β β' hb=>J) (fun β1 _ _ _ _ gq gh kq=>xt (gq.1.trans J) J kq) ?_
  refine sta 11 T.z25 (eC (eC eZ)) ?_
  refine stw 11 (fun β1=>cell (gbk (β1 8)) [sl 1 rE_ ((cmpS s u).1).aC,sl 2 sE ((cmpS s u).1).sT]) [11] J (fun β β' hb=>by first|rw[hb 8 J]|(dsimp only;rw[hb 8 J])) (fun β1 _ _ _ _ gq gh kq=>sPA (cs':= [sl 1 rE_ ((cmpS s u).1).aC,sl 2 sE ((cmpS s u).1).sT]) (gq.1.trans J) (gh.1.trans J) (gq.2.1.trans J) T.agg25 J J kq) ?_
  refine stv (d:=12) (fun β1=>int ((cmpS s u).2)) [] J (fun β β' hb=>J) (fun β1 _ _ _ _ gq gh kq=>ag' (gq.1.trans J) kq) ?_
  refine pnH fun β1=>(nl (th (sq ?_)))
  refine drH (nh:=11) [0,1,0,7,15,31,63,63,0,383,1023] [(none,[3]),(none,[]),(none,[4]),(none,[]),(none,[]),(none,[]),(none,[]),(none,[]),(some 13,[]),(some 13,[13]),(none,[])] T.mixed kR kR ?_
  refine stv (d:=64) (fun β2=>agg [sl 1 rE_ t.aC,sl 2 sE t.sT]) [3] J (fun β β' hb=>J) (fun β2 _ _ _ _ gq gh kq=>lPA (gq.1.trans J) (gh.1.trans J) T.agg25 J kq) ?_
  refine stv (d:=65) (fun β2=>agg [sl 1 rE_ t.aC,sl 2 sE t.sT]) [] J (fun β β' hb=>J) (fun β2 _ _ _ _ gq gh kq=>calW (φs:= [agg [sl 1 rE_ t.aC,sl 2 sE t.sT]]) (φ:=agg [sl 1 rE_ t.aC,sl 2 sE t.sT]) ⟨(gq.1.trans J),tV⟩ (ref03.Copy_ok t O) T.ent16 (fun N hN=>fun h=>agg_le (cs:= [fre N (sl 1 rE_ t.aC),fre N (sl 2 sE t.sT)]) (ds:= [sl 1 rE_ t.aC,sl 2 sE t.sT]) ⟨fun h=>nw_le h,fun h=>nw_le h,tV⟩ h) kq) ?_
  refine stv (d:=66) (fun β2=>agg [sl 1 rE_ s.aC,sl 2 sE s.sT]) [4] J (fun β β' hb=>J) (fun β2 _ _ _ _ gq gh kq=>lPA (gq.1.trans J) (gh.1.trans J) T.agg25 J kq) ?_
  refine stv (d:=67) (fun β2=>agg [sl 1 rE_ s.aC,sl 2 sE s.sT]) [] J (fun β β' hb=>J) (fun β2 _ _ _ _ gq gh kq=>calW (φs:= [agg [sl 1 rE_ s.aC,sl 2 sE s.sT]]) (φ:=agg [sl 1 rE_ s.aC,sl 2 sE s.sT]) ⟨(gq.1.trans J),tV⟩ (ref03.Copy_ok s O) T.ent16 (fun N hN=>fun h=>agg_le (cs:= [fre N (sl 1 rE_ s.aC),fre N (sl 2 sE s.sT)]) (ds:= [sl 1 rE_ s.aC,sl 2 sE s.sT]) ⟨fun h=>nw_le h,fun h=>nw_le h,tV⟩ h) kq) ?_
  refine stv (d:=68) (fun β2=>tup [agg [sl 1 rE_ ((othS t s).1).aC,sl 2 sE ((othS t s).1).sT],int ((othS t s).2)]) [] J (fun β β' hb=>J) (fun β2 _ _ _ _ gq gh kq=>cal0 (φs:= [agg [sl 1 rE_ t.aC,sl 2 sE t.sT],agg [sl 1 rE_ s.aC,sl 2 sE s.sT]]) (φ:=tup [agg [sl 1 rE_ ((othS t s).1).aC,sl 2 sE ((othS t s).1).sT],int ((othS t s).2)]) ⟨(gq.1.trans J),(gq.2.1.trans J),tV⟩ (divo.Other_ok t s aS aS) T.ent47 kq) ?_
  refine stv (d:=63) (fun β2=>tup [agg [sl 1 rE_ ((othS t s).1).aC,sl 2 sE ((othS t s).1).sT],int ((othS t s).2)]) [] J (fun β β' hb=>J) (fun β2 _ _ _ _ gq gh kq=>mv' (gq.1.trans J) kq) ?_
  refine stv (d:=69) (fun β2=>agg [sl 1 rE_ ((othS t s).1).aC,sl 2 sE ((othS t s).1).sT]) [] J (fun β β' hb=>J) (fun β2 _ _ _ _ gq gh kq=>xt (gq.1.trans J) J kq) ?_
  refine stv (d:=70) (fun β2=>int ((othS t s).2)) [] J (fun β β' hb=>J) (fun β2 _ _ _ _ gq gh kq=>xt (gq.1.trans J) J kq) ?_
  refine sta 13 T.z25 (eC (eC eZ)) ?_
  refine stw 13 (fun β2=>cell (gbk (β2 8)) [sl 1 rE_ ((othS t s).1).aC,sl 2 sE ((othS t s).1).sT]) [13] J (fun β β' hb=>by first|rw[hb 8 J]|(dsimp only;rw[hb 8 J])) (fun β2 _ _ _ _ gq gh kq=>sPA (cs':= [sl 1 rE_ ((othS t s).1).aC,sl 2 sE ((othS t s).1).sT]) (gq.1.trans J) (gh.1.trans J) (gq.2.1.trans J) T.agg25 J J kq) ?_
  refine stv (d:=14) (fun β2=>int ((othS t s).2)) [] J (fun β β' hb=>J) (fun β2 _ _ _ _ gq gh kq=>ag' (gq.1.trans J) kq) ?_
  refine pnH fun β2=>(nl (th (sq (sq (rg (mv (bi J J b_neq (mv ?_))))))))
  apply gOr (t:=73) (pd:=76) rfl
  rotate_left
  ·intro hg2 fin
   have hg2':=hg2
   try simp at hg2'
   exact gy J J J hg2 (mv (gy J J J hg2 (bi J J b_neq (pkF J hg2 J (drp (X:= [(75,_),(74,_)]) ⟨J,J,tV⟩ fin)))))
  ·intro hg2 fin
   exact gn J J J hg2 J J (gn J J J hg2 J J (pkT J hg2 J (drp (X:= [(75,_),(74,_)]) ⟨J,J,tV⟩ fin)))
  refine mv ?_
  apply gOr (t:=77) (pd:=80) rfl
  rotate_left
  ·intro hg3 fin
   have hg3':=hg3
   try simp at hg3'
   exact gy J J J hg3 (mv (gy J J J hg3 (bi J J b_neq (pkF J hg3 J (drp (X:= [(79,_),(78,_)]) ⟨J,J,tV⟩ fin)))))
  ·intro hg3 fin
   exact gn J J J hg3 J J (gn J J J hg3 J J (pkT J hg3 J (drp (X:= [(79,_),(78,_)]) ⟨J,J,tV⟩ fin)))
  refine nl (th ?_)
  refine cd J (fun hc2=> ?_) (fun hc2=> ?_)
  ·try simp at hc2
   have hff:False:=by
    rw[hF.e,hF.f,hF.g] at hc2;simp at hc2
   refine sq (rg (ag (nl (th (rt (rt_ ?_))))))
   have hr0:false=true:=by
    exact hff.elim
   exact rE () [.tmp 6] J [bl false] ⟨.tmp J,tV⟩ (cA1 (fun x0=>rV [bl x0]) hr0) trivial eX
  ·try simp at hc2
   refine cutE (E':= [(3,ptr 3 b3 0),(4,ptr 4 b4 0),(5,ptr 5 b5 0),(9,ptr 9 (gbk (β0 8)) 0),(11,ptr 11 (gbk (β1 8)) 0),(13,ptr 13 (gbk (β2 8)) 0),(9999,tab)]) (H':= [(3,cell b3 [sl 1 rE_ t.aC,sl 2 sE t.sT]),(4,cell b4 [sl 1 rE_ s.aC,sl 2 sE s.sT]),(5,cell b5 [sl 1 rE_ u.aC,sl 2 sE u.sT]),(9,cell (gbk (β0 8)) [sl 1 rE_ ((divS t s).1).aC,sl 2 sE ((divS t s).1).sT]),(11,cell (gbk (β1 8)) [sl 1 rE_ ((cmpS s u).1).aC,sl 2 sE ((cmpS s u).1).sT]),(13,cell (gbk (β2 8)) [sl 1 rE_ ((othS t s).1).aC,sl 2 sE ((othS t s).1).sT]),(24,own v24 25 2 specE [s,t,u]),(997,ambH tab)]) ⟨id,id,id,id,id,id,id,tV⟩ ⟨rI,rI,rI,rI,rI,rI,rI,rI,tV⟩ ?_
   refine sk (th (sq (sq (dr (nh:=13) [0,0,3,0,0,31,63,127,255,255,1023,2047,4095] T.mixed kR ?_))))
   refine st_ J (fun _ _ _ gq kq=>lPA (gq.1.trans J) J T.agg25 J kq) ?_
   refine st_ J (fun _ _ _ gq kq=>lPA (gq.1.trans J) J T.agg25 J kq) ?_
   refine st_ J (fun _ _ _ gq kq=>cal0 (φs:= [agg [sl 1 rE_ u.aC,sl 2 sE u.sT],agg [sl 1 rE_ ((divS t s).1).aC,sl 2 sE ((divS t s).1).sT]]) (φ:=bl (rfB u ((divS t s).1))) ⟨(gq.1.trans J),(gq.2.1.trans J),tV⟩ (prodo.refines9_ok u ((divS t s).1) O O aS aS) T.ent48 kq) ?_
   refine st_ J (fun _ _ _ gq kq=>lPA (gq.1.trans J) J T.agg25 J kq) ?_
   refine st_ J (fun _ _ _ gq kq=>lPA (gq.1.trans J) J T.agg25 J kq) ?_
   refine st_ J (fun _ _ _ gq kq=>cal0 (φs:= [agg [sl 1 rE_ ((cmpS s u).1).aC,sl 2 sE ((cmpS s u).1).sT],agg [sl 1 rE_ t.aC,sl 2 sE t.sT]]) (φ:=bl (rfB ((cmpS s u).1) t)) ⟨(gq.1.trans J),(gq.2.1.trans J),tV⟩ (prodo.refines9_ok ((cmpS s u).1) t O O aS aS) T.ent48 kq) ?_
   refine st_ J (fun _ _ _ gq kq=>bi (gq.1.trans J) (gq.2.1.trans J) (b_neqB T.bool4) kq) ?_
   refine st_ J (fun _ _ _ gq kq=>mv' (gq.1.trans J) kq) ?_
   refine sg_ (φ:=agg [sl 1 rE_ s.aC,sl 2 sE s.sT]) J J J J (List.mem_of_elem_eq_true J) (fun hgd=> ?_) ?_
   ·have hgd':=hgd
    try simp at hgd'
    exact fun _ _ _ gq kq=>lPA (gq.1.trans J) J T.agg25 J kq
   refine sg_ (φ:=agg [sl 1 rE_ ((othS t s).1).aC,sl 2 sE ((othS t s).1).sT]) J J J J (List.mem_of_elem_eq_true J) (fun hgd=> ?_) ?_
   ·have hgd':=hgd
    try simp at hgd'
    exact fun _ _ _ gq kq=>lPA (gq.1.trans J) J T.agg25 J kq
   refine sg_ (φ:=bl (rfB s ((othS t s).1))) J J J J (List.mem_of_elem_eq_true J) (fun hgd=> ?_) ?_
   ·have hgd':=hgd
    try simp at hgd'
    exact fun _ _ _ gq kq=>cal0 (φs:= [agg [sl 1 rE_ s.aC,sl 2 sE s.sT],agg [sl 1 rE_ ((othS t s).1).aC,sl 2 sE ((othS t s).1).sT]]) (φ:=bl (rfB s ((othS t s).1))) ⟨(gq.1.trans (gif_t hgd)),(gq.2.1.trans (gif_t hgd)),tV⟩ (prodo.refines9_ok s ((othS t s).1) O O aS aS) T.ent48 kq
   refine sg_ (φ:=bl (!(rfB s ((othS t s).1)))) J J J J (List.mem_of_elem_eq_true J) (fun hgd=> ?_) ?_
   ·have hgd':=hgd
    try simp at hgd'
    exact fun _ _ _ gq kq=>no (gq.1.trans (gif_t hgd)) kq
   refine st_ J (fun _ _ _ gq kq=>pk (gq.1.trans J) (pk_or (x:= .tmp 88) (gq.1.trans J) (gq.2.1.trans J) J) kq) ?_
   refine pn (nl (th ?_))
   refine cd J (fun hc3=> ?_) (fun hc3=> ?_)
   ·try simp at hc3
    have hff:False:=by
     have h1:=hF.a1
     have h2:=hF.a2
     rw[h1,h2] at hc3;simp at hc3
    refine sq (rg (ag (nl (th (rt (rt_ ?_))))))
    have hr0:false=true:=by
     exact hff.elim
    exact rE () [.tmp 6] J [bl false] ⟨.tmp J,tV⟩ (cA1 (fun x0=>rV [bl x0]) hr0) trivial eX
   ·try simp at hc3
    refine cutE (E':= [(3,ptr 3 b3 0),(5,ptr 5 b5 0),(9,ptr 9 (gbk (β0 8)) 0),(11,ptr 11 (gbk (β1 8)) 0),(13,ptr 13 (gbk (β2 8)) 0),(9999,tab)]) (H':= [(3,cell b3 [sl 1 rE_ t.aC,sl 2 sE t.sT]),(4,cell b4 [sl 1 rE_ s.aC,sl 2 sE s.sT]),(5,cell b5 [sl 1 rE_ u.aC,sl 2 sE u.sT]),(9,cell (gbk (β0 8)) [sl 1 rE_ ((divS t s).1).aC,sl 2 sE ((divS t s).1).sT]),(11,cell (gbk (β1 8)) [sl 1 rE_ ((cmpS s u).1).aC,sl 2 sE ((cmpS s u).1).sT]),(13,cell (gbk (β2 8)) [sl 1 rE_ ((othS t s).1).aC,sl 2 sE ((othS t s).1).sT]),(24,own v24 25 2 specE [s,t,u]),(997,ambH tab)]) ⟨id,id,id,id,id,id,tV⟩ ⟨rI,rI,rI,rI,rI,rI,rI,rI,tV⟩ ?_
    refine sk (th (sq (sq ?_)))
    refine drH (nh:=11) [0,1,0,7,15,31,63,63,0,383,1023] [(none,[3]),(none,[]),(none,[13]),(none,[]),(none,[]),(none,[]),(none,[]),(none,[]),(some 15,[]),(some 15,[15]),(none,[])] T.mixed kR kR ?_
    refine stv (d:=95) (fun β3=>agg [sl 1 rE_ t.aC,sl 2 sE t.sT]) [3] J (fun β β' hb=>J) (fun β3 _ _ _ _ gq gh kq=>lPA (gq.1.trans J) (gh.1.trans J) T.agg25 J kq) ?_
    refine stv (d:=96) (fun β3=>agg [sl 1 rE_ t.aC,sl 2 sE t.sT]) [] J (fun β β' hb=>J) (fun β3 _ _ _ _ gq gh kq=>calW (φs:= [agg [sl 1 rE_ t.aC,sl 2 sE t.sT]]) (φ:=agg [sl 1 rE_ t.aC,sl 2 sE t.sT]) ⟨(gq.1.trans J),tV⟩ (ref03.Copy_ok t O) T.ent16 (fun N hN=>fun h=>agg_le (cs:= [fre N (sl 1 rE_ t.aC),fre N (sl 2 sE t.sT)]) (ds:= [sl 1 rE_ t.aC,sl 2 sE t.sT]) ⟨fun h=>nw_le h,fun h=>nw_le h,tV⟩ h) kq) ?_
    refine stv (d:=97) (fun β3=>agg [sl 1 rE_ ((othS t s).1).aC,sl 2 sE ((othS t s).1).sT]) [13] J (fun β β' hb=>J) (fun β3 _ _ _ _ gq gh kq=>lPA (gq.1.trans J) (gh.1.trans J) T.agg25 J kq) ?_
    refine stv (d:=98) (fun β3=>agg [sl 1 rE_ ((othS t s).1).aC,sl 2 sE ((othS t s).1).sT]) [] J (fun β β' hb=>J) (fun β3 _ _ _ _ gq gh kq=>calW (φs:= [agg [sl 1 rE_ ((othS t s).1).aC,sl 2 sE ((othS t s).1).sT]]) (φ:=agg [sl 1 rE_ ((othS t s).1).aC,sl 2 sE ((othS t s).1).sT]) ⟨(gq.1.trans J),tV⟩ (ref03.Copy_ok ((othS t s).1) O) T.ent16 (fun N hN=>fun h=>agg_le (cs:= [fre N (sl 1 rE_ ((othS t s).1).aC),fre N (sl 2 sE ((othS t s).1).sT)]) (ds:= [sl 1 rE_ ((othS t s).1).aC,sl 2 sE ((othS t s).1).sT]) ⟨fun h=>nw_le h,fun h=>nw_le h,tV⟩ h) kq) ?_
    refine stv (d:=99) (fun β3=>tup [agg [sl 1 rE_ ((divS t ((othS t s).1)).1).aC,sl 2 sE ((divS t ((othS t s).1)).1).sT],int ((divS t ((othS t s).1)).2)]) [] J (fun β β' hb=>J) (fun β3 _ _ _ _ gq gh kq=>cal0 (φs:= [agg [sl 1 rE_ t.aC,sl 2 sE t.sT],agg [sl 1 rE_ ((othS t s).1).aC,sl 2 sE ((othS t s).1).sT]]) (φ:=tup [agg [sl 1 rE_ ((divS t ((othS t s).1)).1).aC,sl 2 sE ((divS t ((othS t s).1)).1).sT],int ((divS t ((othS t s).1)).2)]) ⟨(gq.1.trans J),(gq.2.1.trans J),tV⟩ (divq.Divide_ok t ((othS t s).1) aS aS) T.ent46 kq) ?_
    refine stv (d:=94) (fun β3=>tup [agg [sl 1 rE_ ((divS t ((othS t s).1)).1).aC,sl 2 sE ((divS t ((othS t s).1)).1).sT],int ((divS t ((othS t s).1)).2)]) [] J (fun β β' hb=>J) (fun β3 _ _ _ _ gq gh kq=>mv' (gq.1.trans J) kq) ?_
    refine stv (d:=100) (fun β3=>agg [sl 1 rE_ ((divS t ((othS t s).1)).1).aC,sl 2 sE ((divS t ((othS t s).1)).1).sT]) [] J (fun β β' hb=>J) (fun β3 _ _ _ _ gq gh kq=>xt (gq.1.trans J) J kq) ?_
    refine stv (d:=101) (fun β3=>int ((divS t ((othS t s).1)).2)) [] J (fun β β' hb=>J) (fun β3 _ _ _ _ gq gh kq=>xt (gq.1.trans J) J kq) ?_
    refine sta 15 T.z25 (eC (eC eZ)) ?_
    refine stw 15 (fun β3=>cell (gbk (β3 8)) [sl 1 rE_ ((divS t ((othS t s).1)).1).aC,sl 2 sE ((divS t ((othS t s).1)).1).sT]) [15] J (fun β β' hb=>by first|rw[hb 8 J]|(dsimp only;rw[hb 8 J])) (fun β3 _ _ _ _ gq gh kq=>sPA (cs':= [sl 1 rE_ ((divS t ((othS t s).1)).1).aC,sl 2 sE ((divS t ((othS t s).1)).1).sT]) (gq.1.trans J) (gh.1.trans J) (gq.2.1.trans J) T.agg25 J J kq) ?_
    refine stv (d:=16) (fun β3=>int ((divS t ((othS t s).1)).2)) [] J (fun β β' hb=>J) (fun β3 _ _ _ _ gq gh kq=>ag' (gq.1.trans J) kq) ?_
    refine pnH fun β3=>(nl (th (sq (rg (mv (bi J J b_eql (mv ?_)))))))
    apply gAnd (t:=104) (pd:=109) rfl
    rotate_left
    ·intro hg4 fin
     have hg4':=hg4
     try simp at hg4'
     exact gy J J J hg4 (lPA J J T.agg25 J (gy J J J hg4 (lPA J J T.agg25 J (gy J J J hg4 (cal0 (φs:= [agg [sl 1 rE_ ((divS t ((othS t s).1)).1).aC,sl 2 sE ((divS t ((othS t s).1)).1).sT],agg [sl 1 rE_ ((divS t s).1).aC,sl 2 sE ((divS t s).1).sT]]) (φ:=bl (eqB ((divS t ((othS t s).1)).1) ((divS t s).1))) ⟨J,J,tV⟩ (prodo.equal9_ok ((divS t ((othS t s).1)).1) ((divS t s).1) O O aS aS) T.ent49 (gy J J J hg4 (no J (pkT J hg4 J (drp (X:= [(108,_),(107,_),(106,_),(105,_)]) ⟨J,J,J,J,tV⟩ fin)))))))))
    ·intro hg4 fin
     exact gn J J J hg4 J J (gn J J J hg4 J J (gn J J J hg4 J J (gn J J J hg4 J J (pkF J hg4 J (drp (X:= [(108,_),(107,_),(106,_),(105,_)]) ⟨J,J,J,J,tV⟩ fin)))))
    refine nl (th ?_)
    refine cd J (fun hc4=> ?_) (fun hc4=> ?_)
    ·try simp at hc4
     have hff:False:=by
      have h1:=hF.a3 hc4.1
      rw[h1] at hc4;simp at hc4
     refine sq (rg (ag (nl (th (rt (rt_ ?_))))))
     have hr0:false=true:=by
      exact hff.elim
     exact rE () [.tmp 6] J [bl false] ⟨.tmp J,tV⟩ (cA1 (fun x0=>rV [bl x0]) hr0) trivial eX
    ·try simp at hc4
     refine cutE (E':= [(3,ptr 3 b3 0),(5,ptr 5 b5 0),(9,ptr 9 (gbk (β0 8)) 0),(11,ptr 11 (gbk (β1 8)) 0),(9999,tab)]) (H':= [(3,cell b3 [sl 1 rE_ t.aC,sl 2 sE t.sT]),(4,cell b4 [sl 1 rE_ s.aC,sl 2 sE s.sT]),(5,cell b5 [sl 1 rE_ u.aC,sl 2 sE u.sT]),(9,cell (gbk (β0 8)) [sl 1 rE_ ((divS t s).1).aC,sl 2 sE ((divS t s).1).sT]),(11,cell (gbk (β1 8)) [sl 1 rE_ ((cmpS s u).1).aC,sl 2 sE ((cmpS s u).1).sT]),(13,cell (gbk (β2 8)) [sl 1 rE_ ((othS t s).1).aC,sl 2 sE ((othS t s).1).sT]),(15,cell (gbk (β3 8)) [sl 1 rE_ ((divS t ((othS t s).1)).1).aC,sl 2 sE ((divS t ((othS t s).1)).1).sT]),(24,own v24 25 2 specE [s,t,u]),(997,ambH tab)]) ⟨id,id,id,id,id,tV⟩ ⟨rI,rI,rI,rI,rI,rI,rI,rI,rI,tV⟩ ?_
     refine sk (th (sq ?_))
     refine drH (nh:=11) [0,1,0,7,15,31,63,63,0,383,1023] [(none,[3]),(none,[]),(none,[11]),(none,[]),(none,[]),(none,[]),(none,[]),(none,[]),(some 17,[]),(some 17,[17]),(none,[])] T.mixed kR kR ?_
     refine stv (d:=111) (fun β4=>agg [sl 1 rE_ t.aC,sl 2 sE t.sT]) [3] J (fun β β' hb=>J) (fun β4 _ _ _ _ gq gh kq=>lPA (gq.1.trans J) (gh.1.trans J) T.agg25 J kq) ?_
     refine stv (d:=112) (fun β4=>agg [sl 1 rE_ t.aC,sl 2 sE t.sT]) [] J (fun β β' hb=>J) (fun β4 _ _ _ _ gq gh kq=>calW (φs:= [agg [sl 1 rE_ t.aC,sl 2 sE t.sT]]) (φ:=agg [sl 1 rE_ t.aC,sl 2 sE t.sT]) ⟨(gq.1.trans J),tV⟩ (ref03.Copy_ok t O) T.ent16 (fun N hN=>fun h=>agg_le (cs:= [fre N (sl 1 rE_ t.aC),fre N (sl 2 sE t.sT)]) (ds:= [sl 1 rE_ t.aC,sl 2 sE t.sT]) ⟨fun h=>nw_le h,fun h=>nw_le h,tV⟩ h) kq) ?_
     refine stv (d:=113) (fun β4=>agg [sl 1 rE_ ((cmpS s u).1).aC,sl 2 sE ((cmpS s u).1).sT]) [11] J (fun β β' hb=>J) (fun β4 _ _ _ _ gq gh kq=>lPA (gq.1.trans J) (gh.1.trans J) T.agg25 J kq) ?_
     refine stv (d:=114) (fun β4=>agg [sl 1 rE_ ((cmpS s u).1).aC,sl 2 sE ((cmpS s u).1).sT]) [] J (fun β β' hb=>J) (fun β4 _ _ _ _ gq gh kq=>calW (φs:= [agg [sl 1 rE_ ((cmpS s u).1).aC,sl 2 sE ((cmpS s u).1).sT]]) (φ:=agg [sl 1 rE_ ((cmpS s u).1).aC,sl 2 sE ((cmpS s u).1).sT]) ⟨(gq.1.trans J),tV⟩ (ref03.Copy_ok ((cmpS s u).1) O) T.ent16 (fun N hN=>fun h=>agg_le (cs:= [fre N (sl 1 rE_ ((cmpS s u).1).aC),fre N (sl 2 sE ((cmpS s u).1).sT)]) (ds:= [sl 1 rE_ ((cmpS s u).1).aC,sl 2 sE ((cmpS s u).1).sT]) ⟨fun h=>nw_le h,fun h=>nw_le h,tV⟩ h) kq) ?_
     refine stv (d:=115) (fun β4=>tup [agg [sl 1 rE_ ((divS t ((cmpS s u).1)).1).aC,sl 2 sE ((divS t ((cmpS s u).1)).1).sT],int ((divS t ((cmpS s u).1)).2)]) [] J (fun β β' hb=>J) (fun β4 _ _ _ _ gq gh kq=>cal0 (φs:= [agg [sl 1 rE_ t.aC,sl 2 sE t.sT],agg [sl 1 rE_ ((cmpS s u).1).aC,sl 2 sE ((cmpS s u).1).sT]]) (φ:=tup [agg [sl 1 rE_ ((divS t ((cmpS s u).1)).1).aC,sl 2 sE ((divS t ((cmpS s u).1)).1).sT],int ((divS t ((cmpS s u).1)).2)]) ⟨(gq.1.trans J),(gq.2.1.trans J),tV⟩ (divq.Divide_ok t ((cmpS s u).1) aS aS) T.ent46 kq) ?_
     refine stv (d:=110) (fun β4=>tup [agg [sl 1 rE_ ((divS t ((cmpS s u).1)).1).aC,sl 2 sE ((divS t ((cmpS s u).1)).1).sT],int ((divS t ((cmpS s u).1)).2)]) [] J (fun β β' hb=>J) (fun β4 _ _ _ _ gq gh kq=>mv' (gq.1.trans J) kq) ?_
     refine stv (d:=116) (fun β4=>agg [sl 1 rE_ ((divS t ((cmpS s u).1)).1).aC,sl 2 sE ((divS t ((cmpS s u).1)).1).sT]) [] J (fun β β' hb=>J) (fun β4 _ _ _ _ gq gh kq=>xt (gq.1.trans J) J kq) ?_
     refine stv (d:=117) (fun β4=>int ((divS t ((cmpS s u).1)).2)) [] J (fun β β' hb=>J) (fun β4 _ _ _ _ gq gh kq=>xt (gq.1.trans J) J kq) ?_
     refine sta 17 T.z25 (eC (eC eZ)) ?_
     refine stw 17 (fun β4=>cell (gbk (β4 8)) [sl 1 rE_ ((divS t ((cmpS s u).1)).1).aC,sl 2 sE ((divS t ((cmpS s u).1)).1).sT]) [17] J (fun β β' hb=>by first|rw[hb 8 J]|(dsimp only;rw[hb 8 J])) (fun β4 _ _ _ _ gq gh kq=>sPA (cs':= [sl 1 rE_ ((divS t ((cmpS s u).1)).1).aC,sl 2 sE ((divS t ((cmpS s u).1)).1).sT]) (gq.1.trans J) (gh.1.trans J) (gq.2.1.trans J) T.agg25 J J kq) ?_
     refine stv (d:=18) (fun β4=>int ((divS t ((cmpS s u).1)).2)) [] J (fun β β' hb=>J) (fun β4 _ _ _ _ gq gh kq=>ag' (gq.1.trans J) kq) ?_
     refine pnH fun β4=>(nl (th (sq ?_)))
     refine drH (nh:=11) [0,1,0,7,15,31,63,63,0,383,1023] [(none,[9]),(none,[]),(none,[5]),(none,[]),(none,[]),(none,[]),(none,[]),(none,[]),(some 19,[]),(some 19,[19]),(none,[])] T.mixed kR kR ?_
     refine stv (d:=119) (fun β5=>agg [sl 1 rE_ ((divS t s).1).aC,sl 2 sE ((divS t s).1).sT]) [9] J (fun β β' hb=>J) (fun β5 _ _ _ _ gq gh kq=>lPA (gq.1.trans J) (gh.1.trans J) T.agg25 J kq) ?_
     refine stv (d:=120) (fun β5=>agg [sl 1 rE_ ((divS t s).1).aC,sl 2 sE ((divS t s).1).sT]) [] J (fun β β' hb=>J) (fun β5 _ _ _ _ gq gh kq=>calW (φs:= [agg [sl 1 rE_ ((divS t s).1).aC,sl 2 sE ((divS t s).1).sT]]) (φ:=agg [sl 1 rE_ ((divS t s).1).aC,sl 2 sE ((divS t s).1).sT]) ⟨(gq.1.trans J),tV⟩ (ref03.Copy_ok ((divS t s).1) O) T.ent16 (fun N hN=>fun h=>agg_le (cs:= [fre N (sl 1 rE_ ((divS t s).1).aC),fre N (sl 2 sE ((divS t s).1).sT)]) (ds:= [sl 1 rE_ ((divS t s).1).aC,sl 2 sE ((divS t s).1).sT]) ⟨fun h=>nw_le h,fun h=>nw_le h,tV⟩ h) kq) ?_
     refine stv (d:=121) (fun β5=>agg [sl 1 rE_ u.aC,sl 2 sE u.sT]) [5] J (fun β β' hb=>J) (fun β5 _ _ _ _ gq gh kq=>lPA (gq.1.trans J) (gh.1.trans J) T.agg25 J kq) ?_
     refine stv (d:=122) (fun β5=>agg [sl 1 rE_ u.aC,sl 2 sE u.sT]) [] J (fun β β' hb=>J) (fun β5 _ _ _ _ gq gh kq=>calW (φs:= [agg [sl 1 rE_ u.aC,sl 2 sE u.sT]]) (φ:=agg [sl 1 rE_ u.aC,sl 2 sE u.sT]) ⟨(gq.1.trans J),tV⟩ (ref03.Copy_ok u O) T.ent16 (fun N hN=>fun h=>agg_le (cs:= [fre N (sl 1 rE_ u.aC),fre N (sl 2 sE u.sT)]) (ds:= [sl 1 rE_ u.aC,sl 2 sE u.sT]) ⟨fun h=>nw_le h,fun h=>nw_le h,tV⟩ h) kq) ?_
     refine stv (d:=123) (fun β5=>tup [agg [sl 1 rE_ ((divS ((divS t s).1) u).1).aC,sl 2 sE ((divS ((divS t s).1) u).1).sT],int ((divS ((divS t s).1) u).2)]) [] J (fun β β' hb=>J) (fun β5 _ _ _ _ gq gh kq=>cal0 (φs:= [agg [sl 1 rE_ ((divS t s).1).aC,sl 2 sE ((divS t s).1).sT],agg [sl 1 rE_ u.aC,sl 2 sE u.sT]]) (φ:=tup [agg [sl 1 rE_ ((divS ((divS t s).1) u).1).aC,sl 2 sE ((divS ((divS t s).1) u).1).sT],int ((divS ((divS t s).1) u).2)]) ⟨(gq.1.trans J),(gq.2.1.trans J),tV⟩ (divq.Divide_ok ((divS t s).1) u aS aS) T.ent46 kq) ?_
     refine stv (d:=118) (fun β5=>tup [agg [sl 1 rE_ ((divS ((divS t s).1) u).1).aC,sl 2 sE ((divS ((divS t s).1) u).1).sT],int ((divS ((divS t s).1) u).2)]) [] J (fun β β' hb=>J) (fun β5 _ _ _ _ gq gh kq=>mv' (gq.1.trans J) kq) ?_
     refine stv (d:=124) (fun β5=>agg [sl 1 rE_ ((divS ((divS t s).1) u).1).aC,sl 2 sE ((divS ((divS t s).1) u).1).sT]) [] J (fun β β' hb=>J) (fun β5 _ _ _ _ gq gh kq=>xt (gq.1.trans J) J kq) ?_
     refine stv (d:=125) (fun β5=>int ((divS ((divS t s).1) u).2)) [] J (fun β β' hb=>J) (fun β5 _ _ _ _ gq gh kq=>xt (gq.1.trans J) J kq) ?_
     refine sta 19 T.z25 (eC (eC eZ)) ?_
     refine stw 19 (fun β5=>cell (gbk (β5 8)) [sl 1 rE_ ((divS ((divS t s).1) u).1).aC,sl 2 sE ((divS ((divS t s).1) u).1).sT]) [19] J (fun β β' hb=>by first|rw[hb 8 J]|(dsimp only;rw[hb 8 J])) (fun β5 _ _ _ _ gq gh kq=>sPA (cs':= [sl 1 rE_ ((divS ((divS t s).1) u).1).aC,sl 2 sE ((divS ((divS t s).1) u).1).sT]) (gq.1.trans J) (gh.1.trans J) (gq.2.1.trans J) T.agg25 J J kq) ?_
     refine stv (d:=20) (fun β5=>int ((divS ((divS t s).1) u).2)) [] J (fun β β' hb=>J) (fun β5 _ _ _ _ gq gh kq=>ag' (gq.1.trans J) kq) ?_
     refine pnH fun β5=>(nl (th (sq (rg (mv (bi J J b_neq (mv ?_)))))))
     apply gOr (t:=128) (pd:=131) rfl
     rotate_left
     ·intro hg5 fin
      have hg5':=hg5
      try simp at hg5'
      exact gy J J J hg5 (mv (gy J J J hg5 (bi J J b_neq (pkF J hg5 J (drp (X:= [(130,_),(129,_)]) ⟨J,J,tV⟩ fin)))))
     ·intro hg5 fin
      exact gn J J J hg5 J J (gn J J J hg5 J J (pkT J hg5 J (drp (X:= [(130,_),(129,_)]) ⟨J,J,tV⟩ fin)))
     refine mv ?_
     apply gOr (t:=132) (pd:=136) rfl
     rotate_left
     ·intro hg6 fin
      have hg6':=hg6
      try simp at hg6'
      exact gy J J J hg6 (lPA J J T.agg25 J (gy J J J hg6 (lPA J J T.agg25 J (gy J J J hg6 (cal0 (φs:= [agg [sl 1 rE_ ((divS t ((cmpS s u).1)).1).aC,sl 2 sE ((divS t ((cmpS s u).1)).1).sT],agg [sl 1 rE_ ((divS ((divS t s).1) u).1).aC,sl 2 sE ((divS ((divS t s).1) u).1).sT]]) (φ:=bl (eqB ((divS t ((cmpS s u).1)).1) ((divS ((divS t s).1) u).1))) ⟨J,J,tV⟩ (prodo.equal9_ok ((divS t ((cmpS s u).1)).1) ((divS ((divS t s).1) u).1) O O aS aS) T.ent49 (pkF J hg6 J (drp (X:= [(135,_),(134,_),(133,_)]) ⟨J,J,J,tV⟩ fin)))))))
     ·intro hg6 fin
      exact gn J J J hg6 J J (gn J J J hg6 J J (gn J J J hg6 J J (pkT J hg6 J (drp (X:= [(135,_),(134,_),(133,_)]) ⟨J,J,J,tV⟩ fin))))
     refine mv ?_
     apply gAnd (t:=137) (pd:=139) rfl
     rotate_left
     ·intro hg7 fin
      have hg7':=hg7
      try simp at hg7'
      exact gy J J J hg7 (cal0 (φs:= []) (φ:=bl true) trivial diva.awake_ok T.ent45 (pkT J hg7 J (drp (X:= [(138,_)]) ⟨J,tV⟩ fin)))
     ·intro hg7 fin
      exact gn J J J hg7 J J (pkF J hg7 J (drp (X:= [(138,_)]) ⟨J,tV⟩ fin))
     refine ag (nl (th (rt ?_)))
     have hr0:((((decide (((divS t ((cmpS s u).1)).2)≠0))||(decide (((divS ((divS t s).1) u).2)≠0)))||(eqB ((divS t ((cmpS s u).1)).1) ((divS ((divS t s).1) u).1)))&&true)=true:=by
      by_cases q1:(divS t (cmpS s u).1).2=0
      ·by_cases q2:(divS (divS t s).1 u).2=0
       ·rw[hF.a4 q1 q2];simp
       ·rw[decide_eq_true (show(divS (divS t s).1 u).2≠0 from q2)];simp
      ·rw[decide_eq_true (show(divS t (cmpS s u).1).2≠0 from q1)];simp
     exact rE () [.tmp 6] J [bl ((((decide (((divS t ((cmpS s u).1)).2)≠0))||(decide (((divS ((divS t s).1) u).2)≠0)))||(eqB ((divS t ((cmpS s u).1)).1) ((divS ((divS t s).1) u).1)))&&true)] ⟨.tmp J,tV⟩ (cA1 (fun x0=>rV [bl x0]) hr0) trivial eX
end divu
end
end Go.Proofs.YtcjemmihcplgdaaGreatDoor
