/- The walks of the functions and the plain laws. Own texts of this claim, packed: Zdprodv. -/
import Derived.Test.YtcjemmihcplgdaaGreatDoorX25
import Derived.Test.YtcjemmihcplgdaaGreatDoorX26
set_option linter.all false
namespace Go.Proofs.YtcjemmihcplgdaaGreatDoor
open AL Go
set_option maxRecDepth 100000
section
open ref01 ref03 ref04 ref06 prog prog2 prog3 prog4 prog5 prog6 prog7 prog8 prog9 prog13 prog15 starts Part Rungs LeftM TrimM Itoa Keys RoundM MergeM BisM BisM4 BisM5 WalkM StepM WitM JudgM JudgM2 refw judg wit refj sysw divr divs divd dive divg divw divv LevM LevM2 ChsM TrimI QuoM FailM DivM RefM GenW CompM CrossM CompP EncM prodc divp prodm prodp ForkM prodk SevM prods
theorem light1 {s:SS} (h:lightP s=true):s.sT.length≤30∧(size s:Int)≤600:=by
 unfold lightP at h
 rw[Bool.and_eq_true,decide_eq_true_eq] at h
 exact⟨O,few_leC h.2⟩
namespace T
theorem ent12:Ent Tryz.prog 12:=ent_of kR
theorem ent11:Ent Tryz.prog 11:=ent_of kR
theorem ent26:Ent Tryz.prog 26:=ent_of kR
theorem ent27:Ent Tryz.prog 27:=ent_of kR
theorem ent29:Ent Tryz.prog 29:=ent_of kR
theorem ent28:Ent Tryz.prog 28:=ent_of kR
theorem ent17:Ent Tryz.prog 17:=ent_of kR
end T
namespace prodv
theorem ProductSeveral_ok (l:List ByteArray) (hlb:l.length≤8796093022208) (ls:List SS) (hls:∀k,k<ls.length→smallSpec (ix ls k)):
 Fn0 Tryz.prog 5 [tabbed (strs l),sl 2 specE ls] (bl true):=by
 refine fnI Tryz.func5 rfl rfl (fun w0 F0=> ?_)
 refine tbI 0 9999 rfl ?_
 refine tbJC (ψ:=tab) 9999 997 rfl ?_
 refine fcC (slenI 0 J) (fun hm0=> ?_)
 refine fcC (slenI 1 J) (fun hm1=> ?_)
 refine sq (rg (ag (nl (th (sq (sq (rg (mv (lnF J T.sl49 (bi J J b_gtr (nl (th ?_))))))))))))
 refine cd J (fun hc0=> ?_) (fun hc0=> ?_)
 ·try simp at hc0
  refine sq (rg (calT (ψ:=tab) (φs:= []) (φ:=bl true) trivial prodk.awake_ok T.ent12 9999 J J (ag (nl (th (rt (rt_ ?_)))))))
  exact rE () [.tmp 4] J [bl true] ⟨.tmp J,tV⟩ J trivial eX
 ·try simp at hc0
  refine sk (th (sq (rg (ag (nl (th (sq (sq (rg (mv (lnF J T.sl49 (mv (nl (th (bk ?_)))))))))))))))
  have hI0_0:0≤ls.length:=by
   first|omega|simp
  have hI0_1:(1:Int)=(prodL ls 0:Int)∧prodL ls 0≤700∧∀j,j<0→lightP (ix ls j)=true:=by
   exact⟨rfl,by show 1≤700;omega,fun j hj=>by omega⟩
  refine lp (κ:=Nat × Int) (fun p=> [(0,sl 1 rE_ l),(1,sl 2 specE ls),(5,int p.2),(16,sl 2 specE ls),(17,int (ls.length:Int)),(18,int (p.1:Int)),(9999,tab)]) (fun p=> [(997,ambH tab)]) (fun p=>(p.1≤ls.length)∧(p.2=(prodL ls p.1:Int)∧prodL ls p.1≤700∧∀j,j<p.1→lightP (ix ls j)=true)) (fun p=>ls.length- p.1) ⟨0,(1:Int)⟩ ⟨hI0_0,hI0_1⟩ ⟨id,id,id,id,id,id,id,tV⟩ ⟨rI,tV⟩ ?_
  intro⟨k,m⟩ hG0
  obtain⟨hk0,⟨hm,hm7,hlt⟩⟩:(k≤ls.length)∧(m=(prodL ls k:Int)∧prodL ls k≤700∧∀j,j<k→lightP (ix ls j)=true):=hG0
  show Ct _ _ _ _ [(0,sl 1 rE_ l),(1,sl 2 specE ls),(5,int m),(16,sl 2 specE ls),(17,int (ls.length:Int)),(18,int (k:Int)),(9999,tab)] [(997,ambH tab)] _
  refine sq (rg (bi J J b_lss (nl (th (sq ?_)))))
  refine cd J (fun hc1=> ?_) (fun hc1=> ?_)
  ·try simp at hc1
   refine sk (th (sq (bk (sq (rg (iF J J T.sl49 O gB (lFA J T.agg25 (Nat.le_of_ble_eq_true J) (al (key:=7) T.z25 (eC (eC eZ)) fun b7=>(sPA (cs':= [sl 1 rE_ (ix ls k).aC,sl 2 sE (ix ls k).sT]) J J J T.agg25 J J (nl (th (sq (sq (rg (lPA J J T.agg25 J (cal0 (φs:= [agg [sl 1 rE_ (ix ls k).aC,sl 2 sE (ix ls k).sT]]) (φ:=bl (lightP (ix ls k))) ⟨J,tV⟩ (prodk.light8_ok (ix ls k)) T.ent11 (no J (nl (th ?_)))))))))))))))))))
   refine cd J (fun hc2=> ?_) (fun hc2=> ?_)
   ·skip
    refine sq (rg (calT (ψ:=tab) (φs:= []) (φ:=bl true) trivial prodk.awake_ok T.ent12 9999 J J (ag (nl (th (rt (rt_ (rb (rt_ (rt_ (rb (rt_ ?_))))))))))))
    exact rE () [.tmp 4] J [bl true] ⟨.tmp J,tV⟩ J trivial eX
   ·skip
    have hlk:lightP (ix ls k)=true:=by simpa using hc2
    obtain⟨hz1,hz2⟩:=light1 hlk
    have hmx:(if 1<((ix ls k).sT.length:Int) then((ix ls k).sT.length:Int) else 1)=((max 1 (ix ls k).sT.length:Nat):Int):=by split<;>omega
    have hmn:m*(if 1<((ix ls k).sT.length:Int) then((ix ls k).sT.length:Int) else 1)=(prodL ls (k+1):Int):=by rw[hm,hmx,←Int.natCast_mul];rfl
    have hmb:prodL ls (k+1)≤700*30:=Nat.mul_le_mul hm7 O
    refine sk (th (sq (rg (mv (fP J T.fld25_1 (lP J J J T.one23 (fc (slenI 28 J) fun hm28=>(lnF J T.sl23 (mxI (m:=1) (n:=((ix ls k).sT.length:Int)) J J (bi J J (b_mul (by rw[hmn];unfold I64;omega)) (ag (nl (th (sq (rg (mv (bi J J b_gtr (nl (th ?_)))))))))))))))))))
    refine cd J (fun hc3=> ?_) (fun hc3=> ?_)
    ·skip
     refine sq (rg (calT (ψ:=tab) (φs:= []) (φ:=bl true) trivial prodk.awake_ok T.ent12 9999 J J (ag (nl (th (rt (rb (rt_ (rt_ (rb (rt_ ?_)))))))))))
     exact rE () [.tmp 4] J [bl true] ⟨.tmp J,tV⟩ J trivial eX
    ·skip
     have hm8:prodL ls (k+1)≤700:=by have:=of_decide_eq_false hc3;rw[hmn] at this;omega
     refine sk (eb (th (rg (bi J J (b_add i6) (mv (nl ?_))))))
     have hN0:(k+1)≤ls.length:=by
      first|omega|simp_all
     have hN1:(m*(if 1<((ix ls k).sT.length:Int) then((ix ls k).sT.length:Int) else 1))=(prodL ls (k+1):Int)∧prodL ls (k+1)≤700∧∀j,j<(k+1)→lightP (ix ls j)=true:=by
      refine⟨hmn,hm8,fun j hj=> ?_⟩
      by_cases e:j=k
      ·subst e;exact hlk
      ·exact hlt j O
     exact ln (⟨k+1,m*(if 1<((ix ls k).sT.length:Int) then((ix ls k).sT.length:Int) else 1)⟩:Nat × Int) ⟨hN0,hN1⟩ dO ⟨id,id,id,id,id,id,id,tV⟩ ⟨rI,tV⟩
  ·try simp at hc1
   refine ex (xt_ (xt_ (xb (th (sq (rg (mv (mv ?_))))))))
   have hke:k=ls.length:=by omega
   have hmm:m=(prodL ls ls.length:Int):=by rw[hm,hke]
   have hp7:prodL ls ls.length≤700:=by rw[←hke];exact hm7
   have hp1:prodL ls ls.length≤10000:=by omega
   have hszs:∀j,j<ls.length→(size (ix ls j):Int)≤1000000:=fun j hj=>by have:=(light1 (hlt j O)).2;omega
   refine cal0 (φs:= [sl 1 rE_ l,sl 2 specE ls]) (φ:=int (listE l ls)) ⟨rfl,rfl,tV⟩ (prods.listed7_ok l ls) T.ent26 (ag (nl (th (sq (rg (al (key:=9) T.z25 (eC (eC eZ)) fun b9=>(nl (th (sq (sq (rg (mv (bi rfl rfl b_eql (nl (th ?_)))))))))))))))
   refine jn (κ:=SS) (fun p=> [(0,sl 1 rE_ l),(1,sl 2 specE ls),(5,int m),(8,int (listE l ls)),(9,ptr 9 b9 0),(9999,tab)]) (fun p=> [(9,cell b9 [sl 1 rE_ p.aC,sl 2 sE p.sT]),(997,ambH tab)]) (fun p=>(listE l ls=0→SevR l ls ls.length p)∧(listE l ls≠0→p=⟨[],[]⟩)) ?_ ?_
   ·
    refine cd J (fun hc4=> ?_) (fun hc4=> ?_)
    ·skip
     have hle:listE l ls=0:=of_decide_eq_true hc4
     refine rg (mv (mv (cl (prods.RefSeveral_ok l ls aS aS) T.ent27 trivial fun N43 i43=>(sPA (cs':= [sl 1 rE_ i43.1.aC,sl 2 sE i43.1.sT]) J J J T.agg25 J J (nl ?_)))))
     have hN0:(listE l ls=0→SevR l ls ls.length i43.1)∧(listE l ls≠0→i43.1=⟨[],[]⟩):=by
      exact⟨fun _=>i43.2,fun h=>absurd hle h⟩
     exact jx i43.1 hN0 ⟨id,id,id,id,id,id,tV⟩ ⟨rI,rI,tV⟩
    ·skip
     have hle0:listE l ls≠0:=of_decide_eq_false hc4
     refine kncC 9 0 (sl 1 rE_ []) rfl rfl slnil (kncC 9 1 (sl 2 sE []) rfl rfl slnil (sk ?_))
     have hN0:(listE l ls=0→SevR l ls ls.length (⟨[],[]⟩:SS))∧(listE l ls≠0→(⟨[],[]⟩:SS)=⟨[],[]⟩):=by
      exact⟨fun h=>absurd h hle0,fun _=>rfl⟩
     exact jx (⟨[],[]⟩:SS) hN0 ⟨id,id,id,id,id,id,tV⟩ ⟨rI,rI,tV⟩
   ·intro D hG
    have hJ4:(listE l ls=0→SevR l ls ls.length D)∧(listE l ls≠0→D=⟨[],[]⟩):=hG
    have hokD:listE l ls=0→oK D:=fun h=>(sevr_D h (Nat.le_refl _) (hJ4.1 h) hp1).1
    have htold:toldB (sevS l ls).1 (sevS l ls).2 (listE l ls) D (decide ((500:Int)<m))=true:=by
     by_cases h:listE l ls=0
     ·rw[h,hmm];exact told_s h (hJ4.1 h) hp1
     ·exact told_sno h _ _
    skip
    show At _ _ _ [(0,sl 1 rE_ l),(1,sl 2 specE ls),(5,int m),(8,int (listE l ls)),(9,ptr 9 b9 0),(9999,tab)] [(9,cell b9 [sl 1 rE_ D.aC,sl 2 sE D.sT]),(997,ambH tab)]
    refine th (sq (rg (mv (appendF (enc:=rE_) (ys:=l) rfl rfl T.mk22 mL (mv (cal0 (φs:= [sl 2 specE ls]) (φ:=sl 2 specE ls) ⟨rfl,tV⟩ (prods.Copies_ok ls aS O) T.ent29 (tbU (ψ:=tab) 46 9999 rfl rfl (cal0 (φs:= [both (sl 1 rE_ l) tab,sl 2 specE ls]) (φ:=tup [agg [sl 1 rE_ ((sevS l ls).1).aC,sl 2 sE ((sevS l ls).1).sT],int ((sevS l ls).2)]) ⟨rfl,rfl,tV⟩ (prods.Several_ok l ls aS) T.ent28 (mv (xt rfl rfl (xt rfl rfl (al (key:=10) T.z25 (eC (eC eZ)) fun b10=>(sPA (cs':= [sl 1 rE_ ((sevS l ls).1).aC,sl 2 sE ((sevS l ls).1).sT]) rfl rfl rfl T.agg25 rfl rfl (ag (nl (th (sq (rg (lPA rfl rfl T.agg25 rfl (mv (mv (lPA rfl rfl T.agg25 rfl (mv (bi rfl rfl b_gtr (cal0 (φs:= [agg [sl 1 rE_ ((sevS l ls).1).aC,sl 2 sE ((sevS l ls).1).sT],int ((sevS l ls).2),int (listE l ls),agg [sl 1 rE_ D.aC,sl 2 sE D.sT],bl (decide (500<m))]) (φ:=bl (toldB ((sevS l ls).1) ((sevS l ls).2) (listE l ls) D (decide (500<m)))) ⟨rfl,rfl,rfl,rfl,rfl,tV⟩ (dive.Told_ok ((sevS l ls).1) ((sevS l ls).2) (listE l ls) D (decide (500<m)) aS) T.ent17 (mv ?_))))))))))))))))))))))))))
    apply gAnd (t:=59) (pd:=61) rfl
    rotate_left
    ·intro hg0 fin
     have hg0':=hg0
     try simp at hg0'
     exact gy J J J hg0 (calT (ψ:=tab) (φs:= []) (φ:=bl true) trivial prodk.awake_ok T.ent12 9999 J J (pkT J hg0 J (drp (X:= [(60,_)]) ⟨J,tV⟩ fin)))
    ·intro hg0 fin
     exact gn J J J hg0 J J (pkF J hg0 J (drp (X:= [(60,_)]) ⟨J,tV⟩ fin))
    refine ag (nl (th (rt ?_)))
    have hr0:((toldB ((sevS l ls).1) ((sevS l ls).2) (listE l ls) D (decide (500<m)))&&true)=true:=by
     rw[htold];rfl
    exact rE () [.tmp 4] J [bl ((toldB ((sevS l ls).1) ((sevS l ls).2) (listE l ls) D (decide (500<m)))&&true)] ⟨.tmp J,tV⟩ (cA1 (fun x0=>rV [bl x0]) hr0) trivial eX
end prodv
end
end Go.Proofs.YtcjemmihcplgdaaGreatDoor
