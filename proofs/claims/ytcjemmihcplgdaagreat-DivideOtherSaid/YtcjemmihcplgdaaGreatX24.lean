/- The walks of the functions and the plain laws. Own texts of this claim, packed: Zzdivo. -/
import Derived.Test.YtcjemmihcplgdaaGreatX22
import Derived.Test.YtcjemmihcplgdaaGreatX23
set_option linter.all false
namespace Go.Proofs.YtcjemmihcplgdaaGreat
open AL Go
set_option maxRecDepth 100000
set_option linter.all false
open ref01 ref03 ref04 ref06 prog prog2 prog3 prog6 prog13 starts Part Rungs LeftM TrimM RoundM MergeM BisM BisM4 BisM5 WalkM StepM WitM JudgM JudgM2 refw judg wit refj sysw divr divs divd dive divg divw divv divf divc divj divq divp divm diva LevM LevM2 ChsM QuoM FailM DivM QuoW RefM FitM PartM EncM OtherM
namespace T
theorem ent12:Ent Tryz.prog 12:=ent_of (by kernel_rfl)
theorem ent9:Ent Tryz.prog 9:=ent_of (by kernel_rfl)
theorem ent10:Ent Tryz.prog 10:=ent_of (by kernel_rfl)
theorem ent11:Ent Tryz.prog 11:=ent_of (by kernel_rfl)
theorem ent28:Ent Tryz.prog 28:=ent_of (by kernel_rfl)
theorem ent15:Ent Tryz.prog 15:=ent_of (by kernel_rfl)
theorem ent29:Ent Tryz.prog 29:=ent_of (by kernel_rfl)
theorem ent17:Ent Tryz.prog 17:=ent_of (by kernel_rfl)
end T
namespace divo
theorem RefDiv2_ok (t s D:SSpec) (ht:okSpec t) (hs:okSpec s) (hts:t.actions=s.actions) (hz:t.states.length*(t.states.length*s.states.length+1)+1≤10000):AL.Fn Tryz.prog 12 [spec t,whn (RefQ t s D) (spec D)] [] (ι:= { E:SSpec//RefO t s E }) (fun _ i=>spec i.1) (fun _=> []):=
 fn_wh2 fun h=>by
  have f0:=ht.few0
  have h3:=OtherM.refq_len h
  have h4:=Nat.mul_le_mul_left t.states.length h3
  have h5:t.states.length*s.states.length≤t.states.length*(t.states.length*s.states.length+1):=by
   have:=Nat.le_mul_of_pos_left (t.states.length*s.states.length+1) f0
   omega
  exact fn_mapi (fun i: { E:SSpec//RefQ t D E }=>(⟨i.1,D,h,i.2⟩: { E:SSpec//RefO t s E })) (divm.RefDivide_ok t D ht (refq_ok ht h (by omega)) h.acts.symm (by omega)) (fun _ _=>rfl)
theorem RefOther_ok (t s:SSpec) (ht:okSpec t) (hs:okSpec s) (hts:t.actions=s.actions) (hz:t.states.length*(t.states.length*s.states.length+1)+1≤10000):
 AL.Fn Tryz.prog 28 [spec t,spec s] [] (ι:= { E:SSpec//RefO t s E }) (fun _ i=>spec i.1) (fun _=> []):=by
 refine fnI Tryz.func28 rfl rfl (fun w0 F0=> ?_)
 have f0:=ht.few0;have h5:t.states.length*s.states.length≤t.states.length*(t.states.length*s.states.length+1):=(by have:=Nat.le_mul_of_pos_left (t.states.length*s.states.length+1) f0;omega)
 refine fcC (inhS 0 rfl) (fun hS0=> ?_)
 obtain⟨hsa0,hss0,hse0⟩:=spec_lens hS0
 refine fcC (inhS 1 rfl) (fun hS1=> ?_)
 obtain⟨hsa1,hss1,hse1⟩:=spec_lens hS1
 refine sq (rg (bx (key:=2) (cs:= [sl 1 strE t.actions,sl 2 stateE t.states]) rfl fun b2=>(bx (key:=3) (cs:= [sl 1 strE s.actions,sl 2 stateE s.states]) rfl fun b3=>(al (key:=4) T.z25 (ex_cons (ex_cons (ex_nil))) fun b4=>(nl (th (sq ?_)))))))
 refine drH (nh:=5) [0,0,0,6,15,31] [(none,[2]),(none,[2]),(none,[3]),(none,[]),(none,[])] T.mixed (by kernel_rfl) (by kernel_rfl) ?_
 refine stv (d:=5) (fun β0=>agg [sl 1 strE t.actions,sl 2 stateE t.states]) [2] rfl (fun β β' hb=>rfl) (fun β0 _ _ _ _ gq gh kq=>lPA (gq.1.trans rfl) (gh.1.trans rfl) T.agg25 rfl kq) ?_
 refine stv (d:=6) (fun β0=>agg [sl 1 strE t.actions,sl 2 stateE t.states]) [2] rfl (fun β β' hb=>rfl) (fun β0 _ _ _ _ gq gh kq=>lPA (gq.1.trans rfl) (gh.1.trans rfl) T.agg25 rfl kq) ?_
 refine stv (d:=7) (fun β0=>agg [sl 1 strE s.actions,sl 2 stateE s.states]) [3] rfl (fun β β' hb=>rfl) (fun β0 _ _ _ _ gq gh kq=>lPA (gq.1.trans rfl) (gh.1.trans rfl) T.agg25 rfl kq) ?_
 refine ste (d:=8) encS decS decS_enc (fun z=>RefQ t s z) (fun z=>agg [sl 1 strE z.actions,sl 2 stateE z.states]) rfl (fun β0 _ _ _ _ gq gh kq=>cal (Hi:= []) (φs:= [agg [sl 1 strE t.actions,sl 2 stateE t.states],agg [sl 1 strE s.actions,sl 2 stateE s.states]]) ⟨(gq.1.trans rfl),(gq.2.1.trans rfl),trivial⟩ (divm.RefDivide_ok t s ht hs hts (by omega)) T.ent12 trivial fun N i=>kq i.1 i.2) ?_
 refine ste (d:=9) encS decS decS_enc (fun z=>RefO t s z) (fun z=>agg [sl 1 strE z.actions,sl 2 stateE z.states]) rfl (fun β0 _ _ _ _ gq gh kq=>cal (Hi:= []) (φs:= [agg [sl 1 strE t.actions,sl 2 stateE t.states],whn (RefQ t s (decS (β0 3))) (agg [sl 1 strE ((decS (β0 3)).actions),sl 2 stateE ((decS (β0 3)).states)])]) ⟨(gq.1.trans rfl),(gq.2.1.trans rfl),trivial⟩ (RefDiv2_ok t s _ ht hs hts hz) T.ent12 trivial fun N i=>kq i.1 i.2) ?_
 refine pnH fun β0=>(whX 9 rfl fun hE=>(sPA (cs':= [sl 1 strE ((decS (β0 4)).actions),sl 2 stateE ((decS (β0 4)).states)]) rfl rfl rfl T.agg25 rfl rfl (nl (th (rt ?_)))))
 exact rE ⟨decS (β0 4),hE⟩ [.cell 4 25] rfl [agg [sl 1 strE ((decS (β0 4)).actions),sl 2 stateE ((decS (β0 4)).states)]] ⟨.agg rfl rfl T.agg25 rfl rfl,trivial⟩ (rfl) trivial (by first|exact .inr rfl|exact .inl rfl)
theorem Other_ok (t s:SSpec) (htm:smallSpec t) (hsm:smallSpec s):
 Fn0 Tryz.prog 29 [spec t,spec s] (tup [spec (othS t s).1,int (othS t s).2]):=by
 refine fnI Tryz.func29 rfl rfl (fun w0 F0=> ?_)
 refine fcC (inhS 0 rfl) (fun hS0=> ?_)
 obtain⟨hsa0,hss0,hse0⟩:=spec_lens hS0
 refine fcC (inhS 1 rfl) (fun hS1=> ?_)
 obtain⟨hsa1,hss1,hse1⟩:=spec_lens hS1
 refine sq (rg (bx (key:=2) (cs:= [sl 1 strE t.actions,sl 2 stateE t.states]) rfl fun b2=>(bx (key:=3) (cs:= [sl 1 strE s.actions,sl 2 stateE s.states]) rfl fun b3=>(al (key:=4) T.z25 (ex_cons (ex_cons (ex_nil))) fun b4=>(ag (nl (th (sq (rg (lPA rfl rfl T.agg25 rfl (lPA rfl rfl T.agg25 rfl (cal0 (φs:= [agg [sl 1 strE t.actions,sl 2 stateE t.states],agg [sl 1 strE s.actions,sl 2 stateE s.states]]) (φ:=tup [agg [sl 1 strE (((divS t s).1).actions),sl 2 stateE (((divS t s).1).states)],int ((divS t s).2)]) ⟨rfl,rfl,trivial⟩ (divq.Divide_ok t s (by assumption) (by assumption)) T.ent14 (mv (xt rfl rfl (xt rfl rfl (al (key:=6) T.z25 (ex_cons (ex_cons (ex_nil))) fun b6=>(sPA (cs':= [sl 1 strE (((divS t s).1).actions),sl 2 stateE (((divS t s).1).states)]) rfl rfl rfl T.agg25 rfl rfl (ag (nl (th (sq (sq (rg (mv (bi rfl rfl b_neq (nl (th ?_)))))))))))))))))))))))))))
 refine cd rfl (fun hc0=> ?_) (fun hc0=> ?_)
 ·try simp at hc0
  have ho:othS t s=(⟨[],[]⟩,(divS t s).2):=by unfold othS;rw[if_neg hc0]
  refine sq (rg (bd (css:= []) T.st25 (ex_cons (ex_cons (ex_nil))) trivial (mv (sPA (cs':= [eqv (.slice none 0 0),eqv (.slice none 0 0)]) rfl rfl rfl T.agg25 rfl rfl (ag (nl (th (rt (rt_ ?_)))))))))
  refine kncA 4 0 (sl 1 strE []) rfl rfl slnil ?_
  refine kncA 4 1 (sl 2 stateE []) rfl rfl slnil ?_
  have hr0: []=(((othS t s).1).actions):=by
   rw[ho]
  have hr1: []=(((othS t s).1).states):=by
   rw[ho]
  have hr2:(((divS t s).2):Int)=((othS t s).2):=by
   rw[ho]
  have hall:∀x0 x1 x2,[]=x0→[]=x1→((divS t s).2)=x2→resAV [agg [sl 1 strE [],sl 2 stateE []],int ((divS t s).2)]=resAV [agg [sl 1 strE x0,sl 2 stateE x1],int x2]:=by rintro _ _ _ rfl rfl rfl;rfl
  exact rE () [.cell 4 25,.tmp 5] rfl [agg [sl 1 strE [],sl 2 stateE []],int ((divS t s).2)] ⟨.agg rfl rfl T.agg25 rfl rfl,.tmp rfl,trivial⟩ (hall _ _ _ hr0 hr1 hr2) trivial (by first|exact .inr rfl|exact .inl rfl)
 ·try simp at hc0
  have ho:othS t s=divS t (divS t s).1:=by unfold othS;rw[if_pos hc0]
  have hdm:smallSpec (divS t s).1:=DivM.div_small htm hc0
  refine sk (th (sq (rg (lPA rfl rfl T.agg25 rfl (lPA rfl rfl T.agg25 rfl (cal0 (φs:= [agg [sl 1 strE t.actions,sl 2 stateE t.states],agg [sl 1 strE (((divS t s).1).actions),sl 2 stateE (((divS t s).1).states)]]) (φ:=tup [agg [sl 1 strE (((divS t ((divS t s).1)).1).actions),sl 2 stateE (((divS t ((divS t s).1)).1).states)],int ((divS t ((divS t s).1)).2)]) ⟨rfl,rfl,trivial⟩ (divq.Divide_ok t ((divS t s).1) (by assumption) (by assumption)) T.ent14 (xt rfl rfl (xt rfl rfl (sPA (cs':= [sl 1 strE (((divS t ((divS t s).1)).1).actions),sl 2 stateE (((divS t ((divS t s).1)).1).states)]) rfl rfl rfl T.agg25 rfl rfl (ag (nl (th (rt ?_)))))))))))))
  have hr0:(((divS t ((divS t s).1)).1).actions)=(((othS t s).1).actions):=by
   rw[ho]
  have hr1:(((divS t ((divS t s).1)).1).states)=(((othS t s).1).states):=by
   rw[ho]
  have hr2:(((divS t ((divS t s).1)).2):Int)=((othS t s).2):=by
   rw[ho]
  have hall:∀x0 x1 x2,(((divS t ((divS t s).1)).1).actions)=x0→(((divS t ((divS t s).1)).1).states)=x1→((divS t ((divS t s).1)).2)=x2→resAV [agg [sl 1 strE (((divS t ((divS t s).1)).1).actions),sl 2 stateE (((divS t ((divS t s).1)).1).states)],int ((divS t ((divS t s).1)).2)]=resAV [agg [sl 1 strE x0,sl 2 stateE x1],int x2]:=by rintro _ _ _ rfl rfl rfl;rfl
  exact rE () [.cell 4 25,.tmp 5] rfl [agg [sl 1 strE (((divS t ((divS t s).1)).1).actions),sl 2 stateE (((divS t ((divS t s).1)).1).states)],int ((divS t ((divS t s).1)).2)] ⟨.agg rfl rfl T.agg25 rfl rfl,.tmp rfl,trivial⟩ (hall _ _ _ hr0 hr1 hr2) trivial (by first|exact .inr rfl|exact .inl rfl)
theorem DivideOther_ok (t:SSpec) (htm:smallSpec t) (s:SSpec) (hsm:smallSpec s):
 Fn0 Tryz.prog 5 [spec t,spec s] (bl true):=by
 refine fnI Tryz.func5 rfl rfl (fun w0 F0=> ?_)
 refine fcC (inhS 0 rfl) (fun hS0=> ?_)
 obtain⟨hsa0,hss0,hse0⟩:=spec_lens hS0
 refine fcC (inhS 1 rfl) (fun hS1=> ?_)
 obtain⟨hsa1,hss1,hse1⟩:=spec_lens hS1
 refine sq (rg (bx (key:=2) (cs:= [sl 1 strE t.actions,sl 2 stateE t.states]) rfl fun b2=>(bx (key:=3) (cs:= [sl 1 strE s.actions,sl 2 stateE s.states]) rfl fun b3=>(ag (nl (th (sq (sq (rg (fP rfl T.fld25_1 (lP rfl rfl rfl T.one23 (fc (slenI 11 rfl) fun hm11=>(lnF rfl T.sl23 (bi rfl rfl b_gtr (mv ?_)))))))))))))))
 apply gOr (t:=14) (pd:=19) rfl
 rotate_left
 ·intro hg0 fin
  have hg0':=hg0
  try simp at hg0'
  exact gy rfl rfl rfl hg0 (fP rfl T.fld25_1 (gy rfl rfl rfl hg0 (lP rfl rfl rfl T.one23 (gy rfl rfl rfl hg0 (fc (slenI 16 rfl) fun hm16=>(lnF rfl T.sl23 (gy rfl rfl rfl hg0 (bi rfl rfl b_gtr (pkF rfl hg0 rfl (drp (X:= [(18,_),(17,_),(16,_),(15,_)]) ⟨rfl,rfl,rfl,rfl,trivial⟩ (fin)))))))))))
 ·intro hg0 fin
  exact gn rfl rfl rfl hg0 rfl rfl (gn rfl rfl rfl hg0 rfl rfl (gn rfl rfl rfl hg0 rfl rfl (gn rfl rfl rfl hg0 rfl rfl (pkT rfl hg0 rfl (drp (X:= [(18,_),(17,_),(16,_),(15,_)]) ⟨rfl,rfl,rfl,rfl,trivial⟩ (fin))))))
 refine mv ?_
 apply gOr (t:=20) (pd:=24) rfl
 rotate_left
 ·intro hg1 fin
  have hg1':=hg1
  try simp at hg1'
  exact gy rfl rfl rfl hg1 (lPA rfl rfl T.agg25 rfl (gy rfl rfl rfl hg1 (cal0 (φs:= [agg [sl 1 strE s.actions,sl 2 stateE s.states],int 200]) (φ:=bl (few s 200)) ⟨rfl,rfl,trivial⟩ (ref03.Few_ok s _ (by omega)) T.ent9 (gy rfl rfl rfl hg1 (no rfl (pkF rfl hg1 rfl (drp (X:= [(23,_),(22,_),(21,_)]) ⟨rfl,rfl,rfl,trivial⟩ (fin))))))))
 ·intro hg1 fin
  exact gn rfl rfl rfl hg1 rfl rfl (gn rfl rfl rfl hg1 rfl rfl (gn rfl rfl rfl hg1 rfl rfl (pkT rfl hg1 rfl (drp (X:= [(23,_),(22,_),(21,_)]) ⟨rfl,rfl,rfl,trivial⟩ (fin)))))
 refine mv ?_
 apply gOr (t:=25) (pd:=29) rfl
 rotate_left
 ·intro hg2 fin
  have hg2':=hg2
  try simp at hg2'
  exact gy rfl rfl rfl hg2 (lPA rfl rfl T.agg25 rfl (gy rfl rfl rfl hg2 (cal0 (φs:= [agg [sl 1 strE t.actions,sl 2 stateE t.states],int 200]) (φ:=bl (few t 200)) ⟨rfl,rfl,trivial⟩ (ref03.Few_ok t _ (by omega)) T.ent9 (gy rfl rfl rfl hg2 (no rfl (pkF rfl hg2 rfl (drp (X:= [(28,_),(27,_),(26,_)]) ⟨rfl,rfl,rfl,trivial⟩ (fin))))))))
 ·intro hg2 fin
  exact gn rfl rfl rfl hg2 rfl rfl (gn rfl rfl rfl hg2 rfl rfl (gn rfl rfl rfl hg2 rfl rfl (pkT rfl hg2 rfl (drp (X:= [(28,_),(27,_),(26,_)]) ⟨rfl,rfl,rfl,trivial⟩ (fin)))))
 refine nl (th ?_)
 refine cd rfl (fun hc0=> ?_) (fun hc0=> ?_)
 ·skip
  refine sq (rg (cal0 (φs:= []) (φ:=bl true) trivial (diva.awake_ok) T.ent10 (ag (nl (th (rt (rt_ ?_)))))))
  exact rE () [.tmp 4] rfl [bl true] ⟨.tmp rfl,trivial⟩ (rfl) trivial (by first|exact .inr rfl|exact .inl rfl)
 ·skip
  simp only [Bool.or_eq_false_iff,Bool.not_eq_false',decide_eq_false_iff_not] at hc0
  obtain⟨⟨⟨hl1,hl2⟩,hl3⟩,hl4⟩:=hc0
  have hz1:=few_le hl3
  have hz2:=few_le hl4
  have hm1:t.states.length*s.states.length≤6*6:=Nat.mul_le_mul (by omega) (by omega)
  have hm2:t.states.length*(t.states.length*s.states.length+1)≤6*37:=Nat.mul_le_mul (by omega) (by omega)
  have hz3:t.states.length*(t.states.length*s.states.length+1)+1≤10000:=by omega
  have hnn:(t.states.length:Int)*(t.states.length:Int)≤6*6:=Int.mul_le_mul (by omega) (by omega) (by omega) (by omega)
  have hn0:0≤(t.states.length:Int)*(t.states.length:Int):=Int.mul_nonneg (by omega) (by omega)
  have hnm:(t.states.length:Int)*(t.states.length:Int)*(s.states.length:Int)≤36*6:=Int.mul_le_mul (by omega) (by omega) (by omega) (by omega)
  have hm0:0≤(t.states.length:Int)*(t.states.length:Int)*(s.states.length:Int):=Int.mul_nonneg hn0 (by omega)
  refine sk (th (sq (rg (lPA rfl rfl T.agg25 rfl (lPA rfl rfl T.agg25 rfl (cal0 (φs:= [agg [sl 1 strE t.actions,sl 2 stateE t.states],agg [sl 1 strE s.actions,sl 2 stateE s.states]]) (φ:=int (bothE t s)) ⟨rfl,rfl,trivial⟩ (divs.both_ok t s) T.ent11 (ag (nl (th (sq (rg (al (key:=6) T.z25 (ex_cons (ex_cons (ex_nil))) fun b6=>(nl (th (sq (sq (rg (mv (bi rfl rfl b_eql (nl (th ?_)))))))))))))))))))))
  refine jn (κ:=SSpec) (fun p=> [(2,ptr 2 b2 0),(3,ptr 3 b3 0),(4,bl false),(5,int (bothE t s)),(6,ptr 6 b6 0)]) (fun p=> [(2,cell b2 [sl 1 strE t.actions,sl 2 stateE t.states]),(3,cell b3 [sl 1 strE s.actions,sl 2 stateE s.states]),(6,cell b6 [sl 1 strE p.actions,sl 2 stateE p.states])]) (fun p=>(bothE t s=0→RefO t s p)∧(bothE t s≠0→p=⟨[],[]⟩)) ?_ ?_
  ·
   refine cd rfl (fun hc1=> ?_) (fun hc1=> ?_)
   ·skip
    have hb0:fineE t s=0:=by have h:=of_decide_eq_true hc1;exact h
    obtain⟨htv,hsv,hts⟩:=Go.Proofs.YtcjemmihcplgdaaGreat.fine_ok hb0
    have ht:=okSpec_of htv
    have hs:=okSpec_of hsv
    refine rg (lPA rfl rfl T.agg25 rfl (lPA rfl rfl T.agg25 rfl (cl (divo.RefOther_ok t s (by assumption) (by assumption) (by assumption) (by assumption)) T.ent28 trivial fun N38 i38=>(sPA (cs':= [sl 1 strE i38.1.actions,sl 2 stateE i38.1.states]) rfl rfl rfl T.agg25 rfl rfl (nl ?_)))))
    have hN0:(bothE t s=0→RefO t s i38.1)∧(bothE t s≠0→i38.1=⟨[],[]⟩):=by
     exact⟨fun _=>i38.2,fun h=>absurd hb0 h⟩
    exact jx i38.1 hN0 ⟨id,id,id,id,id,trivial⟩ ⟨⟨rfl,id⟩,⟨rfl,id⟩,⟨rfl,id⟩,trivial⟩
   ·skip
    have hb0:bothE t s≠0:=of_decide_eq_false hc1
    refine kncC 6 0 (sl 1 strE []) rfl rfl slnil (kncC 6 1 (sl 2 stateE []) rfl rfl slnil (sk ?_))
    have hN0:(bothE t s=0→RefO t s (⟨[],[]⟩:SSpec))∧(bothE t s≠0→(⟨[],[]⟩:SSpec)=⟨[],[]⟩):=by
     exact⟨fun h=>absurd h hb0,fun _=>rfl⟩
    exact jx (⟨[],[]⟩:SSpec) hN0 ⟨id,id,id,id,id,trivial⟩ ⟨⟨rfl,id⟩,⟨rfl,id⟩,⟨rfl,id⟩,trivial⟩
  ·intro D hG
   have hJ1:(bothE t s=0→RefO t s D)∧(bothE t s≠0→D=⟨[],[]⟩):=hG
   have hokD:bothE t s=0→okSpec D:=fun h=>refo_ok (okSpec_of (Go.Proofs.YtcjemmihcplgdaaGreat.fine_ok h).1) (hJ1.1 h) hz3
   have htold:∀b:Bool,(500<t.states.length*t.states.length*s.states.length+t.states.length+1→b=true)→toldB (othS t s).1 (othS t s).2 (bothE t s) D b=true:=fun b hb=>by
    by_cases h:bothE t s=0
    ·rw[h];exact refo_told h (hJ1.1 h) hz3 b hb
    ·exact oth_no h b
   have h6:((t.states.length*t.states.length*s.states.length+t.states.length+1:Nat):Int)=(t.states.length:Int)*(t.states.length:Int)*(s.states.length:Int)+(t.states.length:Int)+1:=by simp
   have hbig:500<t.states.length*t.states.length*s.states.length+t.states.length+1→decide ((500:Int)<(t.states.length:Int)*(t.states.length:Int)*(s.states.length:Int)+(t.states.length:Int)+1)=true:=fun h=>decide_eq_true (by omega)
   skip
   show At _ _ _ [(2,ptr 2 b2 0),(3,ptr 3 b3 0),(4,bl false),(5,int (bothE t s)),(6,ptr 6 b6 0)] [(2,cell b2 [sl 1 strE t.actions,sl 2 stateE t.states]),(3,cell b3 [sl 1 strE s.actions,sl 2 stateE s.states]),(6,cell b6 [sl 1 strE D.actions,sl 2 stateE D.states])]
   refine th (sq (rg (fP rfl T.fld25_1 (lP rfl rfl rfl T.one23 (fc (slenI 40 rfl) fun hm40=>(lnF rfl T.sl23 (ag (nl (th (sq ?_))))))))))
   refine drH (nh:=11) [0,1,0,7,15,31,63,63,0,383,1023] [(none,[2]),(none,[]),(none,[3]),(none,[]),(none,[]),(none,[]),(none,[]),(none,[]),(some 8,[]),(some 8,[8]),(none,[])] T.mixed (by kernel_rfl) (by kernel_rfl) ?_
   refine stv (d:=43) (fun β0=>agg [sl 1 strE t.actions,sl 2 stateE t.states]) [2] rfl (fun β β' hb=>rfl) (fun β0 _ _ _ _ gq gh kq=>lPA (gq.1.trans rfl) (gh.1.trans rfl) T.agg25 rfl kq) ?_
   refine stv (d:=44) (fun β0=>agg [sl 1 strE t.actions,sl 2 stateE t.states]) [] rfl (fun β β' hb=>rfl) (fun β0 _ _ _ _ gq gh kq=>calW (φs:= [agg [sl 1 strE t.actions,sl 2 stateE t.states]]) (φ:=agg [sl 1 strE t.actions,sl 2 stateE t.states]) ⟨(gq.1.trans rfl),trivial⟩ (ref03.Copy_ok t (by omega)) T.ent15 (fun N hN=>fun h=>agg_le (cs:= [fre N (sl 1 strE t.actions),fre N (sl 2 stateE t.states)]) (ds:= [sl 1 strE t.actions,sl 2 stateE t.states]) ⟨fun h=>nw_le h,fun h=>nw_le h,trivial⟩ h) kq) ?_
   refine stv (d:=45) (fun β0=>agg [sl 1 strE s.actions,sl 2 stateE s.states]) [3] rfl (fun β β' hb=>rfl) (fun β0 _ _ _ _ gq gh kq=>lPA (gq.1.trans rfl) (gh.1.trans rfl) T.agg25 rfl kq) ?_
   refine stv (d:=46) (fun β0=>agg [sl 1 strE s.actions,sl 2 stateE s.states]) [] rfl (fun β β' hb=>rfl) (fun β0 _ _ _ _ gq gh kq=>calW (φs:= [agg [sl 1 strE s.actions,sl 2 stateE s.states]]) (φ:=agg [sl 1 strE s.actions,sl 2 stateE s.states]) ⟨(gq.1.trans rfl),trivial⟩ (ref03.Copy_ok s (by omega)) T.ent15 (fun N hN=>fun h=>agg_le (cs:= [fre N (sl 1 strE s.actions),fre N (sl 2 stateE s.states)]) (ds:= [sl 1 strE s.actions,sl 2 stateE s.states]) ⟨fun h=>nw_le h,fun h=>nw_le h,trivial⟩ h) kq) ?_
   refine stv (d:=47) (fun β0=>tup [agg [sl 1 strE (((othS t s).1).actions),sl 2 stateE (((othS t s).1).states)],int ((othS t s).2)]) [] rfl (fun β β' hb=>rfl) (fun β0 _ _ _ _ gq gh kq=>cal0 (φs:= [agg [sl 1 strE t.actions,sl 2 stateE t.states],agg [sl 1 strE s.actions,sl 2 stateE s.states]]) (φ:=tup [agg [sl 1 strE (((othS t s).1).actions),sl 2 stateE (((othS t s).1).states)],int ((othS t s).2)]) ⟨(gq.1.trans rfl),(gq.2.1.trans rfl),trivial⟩ (divo.Other_ok t s (by assumption) (by assumption)) T.ent29 kq) ?_
   refine stv (d:=42) (fun β0=>tup [agg [sl 1 strE (((othS t s).1).actions),sl 2 stateE (((othS t s).1).states)],int ((othS t s).2)]) [] rfl (fun β β' hb=>rfl) (fun β0 _ _ _ _ gq gh kq=>mv' (gq.1.trans rfl) kq) ?_
   refine stv (d:=48) (fun β0=>agg [sl 1 strE (((othS t s).1).actions),sl 2 stateE (((othS t s).1).states)]) [] rfl (fun β β' hb=>rfl) (fun β0 _ _ _ _ gq gh kq=>xt (gq.1.trans rfl) rfl kq) ?_
   refine stv (d:=49) (fun β0=>int ((othS t s).2)) [] rfl (fun β β' hb=>rfl) (fun β0 _ _ _ _ gq gh kq=>xt (gq.1.trans rfl) rfl kq) ?_
   refine sta 8 T.z25 (ex_cons (ex_cons (ex_nil))) ?_
   refine stw 8 (fun β0=>cell (gbk (β0 8)) [sl 1 strE (((othS t s).1).actions),sl 2 stateE (((othS t s).1).states)]) [8] rfl (fun β β' hb=>by first|rw[hb 8 rfl]|(dsimp only;rw[hb 8 rfl])) (fun β0 _ _ _ _ gq gh kq=>sPA (cs':= [sl 1 strE (((othS t s).1).actions),sl 2 stateE (((othS t s).1).states)]) (gq.1.trans rfl) (gh.1.trans rfl) (gq.2.1.trans rfl) T.agg25 rfl rfl kq) ?_
   refine stv (d:=9) (fun β0=>int ((othS t s).2)) [] rfl (fun β β' hb=>rfl) (fun β0 _ _ _ _ gq gh kq=>ag' (gq.1.trans rfl) kq) ?_
   refine pnH fun β0=>(nl (th (sq (rg (lPA rfl rfl T.agg25 rfl (mv (mv (lPA rfl rfl T.agg25 rfl (mv (mv (bi rfl rfl (b_mul (by unfold I64;omega)) (fP rfl T.fld25_1 (lP rfl rfl rfl T.one23 (lnF rfl T.sl23 (bi rfl rfl (b_mul (by unfold I64;omega)) (mv (bi rfl rfl (b_add (by unfold I64;omega)) (bi rfl rfl (b_add (by unfold I64;omega)) (bi rfl rfl b_gtr (cal0 (φs:= [agg [sl 1 strE (((othS t s).1).actions),sl 2 stateE (((othS t s).1).states)],int ((othS t s).2),int (bothE t s),agg [sl 1 strE D.actions,sl 2 stateE D.states],bl (decide (500<(((((t.states.length:Int)*(t.states.length:Int))*(s.states.length:Int))+(t.states.length:Int))+1)))]) (φ:=bl (toldB ((othS t s).1) ((othS t s).2) (bothE t s) D (decide (500<(((((t.states.length:Int)*(t.states.length:Int))*(s.states.length:Int))+(t.states.length:Int))+1))))) ⟨rfl,rfl,rfl,rfl,rfl,trivial⟩ (dive.Told_ok ((othS t s).1) ((othS t s).2) (bothE t s) D (decide (500<(((((t.states.length:Int)*(t.states.length:Int))*(s.states.length:Int))+(t.states.length:Int))+1))) (by assumption)) T.ent17 (mv ?_)))))))))))))))))))))
   apply gAnd (t:=66) (pd:=68) rfl
   rotate_left
   ·intro hg3 fin
    have hg3':=hg3
    try simp at hg3'
    exact gy rfl rfl rfl hg3 (cal0 (φs:= []) (φ:=bl true) trivial (diva.awake_ok) T.ent10 (pkT rfl hg3 rfl (drp (X:= [(67,_)]) ⟨rfl,trivial⟩ (fin))))
   ·intro hg3 fin
    exact gn rfl rfl rfl hg3 rfl rfl (pkF rfl hg3 rfl (drp (X:= [(67,_)]) ⟨rfl,trivial⟩ (fin)))
   refine ag (nl (th (rt ?_)))
   have hr0:((toldB ((othS t s).1) ((othS t s).2) (bothE t s) D (decide (500<(((((t.states.length:Int)*(t.states.length:Int))*(s.states.length:Int))+(t.states.length:Int))+1))))&&true)=true:=by
    rw[htold _ hbig];rfl
   have hall:∀x0,((toldB ((othS t s).1) ((othS t s).2) (bothE t s) D (decide (500<(((((t.states.length:Int)*(t.states.length:Int))*(s.states.length:Int))+(t.states.length:Int))+1))))&&true)=x0→resAV [bl ((toldB ((othS t s).1) ((othS t s).2) (bothE t s) D (decide (500<(((((t.states.length:Int)*(t.states.length:Int))*(s.states.length:Int))+(t.states.length:Int))+1))))&&true)]=resAV [bl x0]:=by rintro _ rfl;rfl
   exact rE () [.tmp 4] rfl [bl ((toldB ((othS t s).1) ((othS t s).2) (bothE t s) D (decide (500<(((((t.states.length:Int)*(t.states.length:Int))*(s.states.length:Int))+(t.states.length:Int))+1))))&&true)] ⟨.tmp rfl,trivial⟩ (hall _ hr0) trivial (by first|exact .inr rfl|exact .inl rfl)
end divo
end Go.Proofs.YtcjemmihcplgdaaGreat
