/- The walks of the functions and the plain laws. Own texts of this claim, packed: Zddivp, Zdprodm, ZdFitM, ZdPartM, ZdCompP, ZdEncM, Zdprodp, ZdForkM, Zdprodk, ZdSevM, Zdprods, ZdEncR, Zdprodo, Zdsatj, ZdBesM, ZdTogM, ZdBrkM, ZdProdM, ZdSatC, ZdOrdM, ZdOtherM, ZdAdjM, Zddivc, Zddivj. -/
import Derived.Test.YtcjemmihcplgdaaGreatDoorX15
import Derived.Test.YtcjemmihcplgdaaGreatDoorX16
import Derived.Test.YtcjemmihcplgdaaGreatDoorX23
import Derived.Test.YtcjemmihcplgdaaGreatDoorX22
import Derived.Test.YtcjemmihcplgdaaGreatDoorX18
import Derived.Test.YtcjemmihcplgdaaGreatDoorX21
import Derived.Test.YtcjemmihcplgdaaGreatDoorX19
import Derived.Test.YtcjemmihcplgdaaGreatDoorX11
import Derived.Test.YtcjemmihcplgdaaGreatDoorX07
import Derived.Test.YtcjemmihcplgdaaGreatDoorX08
import Derived.Test.YtcjemmihcplgdaaGreatDoorX13
import Derived.Test.YtcjemmihcplgdaaGreatDoorX17
set_option linter.all false
namespace Go.Proofs.YtcjemmihcplgdaaGreatDoor
open AL Go
set_option maxRecDepth 100000
section
open ref01 ref03 ref04 ref06 prog prog2 prog3 prog6 Part Rungs LeftM QuoM
namespace divp
end divp
end
section
open ref01 ref03 ref04 ref06 prog prog2 prog3 prog4 prog5 prog6 prog7 prog8 prog9 prog13 starts Part Rungs LeftM TrimM Itoa Keys RoundM MergeM BisM BisM4 BisM5 WalkM StepM WitM JudgM JudgM2 refw judg wit refj sysw divr divs divd dive divg divw divv LevM LevM2 ChsM TrimI QuoM FailM DivM RefM GenW CompM CrossM prodc divp
namespace prodm
end prodm
end
section
namespace FitM
open ref01 ref03 ref04 ref06 prog15 starts Part Rungs LeftM TrimM RoundM MergeM BisM BisM4 BisM5 BisM6 WalkM StepM WitM JudgM LevM LevM2 divr divs divd dive divg divw divv refj sysw ChsM BisS TrimI ValidM WitSat WitVal QuoM FailM DivM
structure JdgOK (x:SSys) (t s:SS) (v:Bool × SSys):Prop where
 yes:v.1=true→v.2=⟨[],[]⟩∧(ix (hOl s) 0=true∨Well3 x t (tR s).1)
 no:v.1=false→ix (hOl s) 0=false∧∃q i u,QF x t (tS s) q∧i<q.length∧u∈acc (tS s) (ix q i).s.toNat∧andI (offM x (ix q i).x.toNat) u∉acc t (ix q i).t.toNat∧WitOK (tS s) (pathL (tS s) (wordF q i) u) v.2
def BadT (m n:SSys) (t:SS) (p:T3):Prop:=andI (offM m p.1.toNat) (offM n p.2.1.toNat)∉acc t p.2.2.toNat
inductive RchT (m n:SSys) (t:SS):T3→Prop
 |zero:RchT m n t (0,0,0)
 |step {p:T3} {d e:PP}:RchT m n t p→¬BadT m n t p→d∈edg m p.1.toNat→e∈edg n p.2.1.toNat→d.1=e.1→RchT m n t (d.2,e.2,ix (nxt t p.2.2.toNat) d.1.toNat)
def WellT (m n:SSys) (t:SS):Prop:=∀p,RchT m n t p→¬BadT m n t p
theorem andI_comm (u o:Int):andI u o=andI o u:=by unfold andI;rw[Nat.and_comm]
section
variable {x:SSys} {t T:SS} {q:List M5} {i:Nat} {u:Int} {m:SSys}
theorem want_zero (T:SS) (w:List Int) (u:Int):(firstW T (pathL T w u)).1=0:=by
 unfold firstW
 rw[if_pos (by rw[pathL_len];omega)]
 rcases Nat.eq_zero_or_pos w.length with e|e
 ·have h:=pathL_end (T:=T) (w:=w) (u:=u)
  rw[e] at h
  rw[h];exact xAt_zero T w
 ·rw[pathL_at e]
  show xAt T w 0=0
  exact xAt_zero T w
theorem part_bad (hx:okSys x) (ht:oK t) (hT:oK T) (hU:Used T) (ha:x.aC.length=T.aC.length) (hne:∀y,y<T.sT.length→0<(acc T y).length) (hq:QF x t T q) (hql:q.length≤2000000000) (hi:i<q.length) (hu:u∈acc T (ix q i).s.toNat) (hn:andI (offM x (ix q i).x.toNat) u∉acc t (ix q i).t.toNat)
 (hm:WitOK T (pathL T (wordF q i) u) m):¬WellT m x t:=by
 intro hw
 obtain⟨ss,qq,mm,hs,hW,_⟩:=hm
 have hruns:=qf_runs hx ht hT hU ha hq
 obtain⟨hr,_⟩:=hruns i hi
 have hal:=hr.alive hT
 have hgo:=hr.go hT
 have hwl:=wordTo_len (qf_back hq) i (by simpa using hi)
 have hmem:∀p∈pathL T (wordF q i) u,0≤p.1∧p.1<(T.sT.length:Int)∧p.2∈acc T p.1.toNat:=pathL_mem hT hal (by rw[hgo,Int.toNat_natCast];exact hu)
 have hwants:Wants T (pathL T (wordF q i) u):=⟨hmem,hne,by rw[pathL_len];show(wordTo (q.map toMt) i).length+1≤_;omega⟩
 generalize hwd:wordF q i=W at*
 have hwant:∀j,j≤W.length→ix (pathL T W u) j∈pathL T W u∧(ix (pathL T W u) j).1=xAt T W j:=fun j hj=>by
  refine⟨ix_memS (by rw[pathL_len];omega),?_⟩
  by_cases e:j<W.length
  ·rw[pathL_at e];rfl
  ·have:j=W.length:=by omega
   subst this
   rw[pathL_end]
 have hinS:∀j,j≤W.length→(ix (pathL T W u) j).2∈ix ss (ix (pathL T W u) j).1.toNat:=fun j hj=>by
  obtain⟨h1,_⟩:=hwant j hj
  have hb:=hmem _ h1
  refine(hs.mem _ O _).2 (.inr ?_)
  have e:(((ix (pathL T W u) j).1.toNat:Nat):Int)=(ix (pathL T W u) j).1:=by omega
  rw[e];exact h1
 have key:∀k,k<q.length→wordF q k<+:W→ix (pathL T W u) (wordF q k).length∈qq∧RchT m x t (((qq.idxOf (ix (pathL T W u) (wordF q k).length):Nat):Int),(ix q k).x,(ix q k).t):=by
  intro k
  induction k using Nat.strongRecOn with
  |_ k ih=>
   intro hk hp
   rcases Nat.eq_zero_or_pos k with e|e
   ·subst e
    have e1:wordF q 0= []:=wordTo_nil (by rw[ix_toMt hk,hq.hd];show(-1:Int)<0;omega)
    rw[e1]
    have e2:ix qq 0=ix (pathL T W u) 0:=by
     rw[hW.wq.hd]
     unfold firstW
     rw[if_pos (by rw[pathL_len];omega)]
    have e3:ix (pathL T W u) ([]:List Int).length=ix qq 0:=e2.symm
    rw[e3]
    have hin:ix qq 0∈qq:=ix_memS hW.wq.ne
    refine⟨hin,?_⟩
    have h1:=List.idxOf_lt_length_of_mem hin
    have h2:qq.idxOf (ix qq 0)=0:=by
     have h3:qq[qq.idxOf (ix qq 0)]=qq[0]'hW.wq.ne:=by rw[List.getElem_idxOf,ix_get hW.wq.ne]
     exact(List.getElem_inj hW.wq.nd).1 h3
    rw[h2,hq.hd]
    exact .zero
   ·obtain⟨b,ed,e1,e2,e3,e4,e5,e6,e7⟩:=hq.back k e hk
    have g0:ix (q.map toMt) k=toMt (ix q k):=ix_toMt hk
    have hwk:=wordTo_snoc (qf_back hq) (k:=k) (by simpa using hk) (by rw[g0];show 0≤(ix q k).before;rw[e1];omega)
    rw[g0] at hwk
    have hwk:wordF q k=wordTo (q.map toMt) (ix q k).before.toNat++ [(ix q k).action]:=hwk
    rw[e1,Int.toNat_natCast,e2] at hwk
    have hwk:wordF q k=wordF q b++ [ed.1]:=hwk
    have hpb:wordF q b<+:W:=(List.prefix_append _ _).trans (hwk▸hp)
    obtain⟨hin,hrc⟩:=ih b e3 O hpb
    have hlk:(wordF q k).length=(wordF q b).length+1:=by rw[hwk];simp
    have hlW:=hp.length_le
    have hjl:(wordF q b).length<W.length:=by omega
    have hbox:=rch3_box hx ht hT hU ha (hq.rch _ (ix_memS (l:=q) (i:=b) O))
    have hedx:=hx.ed (ix q b).x.toNat (by have:=hbox.1;have:=hbox.2.1;show(tri (ix q b)).1.toNat<_;omega) ed e5
    have hlet:ix W (wordF q b).length=ed.1:=by
     obtain⟨r,hr2⟩:=hp
     rw[←hr2,hwk,List.append_assoc,ix_get (by simp),List.getElem_append_right O]
     simp
    have hi0:=List.idxOf_lt_length_of_mem hin
    have hat:ix qq (qq.idxOf (ix (pathL T W u) (wordF q b).length))=ix (pathL T W u) (wordF q b).length:=by rw[ix_get hi0];exact List.getElem_idxOf hi0
    have hst:=pathL_at (T:=T) (u:=u) hjl
    obtain⟨a1,a2,na,a3,a4⟩:=hal _ hjl
    have hnat:(na:Int)=ed.1:=by rw[←a3,hlet]
    have hlead:has (ix (pathL T W u) (wordF q b).length).2 (na:Int)=true:=by
     rw[hst]
     show has (leadI _ (ix W _)) (na:Int)=true
     rw[a3]
     exact(lead_ix (leadB_of a4)).2.2
    have h63:na<63:=by
     have:=hx.n8
     omega
    obtain⟨n1,n2⟩:=hwant ((wordF q b).length+1) O
    have htgt:tgt T (ix (pathL T W u) (wordF q b).length) (na:Int)=(ix (pathL T W u) ((wordF q b).length+1)).1:=by
     rw[n2,xAt_succ hjl,a3,stepS_nat a1]
     unfold tgt
     rw[Int.toNat_natCast,hst];rfl
    have hnew:=hinS ((wordF q b).length+1) O
    have hdn:=hW.dn _ hi0 (na:Int) (by rw[hat];exact listOf_mem.2 ⟨na,rfl,h63,hlead⟩) (ix (pathL T W u) ((wordF q b).length+1)).2 (by rw[hat,htgt];exact hnew)
    rw[hat,htgt] at hdn
    have hpe:((ix (pathL T W u) ((wordF q b).length+1)).1,(ix (pathL T W u) ((wordF q b).length+1)).2)=ix (pathL T W u) ((wordF q b).length+1):=rfl
    rw[hpe] at hdn
    rw[hlk]
    refine⟨hdn,?_⟩
    have hd:((na:Int),((qq.idxOf (ix (pathL T W u) ((wordF q b).length+1)):Nat):Int))∈edg m (qq.idxOf (ix (pathL T W u) (wordF q b).length)):=by
     refine(edge_mem hW hi0).2 ⟨na,rfl,h63,by rw[hat];exact hlead,(ix (pathL T W u) ((wordF q b).length+1)).2,by rw[hat,htgt];exact hnew,?_⟩
     rw[hat,htgt]
    have hs2:=RchT.step hrc (hw _ hrc) (d:=((na:Int),((qq.idxOf (ix (pathL T W u) ((wordF q b).length+1)):Nat):Int))) (e:=ed) (by show _∈edg m ((qq.idxOf (ix (pathL T W u) (wordF q b).length):Nat):Int).toNat;rw[Int.toNat_natCast];exact hd) e5 hnat
    have e8:(ix q k).x=ed.2:=congrArg (fun p:T3=>p.1) e7
    have e9:(ix q k).t=ix (nxt t (ix q b).t.toNat) ed.1.toNat:=congrArg (fun p:T3=>p.2.1) e7
    rw[e8,e9,←hnat]
    exact hs2
 obtain⟨hin,hrc⟩:=key i hi (by rw[hwd];exact List.prefix_rfl)
 rw[hwd] at hin hrc
 have hi0:=List.idxOf_lt_length_of_mem hin
 have hat:ix qq (qq.idxOf (ix (pathL T W u) W.length))=ix (pathL T W u) W.length:=by rw[ix_get hi0];exact List.getElem_idxOf hi0
 have hoff:=off_eq hT hwants hs hW hi0
 have e:(ix (pathL T W u) W.length).2=u:=by rw[pathL_end]
 rw[hat,e] at hoff
 refine hw _ hrc ?_
 show andI (offM m ((qq.idxOf (ix (pathL T W u) W.length):Nat):Int).toNat) (offM x (ix q i).x.toNat)∉acc t (ix q i).t.toNat
 rw[Int.toNat_natCast,hoff,andI_comm]
 exact hn
end
end FitM
end
section
namespace PartM
open ref01 ref03 ref04 ref06 prog15 starts Part Rungs LeftM TrimM RoundM MergeM BisM BisM4 BisM5 BisM6 WalkM StepM WitM JudgM JudgM2 divr divs divd dive divg divw divv refj sysw ChsM BisS TrimI ValidM WitSat WitVal FailM FitM
open QuoM (subs qA qN bes)
theorem path_in {T:SS} {w:List Int} {u:Int} {p:PP} (h:p∈pathL T w u):(p.2=u)∨∃j,j<w.length∧p.2=leadI (ix T.sT p.1.toNat) (ix w j):=by
 unfold pathL at h
 rcases List.mem_append.1 h with g|g
 ·obtain⟨j,hj,rfl⟩:=List.mem_map.1 g
  exact .inr ⟨j,List.mem_range.1 hj,rfl⟩
 ·rw[List.mem_singleton.1 g];exact .inl rfl
theorem sat_trim {m:SSys} {s:SS} (hs:oK s) (h:SatM m (tR s).1):SatM m s:=by
 unfold SatM at h ⊢
 rw[sat_solid (trim_ok hs) (off_ok m)] at h
 rw[sat_solid hs (off_ok m)]
 exact sat_sim h (sim_trim hs)
theorem part_ok {x:SSys} {t s:SS} (hx:okSys x) (ht:oK t) (hs:oK s) (hts:t.aC=s.aC) (hxt:x.aC=t.aC) (hb:x.sT.length*(t.sT.length*s.sT.length)+s.sT.length+1≤5000) {v:Bool × SSys} (hv:JdgOK x t s v) (e:v.1=false):
 sysOK v.2=true∧v.2.aC=s.aC∧SatM v.2 s∧¬WellT v.2 x t:=by
 obtain⟨h0,q,i,u,hq,hi,hu,hn,hm⟩:=hv.no e
 have ets:(tR s).1=tS s:=by rw[trimmed_not h0]
 have hT:oK (tS s):=tS_ok hs
 have hU:LevM.Used (tS s):=by rw[←ets];exact trim_used hs
 have hxa:x.aC.length=(tS s).aC.length:=by show x.aC.length=s.aC.length;rw[hxt,hts]
 have hne:∀y,y<(tS s).sT.length→0<(acc (tS s) y).length:=fun y hy=>tS_ne hs h0 hy
 have htl:(tS s).sT.length≤s.sT.length:=by have:=trim_len hs;rwa [ets] at this
 have hql:q.length≤x.sT.length*(t.sT.length*s.sT.length):=by
  have h1:=qf_len hx ht hT hU hxa hq
  exact Nat.le_trans h1 (Nat.mul_le_mul_left _ (Nat.mul_le_mul_left _ htl))
 have hruns:=(qf_runs hx ht hT hU hxa hq i hi).1
 have hal:=hruns.alive hT
 have hgo:=hruns.go hT
 have hwl:=wordTo_len (qf_back hq) i (by simpa using hi)
 have hwl:(wordF q i).length≤i:=hwl
 have hw:Wants (tS s) (pathL (tS s) (wordF q i) u):=⟨pathL_mem hT hal (by rw[hgo,Int.toNat_natCast];exact hu),hne,by rw[pathL_len];omega⟩
 have hsat:=wit_sat hT hw (want_zero _ _ _) hm
 refine⟨?_,?_,sat_trim hs (by rw[ets];exact hsat),part_bad hx ht hT hU hxa hne hq O hi hu hn hm⟩
 ·obtain⟨ss,qq,mm,hss,hW,ha⟩:=hm
  have hqq:qq.length≤(tS s).sT.length+(pathL (tS s) (wordF q i) u).length:=wq_len hW.wq hss
  rw[pathL_len] at hqq
  refine wit_valid (K:=10) hT hw hss hW ha (fun y hy=> ?_) O O
  have hin:∀z∈ix ss y,z∈ix (acc (tS s) y) 0::u::(List.range 8).map fun(a:Nat)=>leadI (ix (tS s).sT y) (a:Int):=fun z hz=>by
   rcases(hss.mem y hy z).1 hz with g|g
   ·rw[g];exact List.mem_cons_self
   ·refine List.mem_cons_of_mem _ ?_
    rcases path_in g with g2|⟨j,hj,g2⟩
    ·have g2:z=u:=g2
     rw[g2];exact List.mem_cons_self
    ·refine List.mem_cons_of_mem _ ?_
     have g2:z=leadI (ix (tS s).sT (y:Int).toNat) (ix (wordF q i) j):=g2
     rw[Int.toNat_natCast] at g2
     have hact:=alive_act hT hal hj
     have h8:=hT.n8
     refine List.mem_map.2 ⟨(ix (wordF q i) j).toNat,List.mem_range.2 O,?_⟩
     rw[g2,Int.toNat_of_nonneg hact.1]
  have:=List.Nodup.length_le_of_subset (hss.nd y hy) hin
  simpa using this
 ·obtain⟨_,_,_,_,_,ha⟩:=hm
  exact ha
def x0S:SSys:=⟨[⟨#[97]⟩,⟨#[98]⟩],[[]]⟩
theorem goal_valid:specOK goalS=true:=by decide+kernel
theorem part_valid:specOK partS=true:=by decide+kernel
theorem x0_valid:sysOK x0S=true:=by decide+kernel
theorem goal_ok:oK goalS:=okSpec_of goal_valid
theorem part_okS:oK partS:=okSpec_of part_valid
theorem gp_fine:fineE goalS partS=0:=by
 unfold fineE
 rw[if_pos ⟨goal_valid,part_valid⟩,if_pos (show goalS.aC=partS.aC from rfl)]
theorem xgp_fine:fineX x0S goalS partS=0:=by
 unfold fineX
 rw[if_pos x0_valid,if_pos gp_fine,if_pos (show x0S.aC=goalS.aC from rfl)]
theorem not_hol {s:SS} (hl:0<s.sT.length) (ha:0<(ix s.sT 0).aP.length) (hn:∀a,a<(ix s.sT 0).next.length→ix (ix s.sT 0).next a≤0) (h0:∃u∈(ix s.sT 0).aP,True):ix (hOl s) 0=false:=by
 cases e:ix (hOl s) 0 with
 |false=>rfl
 |true=>
  exfalso
  refine(hollow_ix hl).1 e (fun y=>y≠0) (fun y hy hc=> ?_) rfl
  intro ey
  subst ey
  obtain⟨a,h1,h2,_,h4⟩:=hc 0 ha
  have:=hn a h1
  exact h4 O
theorem part_not:ix (hOl partS) 0=false:=not_hol (by decide) (by decide) (by decide) ⟨1,by decide,tV⟩
theorem goal_not:ix (hOl goalS) 0=false:=not_hol (by decide) (by decide) (by decide) ⟨1,by decide,tV⟩
theorem part_trim:(tR partS).1=partS:=by
 have hs:=part_okS
 have hn:=part_not
 have ho:ordS partS= [0]:=by
  have h1:(ordS partS).length≤1:=ord_le hs
  have h2:=ordS_pos partS
  have h3:=BisM2.ord_zero partS
  match hq:ordS partS,h1,h2,h3 with
  | [y],_,_,h3=>rw[show y=0 from h3]
 have hk:keep partS 0= [1,3]:=by
  rw[keep_filter hn]
  refine List.filter_eq_self.2 fun u hu=> ?_
  rw[Bool.not_eq_true']
  cases hf:falls (ix partS.sT 0) u (hOl partS) with
  |false=>rfl
  |true=>
   obtain⟨a,ha,_,_,hv⟩:=falls_iff.1 hf
   have h0:∀a,a<(ix partS.sT 0).next.length→ix (ix partS.sT 0).next a=0:=by decide
   rw[h0 a ha] at hv
   rw[show(0:Int).toNat=0 from rfl,hn] at hv;cases hv
 rw[trimmed_not hn]
 show(⟨partS.aC,(ordS partS).map (tstate partS)⟩:SS)=partS
 rw[ho]
 show(⟨partS.aC,[tstate partS 0]⟩:SS)=partS
 unfold tstate tnext
 rw[show(0:Int).toNat=0 from rfl,hk,ho]
 decide
theorem gp_A:qA goalS partS (0,0)= [1]:=by decide
theorem gp_ref:DivM.RefQ goalS partS goalS:=by
 refine⟨rfl,fun h=>(by rw[part_not] at h;cases h),fun _=>⟨[(0,0)],?_,by decide⟩⟩
 rw[part_trim]
 refine⟨rfl,by decide,by decide,rfl,fun i hi=> ?_,fun i hi=> ?_,fun i hi a ha=> ?_,fun i hi a ha hh=> ?_⟩
 ·obtain rfl:i=0:=by have hi:i<1:=hi;omega
  show _=qA goalS partS (0,0)
  rw[gp_A];rfl
 ·obtain rfl:i=0:=by have hi:i<1:=hi;omega
  rfl
 ·obtain rfl:i=0:=by have hi:i<1:=hi;omega
  have hA:qA goalS partS (ix [((0,0):PP)] 0)= [1]:=gp_A
  rw[hA]
  have ha:a<2:=ha
  match a,ha with
  |0,_=>decide
  |1,_=>decide
 ·obtain rfl:i=0:=by have hi:i<1:=hi;omega
  have hA:qA goalS partS (ix [((0,0):PP)] 0)= [1]:=gp_A
  rw[hA] at hh
  have ha:a<2:=ha
  match a,ha,hh with
  |0,_,_=>decide
  |1,_,hh=>exact absurd hh (by decide)
theorem gp_large:largeB goalS partS=false:=by decide
theorem gp_quo:(DivM.quoS goalS partS).2=true:=by
 cases e:(DivM.quoS goalS partS).2 with
 |true=>rfl
 |false=>
  have:=DivM.quo_large goal_ok part_okS rfl e
  rw[gp_large] at this;cases this
theorem gp_div:(DivM.divS goalS partS).2=0∧fineR (DivM.divS goalS partS).1 goalS=true:=by
 have hS:=DivM.quo_same goal_ok part_okS rfl gp_ref (by decide) gp_quo
 have e:DivM.divS goalS partS=((DivM.quoS goalS partS).1,0):=by unfold DivM.divS;rw[if_pos gp_fine,if_pos gp_quo]
 rw[e]
 exact⟨rfl,DivM.fine_same hS⟩
theorem gp_miss {z:SSys × Int} (h:DivM.MissOK goalS partS z):z.2=0∧madeB z.1 goalS=true:=by
 rcases DivM.miss_ok gp_fine gp_ref (by decide) h with⟨_,g,_⟩|⟨_,_,g⟩|⟨g1,_,g2⟩
 ·rw[gp_large] at g;cases g
 ·rw[goal_not] at g;cases g
 ·exact⟨g1,g2⟩
theorem gp_fits {v:Bool × SSys} (h:JdgOK x0S goalS partS v):v.1=false∧madeB v.2 partS=true:=by
 have h1:v.1=false:=by
  cases e:v.1 with
  |false=>rfl
  |true=>
   rcases(h.yes e).2 with g|g
   ·rw[part_not] at g;cases g
   ·rw[part_trim] at g
    exact absurd ⟨1,by decide,by decide⟩ (g (0,0,0) .zero)
 refine⟨h1,?_⟩
 obtain⟨g1,g2,g3,_⟩:=part_ok (sysOK_ok x0_valid) goal_ok part_okS rfl rfl (by decide) h h1
 unfold madeB
 rw[g1,decide_eq_true g2,satD_iff.2 g3];rfl
end PartM
end
section
namespace CompP
open ref01 ref03 ref04 ref06 prog15 starts Part Rungs LeftM TrimM RoundM MergeM BisM BisM4 BisM5 BisM6 WalkM StepM WitM JudgM JudgM2 divr divs divd dive divg divw divv refj sysw ChsM BisS TrimI ValidM WitSat WitVal FailM FitM PartM QuoM DivM RefM GenW CompM judg
open LevM (Used)
section
variable {S T:SS}
inductive RunsC (S T:SS):List Int→PP→Prop
 |nil:RunsC S T [] (0,0)
 |snoc {w:List Int} {p:PP} {a:Nat}:RunsC S T w p→has (orAll (cA S T p)) (a:Int)=true→RunsC S T (w++ [(a:Int)]) (cN S T p a)
end
def Both2 (s t:SS) (w:List Int) (u:Int):Prop:=¬hol2 s t∧0≤goS (tR s).1 w∧0≤goS (tR t).1 w∧∃x∈acc (tR s).1 (goS (tR s).1 w).toNat,∃y∈acc (tR t).1 (goS (tR t).1 w).toNat,andI x y=u
def nextM (m:SSys) (l:List Int) (a:Int):List Int:=((List.range m.sT.length).filter fun(x:Nat)=>l.any fun y=>(edg m y.toNat).any fun e=>decide (e.1=a)&&decide (e.2=(x:Int))).map fun(x:Nat)=>(x:Int)
end CompP
end
section
namespace EncM
def encZ (z:SSys × Int):Value:= .agg #[.agg (z.1.aC.map Value.string).toArray,.agg (z.1.sT.map fun l=>Value.agg (l.map fun e=>Value.agg #[.int .i64 e.1,.int .i64 e.2]).toArray).toArray,.int .i64 z.2]
theorem map_inj {α β:Type} {f:α→β} (hf:∀a b,f a=f b→a=b):∀{l m:List α},l.map f=m.map f→l=m
 | [],[],_=>rfl
 | [],b::m,h=>by simp at h
 |a::l,[],h=>by simp at h
 |a::l,b::m,h=>by
  rw[List.map_cons,List.map_cons] at h
  injection h with h1 h2
  rw[hf _ _ h1,map_inj hf h2]
theorem agg_inj {l m:List Value} (h:Value.agg l.toArray=Value.agg m.toArray):l=m:=by
 injection h with h
 exact congrArg Array.toList h
theorem encZ_inj {a b:SSys × Int} (h:encZ a=encZ b):a=b:=by
 obtain⟨⟨a1,a2⟩,a3⟩:=a
 obtain⟨⟨b1,b2⟩,b3⟩:=b
 have h:=agg_inj (l:= [_,_,_]) (m:= [_,_,_]) h
 simp only [List.cons.injEq,and_true] at h
 obtain⟨h1,h2,h3⟩:=h
 have e1:a1=b1:=map_inj (fun x y g=>by injection g) (agg_inj h1)
 have e2:a2=b2:=map_inj (fun x y g=>map_inj (fun p q g=>by
  have g:=agg_inj (l:= [_,_]) (m:= [_,_]) g
  simp only [List.cons.injEq,and_true,Value.int.injEq,true_and] at g
  exact Prod.ext g.1 g.2) (agg_inj g)) (agg_inj h2)
 have e3:a3=b3:=by injection h3
 rw[e1,e2,e3]
open Classical in
noncomputable def decZ (v:Value):SSys × Int:=if h:∃z,encZ z=v then Classical.choose h else default
theorem dec_enc (z:SSys × Int):decZ (encZ z)=z:=by
 have h:∃y,encZ y=encZ z:=⟨z,rfl⟩
 unfold decZ
 rw[dif_pos h]
 exact encZ_inj (Classical.choose_spec h)
end EncM
end
section
open ref01 ref03 ref04 ref06 prog prog2 prog3 prog4 prog5 prog6 prog7 prog8 prog9 prog13 prog15 starts Part Rungs LeftM TrimM Itoa Keys RoundM MergeM BisM BisM4 BisM5 WalkM StepM WitM JudgM JudgM2 refw judg wit refj sysw divr divs divd dive divg divw divv LevM LevM2 ChsM TrimI QuoM FailM DivM RefM GenW CompM CrossM CompP PartM EncM prodc divp prodm
noncomputable def partE (s t:SS) (w:List Int) (u:Int):Int:=if fineE s t=0 then(if wordOK (s.aC.length:Int) w=true∧isSet (s.aC.length:Int) u=true then 0 else 1) else fineE s t
abbrev noSys:SSys:=⟨[],[]⟩
structure PartsOK (s t:SS) (w:List Int) (u:Int) (z:(SSys × SSys) × Int):Prop where
 err:partE s t w u≠0→z=((noSys,noSys),partE s t w u)
 none:partE s t w u=0→¬Both2 s t w u→z=((noSys,noSys),3)
 some:partE s t w u=0→Both2 s t w u→z.2=0∧∃a b,a∈acc (tR s).1 (goS (tR s).1 w).toNat∧b∈acc (tR t).1 (goS (tR t).1 w).toNat∧andI a b=u∧WitOK (tR s).1 (pathL (tR s).1 w a) z.1.1∧WitOK (tR t).1 (pathL (tR t).1 w b) z.1.2
section
variable {s t:SS} {w:List Int} {u:Int}
end
def NyI (m:SSys) (l:List Int) (a:Int) (k j x:Nat):Prop:=(∃i,i<k∧∃e∈edg m (ix l i).toNat,e.1=a∧e.2=(x:Int))∨∃i,i<j∧(ix (edg m (ix l k).toNat) i).1=a∧(ix (edg m (ix l k).toNat) i).2=(x:Int)
structure NyS (m:SSys) (l:List Int) (a:Int) (k j:Nat) (b:List Bool):Prop where
 len:b.length=m.sT.length
 mem:∀x,x<m.sT.length→(ix b x=true↔NyI m l a k j x)
section
variable {m:SSys} {l:List Int} {a:Int} {k j:Nat} {b:List Bool}
end
namespace prodp
end prodp
end
section
namespace ForkM
open ref01 ref03 ref04 ref06 prog15 starts Part Rungs LeftM TrimM RoundM MergeM BisM BisM4 BisM5 BisM6 WalkM StepM WitM JudgM JudgM2 divr divs divd dive divg divw divv refj sysw judg ChsM BisS TrimI ValidM WitSat WitVal FailM FitM QuoM DivM RefM GenW CompM CompP EncM prodc prodm prodp
end ForkM
end
section
open ref01 ref03 ref04 ref06 prog prog2 prog3 prog4 prog5 prog6 prog7 prog8 prog9 prog13 prog15 starts Part Rungs LeftM TrimM Itoa Keys RoundM MergeM BisM BisM4 BisM5 WalkM StepM WitM JudgM JudgM2 refw judg wit refj sysw divr divs divd dive divg divw divv LevM LevM2 ChsM TrimI QuoM FailM DivM RefM GenW CompM CrossM CompP EncM prodc divp prodm prodp ForkM
namespace prodk
end prodk
end
section
namespace SevM
open ref01 ref03 ref04 ref06 Part Rungs LeftM TrimM RoundM MergeM BisM BisM2 BisM4 BisM5 Keys WalkM WitM JudgM LevM divr divs divd dive divf divv judg ChsM BisS TrimI QuoM FailM DivM RefM GenW CompM
def fullI (n:Nat):Int:=((2^n:Nat):Int)- 1
theorem full_nat (n:Nat):(fullI n).toNat=2^n- 1:=by
 unfold fullI
 have:1≤2^n:=Nat.one_le_two_pow
 omega
theorem com_acts {s t:SS} (hq:(comS s t).2=true):(comS s t).1.aC=s.aC:=by
 unfold comS at hq ⊢
 by_cases e:hol2 s t
 ·rw[if_pos e];rfl
 ·rw[if_neg e] at hq ⊢
  split at hq
  ·next g=>rw[if_pos g,trim_acts];show(tR s).1.aC=_;rw[trim_acts]
  ·cases hq
end SevM
end
section
open ref01 ref03 ref04 ref06 prog prog2 prog3 prog4 prog5 prog6 prog7 prog8 prog9 prog13 prog15 starts Part Rungs LeftM TrimM Itoa Keys RoundM MergeM BisM BisM4 BisM5 WalkM StepM WitM JudgM JudgM2 refw judg wit refj sysw divr divs divd dive divg divw divv LevM LevM2 ChsM TrimI QuoM FailM DivM RefM GenW CompM CrossM CompP EncM prodc divp prodm prodp ForkM prodk SevM
def specE (s:SS):List AV:= [strs s.aC,sl 2 sE s.sT]
instance (s:SS):OneAll (specE s):=inferInstanceAs (OneAll [strs s.aC,sl 2 sE s.sT])
instance (key:Nat) (A:Option Addr) (n c:Nat):AL.One (osl key (.slice A n c)):=⟨fun {w F u} h=>by
 rw[osl_is] at h
 exact AL.One.one h⟩
namespace prods
end prods
end
section
namespace EncR
open EncM JudgM JudgM2 ref01
def encR (v:VR):Value:=encZ (⟨v.wit.aC,v.pairs::(v.ladder.map fun a=>(a,0))::v.wit.sT⟩,if v.holds then 1 else 0)
noncomputable def decR (x:Value):VR:=let m:=(decZ x).1;⟨decide ((decZ x).2=1),(ix m.sT 1).map Prod.fst,ix m.sT 0,⟨m.aC,m.sT.tail.tail⟩⟩
theorem decR_enc (v:VR):decR (encR v)=v:=by
 obtain⟨b,l,ps,a,st⟩:=v
 unfold decR encR
 rw[dec_enc]
 show(⟨decide ((if b=true then(1:Int) else 0)=1),(l.map fun a=>(a,(0:Int))).map Prod.fst,ps,⟨a,st⟩⟩:VR)=_
 have e1:(l.map fun a=>(a,(0:Int))).map Prod.fst=l:=by
  rw[List.map_map]
  exact List.map_id' l
 rw[e1]
 cases b<;>rfl
end EncR
end
section
open ref01 ref03 ref04 ref06 prog prog2 prog3 prog4 prog5 prog6 prog7 prog8 prog9 prog13 prog15 starts Part Rungs LeftM TrimM Itoa Keys RoundM MergeM BisM BisM4 BisM5 WalkM StepM WitM JudgM JudgM2 refw judg wit refj EncM EncR
noncomputable def rfB (s t:SS):Bool:=decide (fineE s t=0)&&refB s t
theorem eqB_and (s t:SS):(decide (fineE s t=0)&&eqB s t)=eqB s t:=by
 unfold eqB
 cases decide (fineE s t=0)<;>rfl
abbrev RefV (s t:SS) (v:VR):Prop:=(fineE s t=0→RefOK s t v)∧(fineE s t≠0→v.holds=false)
theorem rfV_holds {s t:SS} {v:VR} (h:RefV s t v):v.holds=rfB s t:=by
 unfold rfB
 by_cases e:fineE s t=0
 ·rw[decide_eq_true e,Bool.true_and];exact holds_refB (h.1 e)
 ·rw[decide_eq_false e,Bool.false_and];exact h.2 e
theorem rfV_and {s t:SS} {v:VR} (h:RefV s t v):(decide (fineE s t=0)&&v.holds)=rfB s t:=by
 rw[rfV_holds h]
 unfold rfB
 cases decide (fineE s t=0)<;>rfl
namespace T
theorem ent16:Ent Tryz.prog 16:=ent_of kR
theorem ent105:Ent Tryz.prog 105:=ent_of kR
theorem ent104:Ent Tryz.prog 104:=ent_of kR
theorem fld138_0:FieldAt Tryz.prog 138 0 0:=fieldAt_of kR
end T
namespace prodo
theorem Refines_ok (s t:SS) (hs:smallSpec s) (ht:smallSpec t):
 AL.Fn Tryz.prog 104 [spec s,spec t] [] (ι:= { v:VR//RefV s t v }) (fun _ i=>tup [verR i.1,int (fineE s t)]) (fun _=> []):=by
 refine fnI Tryz.func104 rfl rfl (fun w0 F0=> ?_)
 refine fcC (inhS 0 J) (fun hS0=> ?_)
 obtain⟨hsa0,hss0,hse0⟩:=sLn hS0
 refine fcC (inhS 1 J) (fun hS1=> ?_)
 obtain⟨hsa1,hss1,hse1⟩:=sLn hS1
 refine sq (rg (bx (key:=2) (cs:= [sl 1 rE_ s.aC,sl 2 sE s.sT]) J fun b2=>(bx (key:=3) (cs:= [sl 1 rE_ t.aC,sl 2 sE t.sT]) J fun b3=>(al (key:=4) T.z138 (eC (eC (eC (eC (eC eZ))))) fun b4=>(ag (nl (th (sq (sq (rg (lPA J J T.agg25 J (lPA J J T.agg25 J (cal0 (φs:= [agg [sl 1 rE_ s.aC,sl 2 sE s.sT],agg [sl 1 rE_ t.aC,sl 2 sE t.sT]]) (φ:=int (fineE s t)) ⟨J,J,tV⟩ (judg.Fine_ok s t aS aS) T.ent61 (ag (nl (th (sq (rg (mv (bi J J b_neq (nl (th ?_))))))))))))))))))))))
 refine cd J (fun hc0=> ?_) (fun hc0=> ?_)
 ·try simp at hc0
  refine sq (rg (bd (css:= []) T.st138 (eC (eC (eC (eC (eC eZ))))) trivial (mv (sPA (cs':= [bl false,eqv (.slice none 0 0),eqv (.slice none 0 0),eqv (.slice none 0 0),eqv (.slice none 0 0)]) J J J T.agg138 J J (ag (nl (th (rt (rt_ ?_)))))))))
  refine kncA 4 1 (sl 1 nE []) rfl rfl slnil ?_
  refine kncA 4 2 (sl 2 pE []) rfl rfl slnil ?_
  refine kncA 4 3 (sl 1 rE_ []) rfl rfl slnil ?_
  refine kncA 4 4 (sl 1 gE []) rfl rfl slnil ?_
  exact rE ⟨⟨false,[],[],⟨[],[]⟩⟩,⟨fun h=>absurd h hc0,fun _=>J⟩⟩ [.cell 4 138,.tmp 5] J [agg [bl false,sl 1 nE [],sl 2 pE [],sl 1 rE_ [],sl 1 gE []],int (fineE s t)] ⟨.agg J J T.agg138 J J,.tmp J,tV⟩ J trivial eX
 ·try simp at hc0
  obtain⟨hsv,htv,hac⟩:=Go.Proofs.YtcjemmihcplgdaaGreatDoor.fine_ok hc0
  refine sk (th (sq (rg (lPA J J T.agg25 J (lPA J J T.agg25 J (cl (refj.Judge_ok s t aS aS) T.ent153 trivial fun N16 i16=>(sPA (cs':= [bl i16.1.holds,sl 1 nE i16.1.ladder,sl 2 pE i16.1.pairs,sl 1 rE_ i16.1.wit.aC,sl 1 gE i16.1.wit.sT]) J J J T.agg138 J J (ag (nl (th (rt ?_)))))))))))
  have hr0:(0:Int)=(fineE s t):=by
   exact hc0.symm
  exact rE ⟨i16.1,⟨fun _=>i16.2,fun h=>absurd hc0 h⟩⟩ [.cell 4 138,.tmp 5] J [agg [bl i16.1.holds,sl 1 nE i16.1.ladder,sl 2 pE i16.1.pairs,sl 1 rE_ i16.1.wit.aC,sl 1 gE i16.1.wit.sT],int 0] ⟨.agg J J T.agg138 J J,.tmp J,tV⟩ (cA1 (fun x0=>rV [agg [bl i16.1.holds,sl 1 nE i16.1.ladder,sl 2 pE i16.1.pairs,sl 1 rE_ i16.1.wit.aC,sl 1 gE i16.1.wit.sT],int x0]) hr0) trivial eX
theorem equal9_ok (s t:SS) (hz1:(size s:Int)≤1000000) (hz2:(size t:Int)≤1000000) (hs:smallSpec s) (ht:smallSpec t):
 Fn0 Tryz.prog 49 [spec s,spec t] (bl (eqB s t)):=by
 refine fnI Tryz.func49 rfl rfl (fun w0 F0=> ?_)
 refine fcC (inhS 0 J) (fun hS0=> ?_)
 obtain⟨hsa0,hss0,hse0⟩:=sLn hS0
 refine fcC (inhS 1 J) (fun hS1=> ?_)
 obtain⟨hsa1,hss1,hse1⟩:=sLn hS1
 refine sq (rg (bx (key:=2) (cs:= [sl 1 rE_ s.aC,sl 2 sE s.sT]) J fun b2=>(bx (key:=3) (cs:= [sl 1 rE_ t.aC,sl 2 sE t.sT]) J fun b3=>(ag (nl (th (sq ?_)))))))
 refine drH (nh:=10) [0,1,0,7,15,31,63,63,127,511] [(none,[2]),(none,[]),(none,[3]),(none,[]),(none,[]),(none,[]),(none,[]),(none,[]),(none,[]),(none,[])] T.mixed kR kR ?_
 refine stv (d:=8) (fun β0=>agg [sl 1 rE_ s.aC,sl 2 sE s.sT]) [2] J (fun β β' hb=>J) (fun β0 _ _ _ _ gq gh kq=>lPA (gq.1.trans J) (gh.1.trans J) T.agg25 J kq) ?_
 refine stv (d:=9) (fun β0=>agg [sl 1 rE_ s.aC,sl 2 sE s.sT]) [] J (fun β β' hb=>J) (fun β0 _ _ _ _ gq gh kq=>calW (φs:= [agg [sl 1 rE_ s.aC,sl 2 sE s.sT]]) (φ:=agg [sl 1 rE_ s.aC,sl 2 sE s.sT]) ⟨(gq.1.trans J),tV⟩ (ref03.Copy_ok s O) T.ent16 (fun N hN=>fun h=>agg_le (cs:= [fre N (sl 1 rE_ s.aC),fre N (sl 2 sE s.sT)]) (ds:= [sl 1 rE_ s.aC,sl 2 sE s.sT]) ⟨fun h=>nw_le h,fun h=>nw_le h,tV⟩ h) kq) ?_
 refine stv (d:=10) (fun β0=>agg [sl 1 rE_ t.aC,sl 2 sE t.sT]) [3] J (fun β β' hb=>J) (fun β0 _ _ _ _ gq gh kq=>lPA (gq.1.trans J) (gh.1.trans J) T.agg25 J kq) ?_
 refine stv (d:=11) (fun β0=>agg [sl 1 rE_ t.aC,sl 2 sE t.sT]) [] J (fun β β' hb=>J) (fun β0 _ _ _ _ gq gh kq=>calW (φs:= [agg [sl 1 rE_ t.aC,sl 2 sE t.sT]]) (φ:=agg [sl 1 rE_ t.aC,sl 2 sE t.sT]) ⟨(gq.1.trans J),tV⟩ (ref03.Copy_ok t O) T.ent16 (fun N hN=>fun h=>agg_le (cs:= [fre N (sl 1 rE_ t.aC),fre N (sl 2 sE t.sT)]) (ds:= [sl 1 rE_ t.aC,sl 2 sE t.sT]) ⟨fun h=>nw_le h,fun h=>nw_le h,tV⟩ h) kq) ?_
 refine stv (d:=12) (fun β0=>tup [bl (eqB s t),int (fineE s t)]) [] J (fun β β' hb=>J) (fun β0 _ _ _ _ gq gh kq=>cal0 (φs:= [agg [sl 1 rE_ s.aC,sl 2 sE s.sT],agg [sl 1 rE_ t.aC,sl 2 sE t.sT]]) (φ:=tup [bl (eqB s t),int (fineE s t)]) ⟨(gq.1.trans J),(gq.2.1.trans J),tV⟩ (refj.Equal_ok s t aS aS) T.ent105 kq) ?_
 refine stv (d:=7) (fun β0=>tup [bl (eqB s t),int (fineE s t)]) [] J (fun β β' hb=>J) (fun β0 _ _ _ _ gq gh kq=>mv' (gq.1.trans J) kq) ?_
 refine stv (d:=13) (fun β0=>bl (eqB s t)) [] J (fun β β' hb=>J) (fun β0 _ _ _ _ gq gh kq=>xt (gq.1.trans J) J kq) ?_
 refine stv (d:=14) (fun β0=>int (fineE s t)) [] J (fun β β' hb=>J) (fun β0 _ _ _ _ gq gh kq=>xt (gq.1.trans J) J kq) ?_
 refine stv (d:=5) (fun β0=>bl (eqB s t)) [] J (fun β β' hb=>J) (fun β0 _ _ _ _ gq gh kq=>ag' (gq.1.trans J) kq) ?_
 refine stv (d:=6) (fun β0=>int (fineE s t)) [] J (fun β β' hb=>J) (fun β0 _ _ _ _ gq gh kq=>ag' (gq.1.trans J) kq) ?_
 refine pnH fun β0=>(nl (th (sq (rg (mv (bi J J b_eql (mv ?_)))))))
 apply gAnd (t:=17) (pd:=19) rfl
 rotate_left
 ·intro hg0 fin
  have hg0':=hg0
  try simp at hg0'
  exact gy J J J hg0 (mv (pkT J hg0 J (drp (X:= [(18,_)]) ⟨J,tV⟩ fin)))
 ·intro hg0 fin
  exact gn J J J hg0 J J (pkF J hg0 J (drp (X:= [(18,_)]) ⟨J,tV⟩ fin))
 refine ag (nl (th (rt ?_)))
 have hr0:((decide ((fineE s t)=0))&&(eqB s t))=(eqB s t):=by
  rw[eqB_and]
 exact rE () [.tmp 4] J [bl ((decide ((fineE s t)=0))&&(eqB s t))] ⟨.tmp J,tV⟩ (cA1 (fun x0=>rV [bl x0]) hr0) trivial eX
theorem refines9_ok (s t:SS) (hz1:(size s:Int)≤1000000) (hz2:(size t:Int)≤1000000) (hs:smallSpec s) (ht:smallSpec t):
 Fn0 Tryz.prog 48 [spec s,spec t] (bl (rfB s t)):=by
 refine fnI Tryz.func48 rfl rfl (fun w0 F0=> ?_)
 refine fcC (inhS 0 J) (fun hS0=> ?_)
 obtain⟨hsa0,hss0,hse0⟩:=sLn hS0
 refine fcC (inhS 1 J) (fun hS1=> ?_)
 obtain⟨hsa1,hss1,hse1⟩:=sLn hS1
 refine sq (rg (bx (key:=2) (cs:= [sl 1 rE_ s.aC,sl 2 sE s.sT]) J fun b2=>(bx (key:=3) (cs:= [sl 1 rE_ t.aC,sl 2 sE t.sT]) J fun b3=>(ag (nl (th (sq ?_)))))))
 refine drH (nh:=11) [0,1,0,7,15,31,63,63,0,383,1023] [(none,[2]),(none,[]),(none,[3]),(none,[]),(none,[]),(none,[]),(none,[]),(none,[]),(some 5,[]),(some 5,[5]),(none,[])] T.mixed kR kR ?_
 refine stv (d:=8) (fun β0=>agg [sl 1 rE_ s.aC,sl 2 sE s.sT]) [2] J (fun β β' hb=>J) (fun β0 _ _ _ _ gq gh kq=>lPA (gq.1.trans J) (gh.1.trans J) T.agg25 J kq) ?_
 refine stv (d:=9) (fun β0=>agg [sl 1 rE_ s.aC,sl 2 sE s.sT]) [] J (fun β β' hb=>J) (fun β0 _ _ _ _ gq gh kq=>calW (φs:= [agg [sl 1 rE_ s.aC,sl 2 sE s.sT]]) (φ:=agg [sl 1 rE_ s.aC,sl 2 sE s.sT]) ⟨(gq.1.trans J),tV⟩ (ref03.Copy_ok s O) T.ent16 (fun N hN=>fun h=>agg_le (cs:= [fre N (sl 1 rE_ s.aC),fre N (sl 2 sE s.sT)]) (ds:= [sl 1 rE_ s.aC,sl 2 sE s.sT]) ⟨fun h=>nw_le h,fun h=>nw_le h,tV⟩ h) kq) ?_
 refine stv (d:=10) (fun β0=>agg [sl 1 rE_ t.aC,sl 2 sE t.sT]) [3] J (fun β β' hb=>J) (fun β0 _ _ _ _ gq gh kq=>lPA (gq.1.trans J) (gh.1.trans J) T.agg25 J kq) ?_
 refine stv (d:=11) (fun β0=>agg [sl 1 rE_ t.aC,sl 2 sE t.sT]) [] J (fun β β' hb=>J) (fun β0 _ _ _ _ gq gh kq=>calW (φs:= [agg [sl 1 rE_ t.aC,sl 2 sE t.sT]]) (φ:=agg [sl 1 rE_ t.aC,sl 2 sE t.sT]) ⟨(gq.1.trans J),tV⟩ (ref03.Copy_ok t O) T.ent16 (fun N hN=>fun h=>agg_le (cs:= [fre N (sl 1 rE_ t.aC),fre N (sl 2 sE t.sT)]) (ds:= [sl 1 rE_ t.aC,sl 2 sE t.sT]) ⟨fun h=>nw_le h,fun h=>nw_le h,tV⟩ h) kq) ?_
 refine ste (d:=12) encR decR decR_enc (fun z=>RefV s t z) (fun z=>tup [agg [bl z.holds,sl 1 nE z.ladder,sl 2 pE z.pairs,sl 1 rE_ z.wit.aC,sl 1 gE z.wit.sT],int (fineE s t)]) rfl (fun β0 _ _ _ _ gq gh kq=>cal (Hi:= []) (φs:= [agg [sl 1 rE_ s.aC,sl 2 sE s.sT],agg [sl 1 rE_ t.aC,sl 2 sE t.sT]]) ⟨(gq.1.trans rfl),(gq.2.1.trans rfl),tV⟩ (Refines_ok s t hs ht) T.ent104 trivial fun N i=>kq i.1 i.2) ?_
 refine stv (d:=7) (fun β0=>whn (RefV s t (decR (β0 4))) (tup [agg [bl (decR (β0 4)).holds,sl 1 nE (decR (β0 4)).ladder,sl 2 pE (decR (β0 4)).pairs,sl 1 rE_ (decR (β0 4)).wit.aC,sl 1 gE (decR (β0 4)).wit.sT],int (fineE s t)])) [] J (fun β β' hb=>by first|rw[hb 4 J]|(dsimp only;rw[hb 4 J])) (fun β0 _ _ _ _ gq gh kq=>mv' (gq.1.trans J) kq) ?_
 refine stv (d:=13) (fun β0=>agg [bl (decR (β0 4)).holds,sl 1 nE (decR (β0 4)).ladder,sl 2 pE (decR (β0 4)).pairs,sl 1 rE_ (decR (β0 4)).wit.aC,sl 1 gE (decR (β0 4)).wit.sT]) [] J (fun β β' hb=>by first|rw[hb 4 J]|(dsimp only;rw[hb 4 J])) (fun β0 _ _ _ _ gq gh kq=>xtW (gq.1.trans J) J kq) ?_
 refine stv (d:=14) (fun β0=>int (fineE s t)) [] J (fun β β' hb=>J) (fun β0 _ _ _ _ gq gh kq=>xtW (gq.1.trans J) J kq) ?_
 refine sta 5 T.z138 (eC (eC (eC (eC (eC eZ))))) ?_
 refine stw 5 (fun β0=>cell (gbk (β0 8)) [bl (decR (β0 4)).holds,sl 1 nE (decR (β0 4)).ladder,sl 2 pE (decR (β0 4)).pairs,sl 1 rE_ (decR (β0 4)).wit.aC,sl 1 gE (decR (β0 4)).wit.sT]) [5] J (fun β β' hb=>by first|rw[hb 4 J,hb 8 J]|(dsimp only;rw[hb 4 J,hb 8 J])) (fun β0 _ _ _ _ gq gh kq=>sPA (cs':= [bl (decR (β0 4)).holds,sl 1 nE (decR (β0 4)).ladder,sl 2 pE (decR (β0 4)).pairs,sl 1 rE_ (decR (β0 4)).wit.aC,sl 1 gE (decR (β0 4)).wit.sT]) (gq.1.trans J) (gh.1.trans J) (gq.2.1.trans J) T.agg138 J J kq) ?_
 refine stv (d:=6) (fun β0=>int (fineE s t)) [] J (fun β β' hb=>J) (fun β0 _ _ _ _ gq gh kq=>ag' (gq.1.trans J) kq) ?_
 refine pnH fun β0=>(nl (th (sq (whXC 12 J fun h12=>(rg (mv (bi J J b_eql (mv ?_))))))))
 apply gAnd (t:=17) (pd:=20) rfl
 rotate_left
 ·intro hg0 fin
  have hg0':=hg0
  try simp at hg0'
  exact gy J J J hg0 (fP J T.fld138_0 (gy J J J hg0 (lP J J J T.one4 (pkT J hg0 J (drp (X:= [(19,_),(18,_)]) ⟨J,J,tV⟩ fin)))))
 ·intro hg0 fin
  exact gn J J J hg0 J J (gn J J J hg0 J J (pkF J hg0 J (drp (X:= [(19,_),(18,_)]) ⟨J,J,tV⟩ fin)))
 refine ag (nl (th (rt ?_)))
 have hr0:((decide ((fineE s t)=0))&&(decR (β0 4)).holds)=(rfB s t):=by
  rw[rfV_and h12]
 exact rE () [.tmp 4] J [bl ((decide ((fineE s t)=0))&&(decR (β0 4)).holds)] ⟨.tmp J,tV⟩ (cA1 (fun x0=>rV [bl x0]) hr0) trivial eX
end prodo
end
section
open ref01 ref03 ref04 ref06 prog prog2 prog3 prog6 prog13 prog15 starts search Part Rungs LeftM TrimM RoundM BisM BisM5 BisM6 WalkM StepM WitM JudgM refw judg wit sysw
noncomputable def fineSE (m:SSys) (s:SS):Int:=if sysOK m=true then(if specOK s=true then(if m.aC=s.aC then 0 else 10) else 30) else 20
structure SatOK (m:SSys) (s:SS) (v:VJ):Prop where
 ok:fineSE m s=0→JudgeOK m s v
 no:fineSE m s≠0→v=⟨false,[],[],0⟩
namespace satj
end satj
end
section
namespace BesM
open ref01 ref03 ref04 ref06 Part Rungs LeftM TrimM RoundM MergeM BisM BisM4 BisM5 Keys WalkM WitM JudgM LevM divr divs divd dive divf divv judg sysw satj ChsM BisS TrimI QuoM FailM DivM RefM GenW CompM CompP prodp
abbrev Sd:=List Int × Int
def offL (m:SSys) (l:List Int):List Int:=l.map fun x=>offM m x.toNat
def sA (m:SSys) (t:SS) (p:Sd):List Int:=crossL (offL m p.1) (acc t p.2.toNat)
def sN (m:SSys) (t:SS) (p:Sd) (a:Nat):Sd:=(nextM m p.1 (a:Int),ix (nxt t p.2.toNat) a)
structure sOk (m:SSys) (t:SS) (p:Sd):Prop where
 rise:p.1.Pairwise (· < ·)
 bd:∀x∈p.1,0≤x∧x<(m.sT.length:Int)
 x0:0≤p.2
 x1:p.2<(t.sT.length:Int)
structure NumS (m:SSys) (t:SS) (l:List Sd) (D:SS):Prop where
 numb:Numb (sA m t) (sN m t) m.aC.length ([0],0) l D
 ok:∀p∈l,sOk m t p
 acts:D.aC=m.aC
structure RefS (m:SSys) (t D:SS):Prop where
 hol:ix (hOl t) 0=true→D=nothing t.aC
 num:ix (hOl t) 0=false→∃l,NumS m (tR t).1 l D∧l.length≤2^m.sT.length*t.sT.length
end BesM
end
section
namespace TogM
open ref01 ref03 ref04 ref06 Part Rungs LeftM TrimM RoundM BisM BisM5 BisM6 WalkM WitM JudgM FailM FitM PartM QuoM
variable {m n:SSys} {t:SS}
def sucT (t:SS) (p:T3) (d e:PP):T3:=(d.2,e.2,ix (nxt t p.2.2.toNat) d.1.toNat)
structure TW (m n:SSys) (t:SS) (i:Nat) (l:List T3):Prop where
 nd:l.Nodup
 z:((0,0,0):T3)∈l
 rch:∀p∈l,RchT m n t p
 il:i≤l.length
 dn:∀j,j<i→¬BadT m n t (ix l j)∧∀d∈edg m (ix l j).1.toNat,∀e∈edg n (ix l j).2.1.toNat,d.1=e.1→sucT t (ix l j) d e∈l
structure TN (m n:SSys) (t:SS) (i:Nat) (l:List T3) (k1 k2:Nat) (l2:List T3):Prop where
 nd:l2.Nodup
 rch:∀p∈l2,RchT m n t p
 pre:l<+:l2
 al1:∀d∈(edg m (ix l i).1.toNat).take k1,∀e∈edg n (ix l i).2.1.toNat,d.1=e.1→sucT t (ix l i) d e∈l2
 al2:∀e∈(edg n (ix l i).2.1.toNat).take k2,(ix (edg m (ix l i).1.toNat) k1).1=e.1→sucT t (ix l i) (ix (edg m (ix l i).1.toNat) k1) e∈l2
variable {i k1 k2:Nat} {l l2:List T3}
def codeT (b c:Nat) (p:T3):Nat:=(p.1.toNat*b+p.2.1.toNat)*c+p.2.2.toNat
def boxT (a b c:Nat) (p:T3):Prop:=0≤p.1∧p.1<(a:Int)∧0≤p.2.1∧p.2.1<(b:Int)∧0≤p.2.2∧p.2.2<(c:Int)
structure Tab (a b c:Nat) (l:List T3) (inn:List Bool):Prop where
 len:inn.length=a*b*c
 at_:∀p,boxT a b c p→ix inn (codeT b c p)=decide (p∈l)
end TogM
end
section
namespace BrkM
open ref01 ref03 ref04 ref06 Part Rungs LeftM TrimM RoundM BisM BisM5 BisM6 WalkM WitM JudgM FailM FitM PartM QuoM TogM
def pm (p:T3):T3:=(p.2.2,p.1,p.2.1)
structure BW (m x:SSys) (t:SS) (i:Nat) (l:List T3) (mm:List (T3 × Bool)):Prop where
 tw:TW m x t i (l.map pm)
 sm:smap3 mm l
structure BN (m x:SSys) (t:SS) (i:Nat) (l:List T3) (k1 k2:Nat) (l2:List T3) (mm2:List (T3 × Bool)):Prop where
 tn:TN m x t i (l.map pm) k1 k2 (l2.map pm)
 sm:smap3 mm2 l2
variable {m x:SSys} {t:SS} {i k1 k2:Nat} {l l2:List T3} {mm mm2:List (T3 × Bool)}
def tgt (t:SS) (p:T3) (d e:PP):T3:=(e.2,ix (nxt t p.2.1.toNat) e.1.toNat,d.2)
end BrkM
end
section
namespace ProdM
open ref01 ref03 ref04 ref06 Part Rungs LeftM TrimM RoundM BisM BisM5 BisM6 WalkM WitM JudgM FailM FitM PartM QuoM TogM sysw
abbrev pos (q:List PP) (p:PP):Nat:=q.idxOf p
def rowd (q F:List PP) (d:PP):List PP:=(F.filter fun e=>decide (d.1=e.1)).map fun e=>(d.1,(pos q ((d.2,e.2):PP):Int))
def rowL (q E F:List PP):List PP:=E.flatMap (rowd q F)
def RowAll (q E F:List PP):Prop:=∀d∈E,∀e∈F,d.1=e.1→((d.2,e.2):PP)∈q
structure ProdOK (m n k:SSys) (q:List PP):Prop where
 acts:k.aC=m.aC
 ne:0<q.length
 hd:ix q 0=((0,0):PP)
 nd:q.Nodup
 box:∀p∈q,0≤p.1∧p.1<(m.sT.length:Int)∧0≤p.2∧p.2<(n.sT.length:Int)
 len:k.sT.length=q.length
 all:∀i,i<q.length→RowAll q (edg m (ix q i).1.toNat) (edg n (ix q i).2.toNat)
 row:∀i,i<q.length→edg k i=sortP (rowL q (edg m (ix q i).1.toNat) (edg n (ix q i).2.toNat))
variable {m n k:SSys} {t:SS} {q:List PP}
structure PI (m n:SSys) (i:Nat) (q:List PP) (mm:List (PP × Int)) (outs:List (List PP)):Prop where
 ne:0<q.length
 hd:ix q 0=((0,0):PP)
 nd:q.Nodup
 box:∀p∈q,0≤p.1∧p.1<(m.sT.length:Int)∧0≤p.2∧p.2<(n.sT.length:Int)
 im:imap mm q
 il:i≤q.length
 dn:∀j,j<i→RowAll q (edg m (ix q j).1.toNat) (edg n (ix q j).2.toNat)
 out:outs=(List.range i).map fun j=>sortP (rowL q (edg m (ix q j).1.toNat) (edg n (ix q j).2.toNat))
structure PN (m n:SSys) (i:Nat) (p:PP) (q:List PP) (mm:List (PP × Int)) (outs:List (List PP)) (k1 k2:Nat) (l:List PP):Prop where
 pi:PI m n i q mm outs
 hi:i<q.length
 pe:ix q i=p
 al1:RowAll q ((edg m p.1.toNat).take k1) (edg n p.2.toNat)
 al2:∀e∈(edg n p.2.toNat).take k2,(ix (edg m p.1.toNat) k1).1=e.1→(((ix (edg m p.1.toNat) k1).2,e.2):PP)∈q
 es:l=rowL q ((edg m p.1.toNat).take k1) (edg n p.2.toNat)++rowd q ((edg n p.2.toNat).take k2) (ix (edg m p.1.toNat) k1)
variable {i k1 k2:Nat} {mm:List (PP × Int)} {outs:List (List PP)} {p:PP} {l:List PP}
end ProdM
end
section
namespace SatC
open ref01 ref03 ref04 ref06 Part Rungs LeftM TrimM RoundM MergeM BisM BisM4 BisM5 BisM6 Keys WalkM WitM JudgM LevM divr divs divd dive divf divv judg sysw satj ChsM BisS TrimI QuoM FailM DivM RefM GenW CompM CompP prodp TogM ProdM BesM
variable {m n k:SSys} {q:List PP}
end SatC
end
section
namespace OrdM
open ref01 ref03 ref04 ref06 Part Rungs LeftM TrimM RoundM MergeM BisM BisM2 BisM4 BisM5 BisM6 Keys WalkM WitM JudgM JudgM2 LevM divr divs divd dive divf divv judg sysw satj ChsM BisS TrimI QuoM FailM DivM RefM GenW CompM CompP prodp TogM ProdM BesM SevM SatC
theorem ref_of {s t:SS} (hs:oK s) {R:Nat→Nat→Prop} (hb:∀{x y},R x y→x<s.sT.length∧y<t.sT.length) (ha:∀{x y},R x y→∀u∈acc s x,u∈acc t y)
 (hn:∀{x y},R x y→∀a:Nat,has (orAll (acc s x)) (a:Int)=true→R (ix (nxt s x) a).toNat (ix (nxt t y) a).toNat) (h0:R 0 0):RefP s t:=by
 cases e:ix (hOl s) 0 with
 |true=>exact .inl e
 |false=>
  have hop:=ordS_pos s
  refine .inr ⟨fun i y=>i<(ordS s).length∧R (ix (ordS s) i).toNat y,⟨fun {i y} ⟨hi,h⟩=>⟨by rw[tS_len];exact hi,(hb h).2⟩,fun {i y} ⟨hi,h⟩ u hu=> ?_,fun {i y} ⟨hi,h⟩ a hh=> ?_⟩,O,by rw[ord_zero];exact h0⟩
  ·rw[tS_acc hi] at hu
   exact ha h u (keep_mem hu).1
  ·rw[tS_acc hi] at hh
   have hx:=(hb h).1
   have hg:=can_go hs hx hh
   have hal:a<s.aC.length:=by have:=(hs.st _ hx).len;omega
   obtain⟨p1,p2⟩:=posN_at (ord_closed hs hi hh)
   have p0:=(posN_bd (ordS s) (ix (ix s.sT (ix (ordS s) i).toNat).next a)).1
   rw[tS_nx hi hal,if_pos hh]
   refine⟨O,?_⟩
   rw[p2]
   obtain⟨u,hu,hv⟩:=(orAll_has _ _).1 hh
   exact hn h a ((orAll_has _ _).2 ⟨u,(keep_mem hu).1,hv⟩)
theorem ref_trans {s t u:SS} (hs:oK s) (ht:oK t) (h1:RefP s t) (h2:RefP t u):RefP s u:=by
 cases e:ix (hOl s) 0 with
 |true=>exact .inl e
 |false=>
  obtain⟨R1,hR1,r1⟩:=h1.resolve_left (by simp[e])
  have e2:ix (hOl t) 0=false:=ref_solid hs ht e hR1 r1
  obtain⟨R2,hR2,r2⟩:=h2.resolve_left (by simp[e2])
  have hop:=ordS_pos t
  refine .inr ⟨fun i y=> ∃j,j<(ordS t).length∧R1 i (ix (ordS t) j).toNat∧R2 j y,⟨fun {i y} ⟨j,hj,q1,q2⟩=>⟨(hR1.bd q1).1,(hR2.bd q2).2⟩,fun {i y} ⟨j,hj,q1,q2⟩ v hv=> ?_,fun {i y} ⟨j,hj,q1,q2⟩ a hh=> ?_⟩,0,O,by rw[ord_zero];exact r1,r2⟩
  ·have hi:=(hR1.bd q1).1
   rw[tS_len] at hi
   rw[tS_acc hi] at hv
   have:=ref_keep hs ht e hR1 q1 hv
   exact hR2.acc q2 v (by rw[tS_acc hj];exact this)
  ·have hi:=(hR1.bd q1).1
   rw[tS_len] at hi
   have n1:=hR1.nxt q1 a hh
   obtain⟨v,hv,hva⟩:=(orAll_has _ _).1 hh
   rw[tS_acc hi] at hv
   have hk:has (orAll (keep t (ix (ordS t) j).toNat)) (a:Int)=true:=(orAll_has _ _).2 ⟨v,ref_keep hs ht e hR1 q1 hv,hva⟩
   have hb:=ord_bd ht hj
   have hg:=can_go ht (x:=(ix (ordS t) j).toNat) O hk
   have hal:a<t.aC.length:=by have:=(ht.st (ix (ordS t) j).toNat O).len;omega
   obtain⟨p1,p2⟩:=posN_at (ord_closed ht hj hk)
   have p0:=(posN_bd (ordS t) (ix (ix t.sT (ix (ordS t) j).toNat).next a)).1
   have n2:=hR2.nxt q2 a (by rw[tS_acc hj];exact hk)
   rw[tS_nx hj hal,if_pos hk] at n2
   exact⟨_,O,by rw[p2];exact n1,n2⟩
theorem ref_tr1 {s:SS} (hs:oK s):RefP (tR s).1 s∧RefP s (tR s).1:=ref_trim hs hs rfl ⟨ref_refl hs,ref_refl hs⟩
theorem ref_rel {s t:SS} (hs:oK s) (ht:oK t) (h:RefP s t) (e:ix (hOl s) 0=false):ix (hOl t) 0=false∧∃R,Ref (tR s).1 (tR t).1 R∧R 0 0:=by
 have e2:ix (hOl t) 0=false:=by
  obtain⟨R,hR,r⟩:=h.resolve_left (by simp[e])
  exact ref_solid hs ht e hR r
 obtain⟨R,hR,r⟩:=(ref_trans hs ht h (ref_tr1 ht).2).resolve_left (by simp[e])
 rw[show tS s=(tR s).1 by rw[trimmed_not e]] at hR
 exact⟨e2,R,hR,r⟩
theorem com_hol {s t:SS} (h:hol2 s t):comS s t=(nothing s.aC,true):=by unfold comS;rw[if_pos h]
theorem com_not {s t:SS} (h:¬hol2 s t) (hq:(comS s t).2=true):(cL (tR s).1 (tR t).1).length≤500∧(comS s t).1=(tR (compD (tR s).1 (tR t).1)).1:=by
 unfold comS at hq ⊢
 rw[if_neg h] at hq ⊢
 split at hq
 ·next g=>rw[if_pos g];exact⟨g,rfl⟩
 ·cases hq
theorem hol_no {s t:SS} (h1:ix (hOl s) 0=false) (h2:ix (hOl t) 0=false):¬hol2 s t:=fun g=>g.elim (fun g=>by rw[h1] at g;cases g) (fun g=>by rw[h2] at g;cases g)
theorem hol_yes {s t:SS} (h:¬hol2 s t):ix (hOl s) 0=false∧ix (hOl t) 0=false:=
 ⟨by cases e:ix (hOl s) 0 with
   |false=>rfl
   |true=>exact absurd (Or.inl e) h,by cases e:ix (hOl t) 0 with
   |false=>rfl
   |true=>exact absurd (Or.inr e) h⟩
theorem comp_ok {S T:SS} (hS:oK S) (hT:oK T) (hc:(cL S T).length≤500):oK (compD S T):=numc_ok hS hT (c_numc hS hT) O
theorem andI_comm (x y:Int):andI x y=andI y x:=by unfold andI;rw[Nat.and_comm]
theorem andI_full {v:Int} {n:Nat} (h0:0≤v) (h:∀a:Nat,has v (a:Int)=true→a<n):andI v (fullI n)=v:=by
 have hlt:v.toNat<2^n:=by
  refine Nat.lt_pow_two_of_testBit _ fun i hi=> ?_
  cases e:v.toNat.testBit i with
  |false=>rfl
  |true=>
   have:=h i (by unfold has;rw[Int.toNat_natCast];exact e)
   omega
 unfold andI
 rw[full_nat,Nat.and_two_pow_sub_one_eq_mod,Nat.mod_eq_of_lt hlt]
 omega
theorem acc_full {s:SS} (hs:oK s) {x:Nat} (hx:x<s.sT.length) {v:Int} (hv:v∈acc s x):andI v (fullI s.aC.length)=v:=by
 have hb:=CompM.acc_bd hs hx v hv
 exact andI_full hb.1 fun a ha=>(or_go hs hx ((orAll_has _ _).2 ⟨v,hv,ha⟩)).1
theorem hol_free {D:SS} (h:∀x,x<D.sT.length→acc D x≠[]) (k:Nat):ix (hOl D) k=false:=by
 by_cases hk:k<D.sT.length
 ·cases e:ix (hOl D) k with
  |false=>rfl
  |true=>
   exfalso
   refine(hollow_ix hk).1 e (fun _=>False) (fun x hx hc=> ?_)
   have hp:0<(ix D.sT x).aP.length:=List.length_pos_iff.2 (h x hx)
   obtain⟨_,_,_,_,g⟩:=hc 0 hp
   exact g
 ·exact hollow_out hk
theorem keep_free {D:SS} (h:∀x,x<D.sT.length→acc D x≠[]) (k:Nat):keep D k=acc D k:=by
 have hf:=hol_free h
 rw[keep_filter (hf k)]
 refine List.filter_eq_self.2 fun u hu=> ?_
 rw[Bool.not_eq_true']
 cases e:falls (ix D.sT k) u (hOl D) with
 |false=>rfl
 |true=>
  obtain⟨a,_,_,_,hv⟩:=falls_iff.1 e
  rw[hf] at hv;cases hv
theorem trim_free {s:SS} (hs:oK s) (e:ix (hOl s) 0=false):∀x,x<(tR s).1.sT.length→acc (tR s).1 x≠[]:=fun x hx=>by
 have h:(tR s).1=tS s:=by rw[trimmed_not e]
 rw[h] at hx ⊢
 exact List.ne_nil_of_length_pos (tS_ne hs e hx)
theorem comp_free {S T:SS} (hS:oK S) (hT:oK T) (h1:∀x,x<S.sT.length→acc S x≠[]) (h2:∀x,x<T.sT.length→acc T x≠[]):∀x,x<(compD S T).sT.length→acc (compD S T) x≠[]:=fun x hx=>by
 have hN:=c_numb hS hT
 rw[hN.len] at hx
 rw[hN.acc x hx]
 have hp:=(c_walk hS hT).ok _ (ix_memS hx)
 obtain⟨v1,g1⟩:=List.exists_mem_of_ne_nil _ (h1 (ix (cL S T) x).1.toNat (by have:=hp.1;have:=hp.2.1;omega))
 obtain⟨v2,g2⟩:=List.exists_mem_of_ne_nil _ (h2 (ix (cL S T) x).2.toNat (by have:=hp.2.2.1;have:=hp.2.2.2;omega))
 exact List.ne_nil_of_mem ((cA_mem hS hp).2 ⟨v1,g1,v2,g2,rfl⟩)
theorem com_hollow {s t:SS} (hs:oK s) (ht:oK t) (h1:(comS s t).2=true):ix (hOl (comS s t).1) 0=true↔hol2 s t:=by
 by_cases e:hol2 s t
 ·rw[com_hol e];exact⟨fun _=>e,fun _=>nothing_hollow _⟩
 ·obtain⟨c1,d1⟩:=com_not e h1
  obtain⟨e1,e2⟩:=hol_yes e
  rw[d1,hollow_trim (comp_ok (trim_ok hs) (trim_ok ht) c1),hol_free (comp_free (trim_ok hs) (trim_ok ht) (trim_free hs e1) (trim_free ht e2)) 0]
  exact⟨fun g=>(by cases g),fun g=>absurd g e⟩
def BX (S T:SS) (i:Nat) (c:PP):Prop:=c∈cL S T∧Sim2 (solid (tR (compD S T)).1) (solid (compD S T)) i (pxa (cL S T) c)
section
variable {S T:SS} (hS:oK S) (hT:oK T) (h1:∀x,x<S.sT.length→acc S x≠[]) (h2:∀x,x<T.sT.length→acc T x≠[]) (hc:(cL S T).length≤500)
include hS hT h1 h2 hc
theorem bx_solid:solid (tR (compD S T)).1=(tR (compD S T)).1:=by
 have hC:=comp_ok hS hT hc
 have e:=hol_free (comp_free hS hT h1 h2) 0
 rw[trimmed_not e]
 exact solid_tS hC e
theorem bx_zero:BX S T 0 (0,0):=by
 have hC:=comp_ok hS hT hc
 have hN:=c_numb hS hT
 have hm:((0,0):PP)∈cL S T:=by rw[←hN.hd];exact ix_memS hN.ne
 refine⟨hm,?_⟩
 have h0:pxa (cL S T) ((0,0):PP)=0:=by
  exact Nat.le_zero.1 (QuoM.idx_le hN.ne hN.hd)
 rw[h0]
 exact sim_trim hC
theorem bx_acc {i:Nat} {c:PP} (h:BX S T i c):acc (tR (compD S T)).1 i=cA S T c:=by
 have hN:=c_numb hS hT
 have hl:=QuoM.idx_lt h.1
 have e:=(sim_bis _ _).acc h.2
 rw[bx_solid hS hT h1 h2 hc,solid_acc (by rw[hN.len];exact hl),keep_free (comp_free hS hT h1 h2),hN.acc _ hl,QuoM.idx_at h.1] at e
 exact e
theorem bx_next {i:Nat} {c:PP} (h:BX S T i c) {a:Nat} (ha:has (orAll (cA S T c)) (a:Int)=true):BX S T (ix (nxt (tR (compD S T)).1 i) a).toNat (cN S T c a):=by
 have hC:=comp_ok hS hT hc
 have hN:=c_numb hS hT
 have hl:=QuoM.idx_lt h.1
 have ea:=QuoM.idx_at h.1
 have hal:a<S.aC.length:=(cN_go hS hT ((c_walk hS hT).ok c h.1) ha).1
 have hx:pxa (cL S T) c<(compD S T).sT.length:=by rw[hN.len];exact hl
 have hcl:cN S T c a∈cL S T:=by
  have:=hN.cl _ hl a hal (by rw[ea];exact ha)
  rwa [ea] at this
 refine⟨hcl,?_⟩
 have hk:(nxt (solid (tR (compD S T)).1) i).length=S.aC.length:=by
  rw[(sim_bis _ _).len h.2,solid_nlen hC hx];rfl
 obtain⟨k1,k2⟩:=(sim_bis _ _).nxt h.2 a (by rw[hk];exact hal)
 rw[solid_ix hC hx (show a<(compD S T).aC.length from hal),keep_free (comp_free hS hT h1 h2),hN.acc _ hl,ea,if_pos ha,hN.nx _ hl a hal,ea,if_pos ha] at k1 k2
 rw[Int.toNat_natCast] at k2
 rw[bx_solid hS hT h1 h2 hc] at k1 k2 ⊢
 exact k2 O
end
theorem andI_assoc (x y z:Int):andI (andI x y) z=andI x (andI y z):=by unfold andI;rw[Int.toNat_natCast,Int.toNat_natCast,Nat.and_assoc]
end OrdM
end
section
namespace OtherM
open ref01 ref03 ref04 ref06 Part Rungs LeftM TrimM RoundM MergeM BisM BisM2 BisM4 BisM5 BisM6 WalkM WitM JudgM LevM divr divs divd dive divv refj ChsM BisS TrimI ValidM QuoM FailM DivM
noncomputable def othS (t s:SS):SS × Int:=if (divS t s).2=0 then divS t (divS t s).1 else(⟨[],[]⟩,(divS t s).2)
theorem quo_len {t s:SS} (ht:oK t) (hs:oK s) (ha:t.aC=s.aC) (hq:(quoS t s).2=true):(quoS t s).1.sT.length≤t.sT.length*s.sT.length+1:=by
 unfold quoS at hq ⊢
 cases e:ix (hOl s) 0 with
 |true=>rw[if_pos rfl];show 1≤_;omega
 |false=>
  rw[e] at hq
  rw[if_neg (by simp)] at hq ⊢
  split at hq
  ·next g=>
   rw[if_pos g]
   have hl:(tR s).1.aC.length=t.aC.length:=by rw[trim_acts,←ha]
   have hok:oK (quoD t (tR s).1):=q_ok ht (q_numb ht (trim_ok hs) (trim_used hs) hl) rfl O
   have h1:=trim_len hok
   have e2:(quoD t (tR s).1).sT.length=(qL t (tR s).1).length:=by simp[quoD]
   have h3:=ql_len ht hs (by rw[ha])
   show(tR (quoD t (tR s).1)).1.sT.length≤_
   omega
  ·cases hq
end OtherM
end
section
namespace AdjM
open ref01 ref03 ref04 ref06 Part Rungs LeftM TrimM RoundM MergeM BisM BisM2 BisM4 BisM5 BisM6 Keys WalkM WitM JudgM JudgM2 LevM divr divs divd dive divf divv judg sysw satj ChsM BisS TrimI QuoM FailM DivM RefM GenW CompM CompP prodp TogM ProdM BesM SevM SatC OrdM
abbrev Free (D:SS):Prop:=∀x,x<D.sT.length→acc D x≠[]
structure CmpR (S U t:SS) (R:Nat→Nat→Nat→Prop):Prop where
 bd:∀{x y z},R x y z→x<S.sT.length∧y<U.sT.length∧z<t.sT.length
 acc:∀{x y z},R x y z→∀v∈acc S x,∀w∈acc U y,andI v w∈acc t z
 nxt:∀{x y z},R x y z→∀a:Nat,has (orAll (BisM.acc S x)) (a:Int)=true→has (orAll (BisM.acc U y)) (a:Int)=true→R (ix (nxt S x) a).toNat (ix (nxt U y) a).toNat (ix (nxt t z) a).toNat
def Cmp (S U t:SS):Prop:=∃R,CmpR S U t R∧R 0 0 0
theorem cmp_symm {S U t:SS} (h:Cmp S U t):Cmp U S t:=by
 obtain⟨R,hR,r⟩:=h
 exact⟨fun y x z=>R x y z,⟨fun q=>⟨(hR.bd q).2.1,(hR.bd q).1,(hR.bd q).2.2⟩,fun q v hv w hw=>by rw[andI_comm];exact hR.acc q w hw v hv,fun q a h1 h2=>hR.nxt q a h2 h1⟩,r⟩
theorem cmp_mono {S S' U t:SS} {Q:Nat→Nat→Prop} (hQ:Ref S' S Q) (q0:Q 0 0) (h:Cmp S U t):Cmp S' U t:=by
 obtain⟨R,hR,r⟩:=h
 refine⟨fun x' y z=> ∃x,Q x' x∧R x y z,⟨fun⟨x,q,k⟩=>⟨(hQ.bd q).1,(hR.bd k).2⟩,fun⟨x,q,k⟩ v hv w hw=>hR.acc k v (hQ.acc q v hv) w hw,fun⟨x,q,k⟩ a h1 h2=>⟨_,hQ.nxt q a h1,hR.nxt k a ?_ h2⟩⟩,0,q0,r⟩
 obtain⟨v,hv,hva⟩:=(orAll_has _ _).1 h1
 exact(orAll_has _ _).2 ⟨v,hQ.acc q v hv,hva⟩
theorem has2 {l m:List Int} {a:Nat} (h1:has (orAll l) (a:Int)=true) (h2:has (orAll m) (a:Int)=true):∃v∈l,∃w∈m,has (andI v w) (a:Int)=true:=by
 obtain⟨v,hv,hva⟩:=(orAll_has _ _).1 h1
 obtain⟨w,hw,hwa⟩:=(orAll_has _ _).1 h2
 exact⟨v,hv,w,hw,by rw[QuoM.has_and,hva,hwa];rfl⟩
theorem cmp_solid {S U t:SS} (hS:Free S) (hU:Free U) {R:Nat→Nat→Nat→Prop} (hR:CmpR S U t R) {x y z:Nat} (h:R x y z):ix (hOl t) z=false:=by
 have hz:=(hR.bd h).2.2
 cases hv:ix (hOl t) z with
 |false=>rfl
 |true=>
  exfalso
  refine(hollow_ix hz).1 hv (fun z=> ∀x y,¬R x y z) (fun z hz hc x y hxy=> ?_) x y h
  have hb:=hR.bd hxy
  obtain⟨v,hv⟩:=List.exists_mem_of_ne_nil _ (hS x hb.1)
  obtain⟨w,hw⟩:=List.exists_mem_of_ne_nil _ (hU y hb.2.1)
  obtain⟨i,hi,e⟩:=mem_ix (hR.acc hxy v hv w hw)
  obtain⟨a,ha,_,hh,hH⟩:=hc i hi
  have e':ix (ix t.sT z).aP i=andI v w:=e
  rw[e',QuoM.has_and,Bool.and_eq_true] at hh
  exact hH _ _ (hR.nxt hxy a ((orAll_has _ _).2 ⟨v,hv,hh.1⟩) ((orAll_has _ _).2 ⟨w,hw,hh.2⟩))
theorem cmp_keep {S U t:SS} (hS:Free S) (hU:Free U) {R:Nat→Nat→Nat→Prop} (hR:CmpR S U t R) {x y z:Nat} (h:R x y z) {v w:Int} (hv:v∈acc S x) (hw:w∈acc U y):andI v w∈keep t z:=by
 rw[keep_filter (cmp_solid hS hU hR h),List.mem_filter]
 refine⟨hR.acc h v hv w hw,?_⟩
 rw[Bool.not_eq_true']
 cases hf:falls (ix t.sT z) (andI v w) (hOl t) with
 |false=>rfl
 |true=>
  obtain⟨a,_,_,hh,hv'⟩:=falls_iff.1 hf
  rw[QuoM.has_and,Bool.and_eq_true] at hh
  have:=cmp_solid hS hU hR (hR.nxt h a ((orAll_has _ _).2 ⟨v,hv,hh.1⟩) ((orAll_has _ _).2 ⟨w,hw,hh.2⟩))
  have hv2:ix (hOl t) (ix (nxt t z) a).toNat=true:=hv'
  rw[this] at hv2;cases hv2
theorem cmp_up {S U t t':SS} (hS:Free S) (hU:Free U) (ht:oK t) (g:RefP t t') (h:Cmp S U t):Cmp S U t':=by
 obtain⟨R,hR,r⟩:=h
 obtain⟨Q,hQ,q0⟩:=g.resolve_left (by rw[cmp_solid hS hU hR r];simp)
 have hop:=ordS_pos t
 refine⟨fun x y z'=> ∃i,i<(ordS t).length∧R x y (ix (ordS t) i).toNat∧Q i z',⟨fun⟨i,hi,k,q⟩=>⟨(hR.bd k).1,(hR.bd k).2.1,(hQ.bd q).2⟩,fun⟨i,hi,k,q⟩ v hv w hw=>hQ.acc q _ ?_,fun {x y z'} ⟨i,hi,k,q⟩ a h1 h2=> ?_⟩,0,O,by rw[ord_zero];exact r,q0⟩
 ·rw[tS_acc hi];exact cmp_keep hS hU hR k hv hw
 ·obtain⟨v,hv,w,hw,hvw⟩:=has2 h1 h2
  have hk:has (orAll (keep t (ix (ordS t) i).toNat)) (a:Int)=true:=(orAll_has _ _).2 ⟨_,cmp_keep hS hU hR k hv hw,hvw⟩
  have hb:=ord_bd ht hi
  have hg:=can_go ht (x:=(ix (ordS t) i).toNat) O hk
  have hal:a<t.aC.length:=by have:=(ht.st (ix (ordS t) i).toNat O).len;omega
  obtain⟨p1,p2⟩:=posN_at (ord_closed ht hi hk)
  have p0:=(posN_bd (ordS t) (ix (ix t.sT (ix (ordS t) i).toNat).next a)).1
  have n1:=hR.nxt k a h1 h2
  have n2:=hQ.nxt q a (by rw[tS_acc hi];exact hk)
  rw[tS_nx hi hal,if_pos hk] at n2
  exact⟨_,O,by rw[p2];exact n1,n2⟩
theorem fit_at {x y:SA} {u:Int} (h:fitsB x y u=true) {o:Int} (ho:o∈y.aP):andI u o∈x.aP:=by
 unfold fitsB at h
 simpa using List.all_eq_true.1 h o ho
theorem fit_of {x y:SA} {u:Int} (h:∀o∈y.aP,andI u o∈x.aP):fitsB x y u=true:=by
 unfold fitsB
 exact List.all_eq_true.2 fun o ho=>decide_eq_true (h o ho)
theorem acc_subs {U:SS} (hU:oK U) {y:Nat} (hy:y<U.sT.length) {w:Int} (hw:w∈acc U y):w∈subs U.aC.length:=by
 have hb:=CompM.acc_bd hU hy w hw
 have:=acc_full hU hy hw
 rw[subs_mem]
 refine⟨hb.1,?_⟩
 have hlt:w.toNat<2^U.aC.length:=by
  refine Nat.lt_pow_two_of_testBit _ fun i hi=> ?_
  cases e:w.toNat.testBit i with
  |false=>rfl
  |true=>
   have:=(or_go hU hy (a:=i) ((orAll_has _ _).2 ⟨w,hw,by unfold has;rw[Int.toNat_natCast];exact e⟩)).1
   omega
 omega
theorem qA_pair {t s:SS} {p:PP} (hp:p≠bes) {u:Int} (h1:u∈subs t.aC.length) (h2:∀o∈acc s p.2.toNat,andI u o∈acc t p.1.toNat):u∈qA t s p:=by
 unfold qA
 rw[if_neg hp]
 exact List.mem_filter.2 ⟨h1,fit_of h2⟩
theorem qA_bes {t s:SS} {u:Int} (h1:u∈subs t.aC.length):u∈qA t s bes:=by
 unfold qA
 rw[if_pos rfl];exact h1
theorem qN_bes {t s:SS} (a:Nat):qN t s bes a=bes:=by unfold qN;rw[if_neg (by rintro⟨g,_⟩;exact g rfl)]
theorem nb {z x:Nat}:(((z:Int),(x:Int)):PP)≠bes:=fun e=>by
 have:=congrArg Prod.fst e
 have this:(z:Int)= -1:=this
 omega
theorem has_of {l m:List Int} {a:Nat} (h:∀v∈l,v∈m) (g:has (orAll l) (a:Int)=true):has (orAll m) (a:Int)=true:=by
 obtain⟨v,hv,hva⟩:=(orAll_has _ _).1 g
 exact(orAll_has _ _).2 ⟨v,h v hv,hva⟩
section
variable {t S:SS} (ht:oK t) (hS:oK S) (hu:Used S) (ha:S.aC.length=t.aC.length)
include ht hS hu ha
theorem q_step {z x:Nat} (hz:z<t.sT.length) (hx:x<S.sT.length) {a:Nat} (h1:has (orAll (qA t S ((z:Int),(x:Int)))) (a:Int)=true) (h2:has (orAll (acc S x)) (a:Int)=true):
 qN t S ((z:Int),(x:Int)) a=((((ix (nxt t z) a).toNat:Nat):Int),(((ix (nxt S x) a).toNat:Nat):Int))∧(ix (nxt t z) a).toNat<t.sT.length∧(ix (nxt S x) a).toNat<S.sT.length:=by
 have g:=or_go hS hx h2
 have h0:0≤ix (nxt S ((((z:Int),(x:Int)):PP).2.toNat)) a:=by show 0≤ix (nxt S (x:Int).toNat) a;rw[Int.toNat_natCast];exact g.2.1
 have k:=qN_go ht hS hu ha (p:=((z:Int),(x:Int))) (.inr ⟨by show(0:Int)≤(z:Int);omega,by show(z:Int)<_;omega,by show(0:Int)≤(x:Int);omega,by show(x:Int)<_;omega⟩) nb h1 h0
 have k1:0≤ix (nxt t (z:Int).toNat) a∧ix (nxt t (z:Int).toNat) a<(t.sT.length:Int)∧ix (nxt S (x:Int).toNat) a<(S.sT.length:Int):=k
 rw[Int.toNat_natCast,Int.toNat_natCast] at k1
 unfold qN
 rw[if_pos ⟨nb,h0⟩]
 refine⟨Prod.ext ?_ ?_,O,O⟩
 ·show ix (nxt t (z:Int).toNat) a=_
  rw[Int.toNat_natCast];omega
 ·show ix (nxt S (x:Int).toNat) a=_
  rw[Int.toNat_natCast];omega
theorem q_off {z x:Nat} (hx:x<S.sT.length) {a:Nat} (h1:has (orAll (qA t S ((z:Int),(x:Int)))) (a:Int)=true) (h2:¬has (orAll (acc S x)) (a:Int)=true):qN t S ((z:Int),(x:Int)) a=bes:=by
 have han:=qA_has h1
 unfold qN
 rw[if_neg]
 rintro⟨_,g⟩
 have g:0≤ix (nxt S (x:Int).toNat) a:=g
 rw[Int.toNat_natCast] at g
 exact h2 ((hu x hx a O).1 g)
variable {l:List PP} {D:SS} (hN:Numb (qA t S) (qN t S) t.aC.length (0,0) l D)
include hN
theorem adj1 {U:SS} {Q:Nat→Nat→Prop} (hQ:Ref U D Q) (q0:Q 0 0):Cmp S U t:=by
 have f1:=ht.few0
 have f2:=hS.few0
 refine⟨fun x y z=> ∃i,Q y i∧i<l.length∧ix l i=((z:Int),(x:Int))∧z<t.sT.length∧x<S.sT.length,⟨fun⟨i,q,_,_,hz,hx⟩=>⟨hx,(hQ.bd q).1,hz⟩,fun {x y z} ⟨i,q,hi,e,hz,hx⟩ v hv w hw=> ?_,fun {x y z} ⟨i,q,hi,e,hz,hx⟩ a h1 h2=> ?_⟩,0,q0,hN.ne,hN.hd,O,O⟩
 ·have:=hQ.acc q w hw
  rw[hN.acc i hi,e] at this
  have:=fit_at (qA_fit nb this) (o:=v) hv
  rw[andI_comm];exact this
 ·have hh:has (orAll (qA t S (ix l i))) (a:Int)=true:=has_of (fun w hw=>by rw[←hN.acc i hi];exact hQ.acc q w hw) h2
  have han:=qA_has hh
  have hcl:=hN.cl i hi a han hh
  have n:=hQ.nxt q a h2
  rw[hN.nx i hi a han,if_pos hh,Int.toNat_natCast] at n
  have hh2:=hh
  rw[e] at hh2
  obtain⟨k1,k2,k3⟩:=q_step ht hS hu ha hz hx hh2 h1
  exact⟨_,n,QuoM.idx_lt hcl,by rw[QuoM.idx_at hcl,e,k1],k2,k3⟩
theorem adj2 {U:SS} (hU:oK U) (hl:U.aC.length=t.aC.length) (h:Cmp S U t):∃Q,Ref U D Q∧Q 0 0:=by
 obtain⟨R,hR,r⟩:=h
 have f:=hU.few0
 have key:∀{y i:Nat},(y<U.sT.length∧i<l.length∧(ix l i=bes∨∃x z:Nat,ix l i=((z:Int),(x:Int))∧R x y z))→∀w∈acc U y,w∈qA t S (ix l i):=fun {y i} ⟨hy,hi,g⟩ w hw=>by
  have hs:=acc_subs hU hy hw
  rw[hl] at hs
  rcases g with e|⟨x,z,e,k⟩
  ·rw[e];exact qA_bes hs
  ·rw[e];exact qA_pair nb hs fun o ho=>by rw[andI_comm];exact hR.acc k o ho w hw
 refine⟨fun y i=>y<U.sT.length∧i<l.length∧(ix l i=bes∨∃x z:Nat,ix l i=((z:Int),(x:Int))∧R x y z),⟨fun {y i} ⟨hy,hi,_⟩=>⟨hy,by rw[hN.len];exact hi⟩,fun {y i} q w hw=>by rw[hN.acc i q.2.1];exact key q w hw,fun {y i} q a h2=> ?_⟩,O,hN.ne,.inr ⟨0,0,hN.hd,r⟩⟩
 have hh:has (orAll (qA t S (ix l i))) (a:Int)=true:=has_of (key q) h2
 obtain⟨hy,hi,g⟩:=q
 have han:=qA_has hh
 have hcl:=hN.cl i hi a han hh
 have hgo:=or_go hU hy h2
 rw[hN.nx i hi a han,if_pos hh,Int.toNat_natCast]
 refine⟨O,QuoM.idx_lt hcl,?_⟩
 rw[QuoM.idx_at hcl]
 rcases g with e|⟨x,z,e,k⟩
 ·rw[e];exact .inl (qN_bes a)
 ·rw[e] at hh ⊢
  have hb:=hR.bd k
  by_cases h1:has (orAll (acc S x)) (a:Int)=true
  ·obtain⟨k1,k2,k3⟩:=q_step ht hS hu ha hb.2.2 hb.1 hh h1
   exact .inr ⟨_,_,k1,hR.nxt k a h1 h2⟩
  ·exact .inl (q_off ht hS hu ha hb.1 hh h1)
theorem cmp_in {U X:SS} (hU:oK U) (hX:oK X) (hl:U.aC.length=t.aC.length) (fS:Free S) (fU:Free U) (hc:(cL S U).length≤500) (h:Cmp (tR (compD S U)).1 X t):Cmp U X D:=by
 obtain⟨R,hR,r⟩:=h
 have hok:=(c_walk hS hU).ok
 have f:=hU.few0
 have fx:=(hR.bd r).2.1
 have key:∀{y1 y2 j:Nat},(y1<U.sT.length∧y2<X.sT.length∧j<l.length∧(ix l j=bes∨∃x z i:Nat,ix l j=((z:Int),(x:Int))∧x<S.sT.length∧BX S U i ((x:Int),(y1:Int))∧R i y2 z))→∀v∈acc U y1,∀w∈acc X y2,andI v w∈qA t S (ix l j):=fun {y1 y2 j} ⟨hy,hy2,hj,g⟩ v hv w hw=>by
  have hs:=acc_subs hU hy hv
  rw[hl] at hs
  have hs2:andI v w∈subs t.aC.length:=by
   rw[subs_mem] at hs ⊢
   unfold andI
   have:v.toNat&&&w.toNat≤v.toNat:=Nat.and_le_left
   omega
  rcases g with e|⟨x,z,i,e,hx,b,k⟩
  ·rw[e];exact qA_bes hs2
  ·rw[e]
   refine qA_pair nb hs2 fun o ho=> ?_
   have hc1:andI o v∈acc (tR (compD S U)).1 i:=by
    rw[bx_acc hS hU fS fU hc b]
    exact(cA_mem hS (hok _ b.1)).2 ⟨o,ho,v,hv,rfl⟩
   have:=hR.acc k _ hc1 w hw
   rw[andI_comm,←andI_assoc];exact this
 refine⟨fun y1 y2 j=>y1<U.sT.length∧y2<X.sT.length∧j<l.length∧(ix l j=bes∨∃x z i:Nat,ix l j=((z:Int),(x:Int))∧x<S.sT.length∧BX S U i ((x:Int),(y1:Int))∧R i y2 z),⟨fun {y1 y2 j} ⟨q1,q2,q3,_⟩=>⟨q1,q2,by rw[hN.len];exact q3⟩,fun {y1 y2 j} q v hv w hw=>by rw[hN.acc j q.2.2.1];exact key q v hv w hw,fun {y1 y2 j} q a h1 h2=> ?_⟩,O,fx,hN.ne,.inr ⟨0,0,0,hN.hd,by have:=hS.few0;omega,bx_zero hS hU fS fU hc,r⟩⟩
 obtain⟨v,hv,w,hw,hvw⟩:=has2 h1 h2
 have hh:has (orAll (qA t S (ix l j))) (a:Int)=true:=(orAll_has _ _).2 ⟨_,key q v hv w hw,hvw⟩
 obtain⟨hy1,hy2,hj,g⟩:=q
 have han:=qA_has hh
 have hcl:=hN.cl j hj a han hh
 have hgo:=or_go hU hy1 h1
 have hgx:=or_go hX hy2 h2
 rw[hN.nx j hj a han,if_pos hh,Int.toNat_natCast]
 refine⟨O,O,QuoM.idx_lt hcl,?_⟩
 rw[QuoM.idx_at hcl]
 rcases g with e|⟨x,z,i,e,hx,b,k⟩
 ·rw[e];exact .inl (qN_bes a)
 ·rw[e] at hh ⊢
  by_cases h3:has (orAll (acc S x)) (a:Int)=true
  ·have hca:has (orAll (cA S U ((x:Int),(y1:Int)))) (a:Int)=true:=(cA_has hS (hok _ b.1)).2 ⟨h3,h1⟩
   obtain⟨k1,k2,k3⟩:=q_step ht hS hu ha (hR.bd k).2.2 hx hh h3
   have hgs:=or_go hS hx h3
   have hb:=bx_next hS hU fS fU hc b hca
   have e2:cN S U ((x:Int),(y1:Int)) a=((((ix (nxt S x) a).toNat:Nat):Int),(((ix (nxt U y1) a).toNat:Nat):Int)):=by
     refine Prod.ext ?_ ?_
     ·show ix (nxt S (x:Int).toNat) a=_
      rw[Int.toNat_natCast];omega
     ·show ix (nxt U (y1:Int).toNat) a=_
      rw[Int.toNat_natCast];omega
   rw[e2] at hb
   exact .inr ⟨_,_,_,k1,k3,hb,hR.nxt k a (by rw[bx_acc hS hU fS fU hc b];exact hca) h2⟩
  ·exact .inl (q_off ht hS hu ha hx hh h3)
theorem bx_lt {U:SS} (hU:oK U) (fS:Free S) (fU:Free U) (hc:(cL S U).length≤500) {i:Nat} {c:PP} (b:BX S U i c):i<(tR (compD S U)).1.sT.length:=by
 have hM:=c_numb hS hU
 have hi:=QuoM.idx_lt b.1
 obtain⟨v,hv⟩:=List.exists_mem_of_ne_nil _ (comp_free hS hU fS fU (pxa (cL S U) c) (by rw[hM.len];exact hi))
 rw[hM.acc _ hi,QuoM.idx_at b.1,←bx_acc hS hU fS fU hc b] at hv
 exact acc_in hv
theorem cmp_out {U X:SS} (hU:oK U) (fS:Free S) (fU:Free U) (hc:(cL S U).length≤500) (h:Cmp U X D):Cmp (tR (compD S U)).1 X t:=by
 obtain⟨R,hR,r⟩:=h
 have hok:=(c_walk hS hU).ok
 have f1:=ht.few0
 have f2:=hS.few0
 refine⟨fun i y2 z=> ∃x y1 j:Nat,BX S U i ((x:Int),(y1:Int))∧x<S.sT.length∧R y1 y2 j∧j<l.length∧ix l j=((z:Int),(x:Int))∧z<t.sT.length,⟨fun {i y2 z} ⟨x,y1,j,b,hx,k,hj,e,hz⟩=>⟨bx_lt ht hS hu ha hN hU fS fU hc b,(hR.bd k).2.1,hz⟩,fun {i y2 z} ⟨x,y1,j,b,hx,k,hj,e,hz⟩ m hm w hw=> ?_,fun {i y2 z} ⟨x,y1,j,b,hx,k,hj,e,hz⟩ a h1 h2=> ?_⟩,0,0,0,bx_zero hS hU fS fU hc,O,r,hN.ne,hN.hd,O⟩
 ·rw[bx_acc hS hU fS fU hc b] at hm
  obtain⟨o,ho,v,hv,rfl⟩:=(cA_mem hS (hok _ b.1)).1 hm
  have ho:o∈acc S x:=ho
  have hv:v∈acc U y1:=hv
  have:=hR.acc k v hv w hw
  rw[hN.acc j hj,e] at this
  have:=fit_at (qA_fit nb this) (o:=o) ho
  rw[andI_assoc,andI_comm];exact this
 ·rw[bx_acc hS hU fS fU hc b] at h1
  obtain⟨g1,g2⟩:=(cA_has hS (hok _ b.1)).1 h1
  have g1:has (orAll (acc S x)) (a:Int)=true:=g1
  have g2:has (orAll (acc U y1)) (a:Int)=true:=g2
  obtain⟨v,hv,w,hw,hvw⟩:=has2 g2 h2
  have hq:=hR.acc k v hv w hw
  rw[hN.acc j hj] at hq
  have hh:has (orAll (qA t S (ix l j))) (a:Int)=true:=(orAll_has _ _).2 ⟨_,hq,hvw⟩
  have han:=qA_has hh
  have hcl:=hN.cl j hj a han hh
  have n:=hR.nxt k a g2 h2
  rw[hN.nx j hj a han,if_pos hh,Int.toNat_natCast] at n
  have hh2:=hh
  rw[e] at hh2
  obtain⟨k1,k2,k3⟩:=q_step ht hS hu ha hz hx hh2 g1
  have hgs:=or_go hS hx g1
  have hgu:=or_go hU (hR.bd k).1 g2
  have hb:=bx_next hS hU fS fU hc b h1
  have e2:cN S U ((x:Int),(y1:Int)) a=((((ix (nxt S x) a).toNat:Nat):Int),(((ix (nxt U y1) a).toNat:Nat):Int)):=by
   refine Prod.ext ?_ ?_
   ·show ix (nxt S (x:Int).toNat) a=_
    rw[Int.toNat_natCast];omega
   ·show ix (nxt U (y1:Int).toNat) a=_
    rw[Int.toNat_natCast];omega
  rw[e2] at hb
  exact⟨_,_,_,hb,k3,n,QuoM.idx_lt hcl,by rw[QuoM.idx_at hcl,e,k1],k2⟩
end
theorem ref_every {u:SS} (hu:oK u):RefP u (everyS u.aC):=by
 cases e:ix (hOl u) 0 with
 |true=>exact .inl e
 |false=>
  have hT:=tS_ok hu
  have hop:=ordS_pos u
  refine .inr ⟨fun i y=>i<(tS u).sT.length∧y=0,⟨fun {i y} ⟨hi,h⟩=>⟨hi,by rw[h];show 0<1;omega⟩,fun {i y} ⟨hi,h⟩ v hv=> ?_,fun {i y} ⟨hi,h⟩ a hh=> ?_⟩,by rw[tS_len];omega,rfl⟩
  ·rw[h];exact acc_subs hT hi hv
  ·have hg:=or_go hT hi hh
   rw[h]
   refine⟨O,?_⟩
   have:ix (nxt (everyS u.aC) 0) a=0:=rep_ix 0 hg.1
   rw[this];rfl
theorem quo_hol {t s:SS} (h:ix (hOl s) 0=true):quoS t s=(everyS t.aC,true):=by unfold quoS;rw[if_pos h]
theorem quo_not {t s:SS} (h:ix (hOl s) 0=false) (hq:(quoS t s).2=true):(qL t (tR s).1).length≤500∧(quoS t s).1=(tR (quoD t (tR s).1)).1:=by
 unfold quoS at hq ⊢
 rw[if_neg (by rw[h];simp)] at hq ⊢
 split at hq
 ·next g=>rw[if_pos g];exact⟨g,rfl⟩
 ·cases hq
theorem hol_or (s:SS):ix (hOl s) 0=true∨ix (hOl s) 0=false:=by cases ix (hOl s) 0<;>simp
theorem adj {s t u:SS} (hs:oK s) (ht:oK t) (hu:oK u) (ha:t.aC=s.aC) (hb:u.aC=t.aC) (hq:(quoS t s).2=true):
 RefP u (quoS t s).1↔(ix (hOl s) 0=true∨ix (hOl u) 0=true∨Cmp (tR s).1 (tR u).1 t):=by
 rcases hol_or s with es|es
 ·rw[quo_hol es,←hb];exact⟨fun _=> .inl es,fun _=>ref_every hu⟩
 ·rcases hol_or u with eu|eu
  ·exact⟨fun _=> .inr (.inl eu),fun _=> .inl eu⟩
  ·obtain⟨c,d⟩:=quo_not es hq
   have hS:=trim_ok hs
   have hU:=trim_ok hu
   have hl:(tR s).1.aC.length=t.aC.length:=by rw[trim_acts,ha]
   have hl2:(tR u).1.aC.length=t.aC.length:=by rw[trim_acts,hb]
   have hN:=q_numb ht hS (trim_used hs) hl
   have hD:=q_ok ht hN rfl O
   rw[d]
   have k1:tS u=(tR u).1:=by rw[trimmed_not eu]
   constructor
   ·intro h
    obtain⟨Q,hQ,q0⟩:=(ref_trans hu (trim_ok hD) h (ref_tr1 hD).1).resolve_left (by simp[eu])
    rw[k1] at hQ
    exact .inr (.inr (adj1 ht hS (trim_used hs) hl hN hQ q0))
   ·rintro(h|h|h)
    ·rw[es] at h;cases h
    ·rw[eu] at h;cases h
    ·obtain⟨Q,hQ,q0⟩:=adj2 ht hS (trim_used hs) hl hN hU hl2 h
     rw[←k1] at hQ
     exact ref_trans hu hD (.inr ⟨Q,hQ,q0⟩) (ref_tr1 hD).2
theorem comp_cmp {S U t:SS} (hS:oK S) (hU:oK U) (ht:oK t) (fS:Free S) (fU:Free U) (hc:(cL S U).length≤500):RefP (compD S U) t↔Cmp S U t:=by
 have hok:=(c_walk hS hU).ok
 have hM:=c_numb hS hU
 have hC:=comp_ok hS hU hc
 have f1:=hS.few0
 have f2:=hU.few0
 constructor
 ·intro h
  have e:=hol_free (comp_free hS hU fS fU) 0
  obtain⟨Q,hQ,q0⟩:=h.resolve_left (by simp[e])
  rw[show tS (compD S U)=(tR (compD S U)).1 by rw[trimmed_not e]] at hQ
  refine⟨fun x y z=> ∃i,BX S U i ((x:Int),(y:Int))∧Q i z∧x<S.sT.length∧y<U.sT.length,⟨fun {x y z} ⟨i,b,q,hx,hy⟩=>⟨hx,hy,(hQ.bd q).2⟩,fun {x y z} ⟨i,b,q,hx,hy⟩ v hv w hw=>hQ.acc q _ ?_,fun {x y z} ⟨i,b,q,hx,hy⟩ a h1 h2=> ?_⟩,0,bx_zero hS hU fS fU hc,q0,O,O⟩
  ·rw[bx_acc hS hU fS fU hc b]
   exact(cA_mem hS (hok _ b.1)).2 ⟨v,hv,w,hw,rfl⟩
  ·have hca:has (orAll (cA S U ((x:Int),(y:Int)))) (a:Int)=true:=(cA_has hS (hok _ b.1)).2 ⟨h1,h2⟩
   have g1:=or_go hS hx h1
   have g2:=or_go hU hy h2
   have hb:=bx_next hS hU fS fU hc b hca
   have e2:cN S U ((x:Int),(y:Int)) a=((((ix (nxt S x) a).toNat:Nat):Int),(((ix (nxt U y) a).toNat:Nat):Int)):=by
    refine Prod.ext ?_ ?_
    ·show ix (nxt S (x:Int).toNat) a=_
     rw[Int.toNat_natCast];omega
    ·show ix (nxt U (y:Int).toNat) a=_
     rw[Int.toNat_natCast];omega
   rw[e2] at hb
   exact⟨_,hb,hQ.nxt q a (by rw[bx_acc hS hU fS fU hc b];exact hca),O,O⟩
 ·rintro⟨R,hR,r⟩
  refine ref_of hC (R:=fun k z=>k<(cL S U).length∧R (ix (cL S U) k).1.toNat (ix (cL S U) k).2.toNat z) (fun {k z} ⟨hk,q⟩=>⟨by rw[hM.len];exact hk,(hR.bd q).2.2⟩) (fun {k z} ⟨hk,q⟩ m hm=> ?_) (fun {k z} ⟨hk,q⟩ a hh=> ?_) ⟨hM.ne,by rw[hM.hd];exact r⟩
  ·rw[hM.acc k hk] at hm
   obtain⟨v,hv,w,hw,rfl⟩:=(cA_mem hS (hok _ (ix_memS hk))).1 hm
   exact hR.acc q v hv w hw
  ·rw[hM.acc k hk] at hh
   have hp:=hok _ (ix_memS hk)
   obtain⟨h1,h2⟩:=(cA_has hS hp).1 hh
   have hal:=(cN_go hS hU hp hh).1
   have hcl:=hM.cl k hk a hal hh
   rw[hM.nx k hk a hal,if_pos hh,Int.toNat_natCast]
   refine⟨QuoM.idx_lt hcl,?_⟩
   rw[QuoM.idx_at hcl]
   exact hR.nxt q a h1 h2
theorem cadj {s u t:SS} (hs:oK s) (hu:oK u) (ht:oK t) (hq:(comS s u).2=true):RefP (comS s u).1 t↔(ix (hOl s) 0=true∨ix (hOl u) 0=true∨Cmp (tR s).1 (tR u).1 t):=by
 by_cases e:hol2 s u
 ·rw[com_hol e]
  exact⟨fun _=>e.elim .inl (fun g=> .inr (.inl g)),fun _=> .inl (nothing_hollow _)⟩
 ·obtain⟨e1,e2⟩:=hol_yes e
  obtain⟨c,d⟩:=com_not e hq
  have hS:=trim_ok hs
  have hU:=trim_ok hu
  have hC:=comp_ok hS hU c
  rw[d]
  have h1:=comp_cmp hS hU ht (trim_free hs e1) (trim_free hu e2) c
  constructor
  ·intro h;exact .inr (.inr (h1.1 (ref_trans hC (trim_ok hC) (ref_tr1 hC).2 h)))
  ·rintro(h|h|h)
   ·rw[e1] at h;cases h
   ·rw[e2] at h;cases h
   ·exact ref_trans (trim_ok hC) hC (ref_tr1 hC).1 (h1.2 h)
variable {s t u:SS} (hs:oK s) (ht:oK t) (hu:oK u) (ha:t.aC=s.aC) (hb:u.aC=t.aC)
theorem adj_ref (hs:oK s) (ht:oK t) (hu:oK u) (ha:t.aC=s.aC) (hb:u.aC=t.aC) (hq:(quoS t s).2=true) (hc:(comS s u).2=true):RefP u (quoS t s).1↔RefP (comS s u).1 t:=(adj hs ht hu ha hb hq).trans (cadj hs hu ht hc).symm
theorem quo_acts {t s:SS} (hq:(quoS t s).2=true):(quoS t s).1.aC=t.aC:=by
 rcases hol_or s with e|e
 ·rw[quo_hol e];rfl
 ·rw[(quo_not e hq).2,trim_acts];rfl
theorem cmp_or {s u t:SS} (h:ix (hOl s) 0=true∨ix (hOl u) 0=true∨Cmp (tR s).1 (tR u).1 t):ix (hOl u) 0=true∨ix (hOl s) 0=true∨Cmp (tR u).1 (tR s).1 t:=by
 rcases h with h|h|h
 ·exact .inr (.inl h)
 ·exact .inl h
 ·exact .inr (.inr (cmp_symm h))
theorem oth_ref (hs:oK s) (ht:oK t) (ha:t.aC=s.aC) (hq:(quoS t s).2=true) (ho:(quoS t (quoS t s).1).2=true):RefP s (quoS t (quoS t s).1).1:=by
 have hQ:=quo_ok ht hs ha hq
 have hqa:=quo_acts hq
 exact(adj hQ ht hs hqa.symm ha.symm ho).2 (cmp_or ((adj hs ht hQ ha hqa hq).1 (ref_refl hQ)))
theorem oth_quo (hs:oK s) (ht:oK t) (ha:t.aC=s.aC) (hq:(quoS t s).2=true) (ho:(quoS t (quoS t s).1).2=true) (hp:(quoS t (quoS t (quoS t s).1).1).2=true):
 RefP (quoS t (quoS t (quoS t s).1).1).1 (quoS t s).1∧RefP (quoS t s).1 (quoS t (quoS t (quoS t s).1).1).1:=by
 have hQ:=quo_ok ht hs ha hq
 have hqa:=quo_acts hq
 have hO:=quo_ok ht hQ hqa.symm ho
 have hoa:=quo_acts ho
 have hP:=quo_ok ht hO hoa.symm hp
 have hpa:=quo_acts hp
 have hso:=oth_ref hs ht ha hq ho
 constructor
 ·refine(adj hs ht hP ha hpa hq).2 ?_
  rcases hol_or s with es|es
  ·exact .inl es
  ·obtain⟨eo,R,hR,r⟩:=ref_rel hs hO hso es
   rcases(adj hO ht hP hoa.symm hpa hp).1 (ref_refl hP) with h|h|h
   ·rw[eo] at h;cases h
   ·exact .inr (.inl h)
   ·exact .inr (.inr (cmp_mono hR r h))
 ·exact(adj hO ht hQ hoa.symm hqa hp).2 (cmp_or ((adj hQ ht hO hqa.symm hoa ho).1 (ref_refl hO)))
theorem cmp_every {l:List ByteArray} {U X:SS} (hU:oK U) (hX:oK X) (hl:U.aC.length=l.length):Cmp U X (everyS l):=by
 have f1:=hU.few0
 have f2:=hX.few0
 refine⟨fun x y z=>x<U.sT.length∧y<X.sT.length∧z=0,⟨fun⟨h1,h2,h3⟩=>⟨h1,h2,by rw[h3];show 0<1;omega⟩,fun {x y z} ⟨h1,h2,h3⟩ v hv w hw=> ?_,fun {x y z} ⟨h1,h2,h3⟩ a g1 g2=> ?_⟩,O,O,rfl⟩
 ·have k:=acc_subs hU h1 hv
  rw[hl] at k
  rw[h3]
  show andI v w∈subs l.length
  rw[subs_mem] at k ⊢
  unfold andI
  have:v.toNat&&&w.toNat≤v.toNat:=Nat.and_le_left
  omega
 ·have k1:=or_go hU h1 g1
  have k2:=or_go hX h2 g2
  refine⟨O,O,?_⟩
  rw[h3]
  have:ix (nxt (everyS l) 0) a=0:=rep_ix 0 (by rw[←hl];exact k1.1)
  rw[this];rfl
theorem twice_in {s t u A:SS} (hs:oK s) (ht:oK t) (hu:oK u) (ha:t.aC=s.aC) (hb:u.aC=t.aC) (hq:(quoS t s).2=true) (hc:(comS s u).2=true) (es:ix (hOl s) 0=false) (eu:ix (hOl u) 0=false) (oA:oK A) (ea:ix (hOl A) 0=false)
 (h:Cmp (tR (comS s u).1).1 (tR A).1 t):Cmp (tR u).1 (tR A).1 (quoS t s).1:=by
 have hS:=trim_ok hs
 have hU:=trim_ok hu
 have hl:(tR s).1.aC.length=t.aC.length:=by rw[trim_acts,ha]
 have hl2:(tR u).1.aC.length=t.aC.length:=by rw[trim_acts,hb]
 obtain⟨c,d⟩:=com_not (hol_no es eu) hc
 obtain⟨c2,d2⟩:=quo_not es hq
 have hN:=q_numb ht hS (trim_used hs) hl
 have hD:=q_ok ht hN rfl O
 rw[d,trim_trim (comp_ok hS hU c)] at h
 rw[d2]
 exact cmp_up (trim_free hu eu) (trim_free oA ea) hD (ref_tr1 hD).2 (cmp_in ht hS (trim_used hs) hl hN hU (trim_ok oA) hl2 (trim_free hs es) (trim_free hu eu) c h)
theorem twice_out {s t u B:SS} (hs:oK s) (ht:oK t) (hu:oK u) (ha:t.aC=s.aC) (hq:(quoS t s).2=true) (hc:(comS s u).2=true) (es:ix (hOl s) 0=false) (eu:ix (hOl u) 0=false) (oB:oK B) (eb:ix (hOl B) 0=false)
 (h:Cmp (tR u).1 (tR B).1 (quoS t s).1):Cmp (tR (comS s u).1).1 (tR B).1 t:=by
 have hQ:=quo_ok ht hs ha hq
 have hS:=trim_ok hs
 have hU:=trim_ok hu
 have hl:(tR s).1.aC.length=t.aC.length:=by rw[trim_acts,ha]
 obtain⟨c,d⟩:=com_not (hol_no es eu) hc
 obtain⟨c2,d2⟩:=quo_not es hq
 have hN:=q_numb ht hS (trim_used hs) hl
 have hD:=q_ok ht hN rfl O
 have h2:=cmp_up (trim_free hu eu) (trim_free oB eb) hQ (show RefP (quoS t s).1 (quoD t (tR s).1) by rw[d2];exact(ref_tr1 hD).1) h
 rw[d,trim_trim (comp_ok hS hU c)]
 exact cmp_out ht hS (trim_used hs) hl hN hU (trim_free hs es) (trim_free hu eu) c h2
theorem twice1 (hs:oK s) (ht:oK t) (hu:oK u) (ha:t.aC=s.aC) (hb:u.aC=t.aC) (hq:(quoS t s).2=true) (hc:(comS s u).2=true) (hA:(quoS t (comS s u).1).2=true) (hB:(quoS (quoS t s).1 u).2=true):
 RefP (quoS t (comS s u).1).1 (quoS (quoS t s).1 u).1:=by
 have hQ:=quo_ok ht hs ha hq
 have hqa:=quo_acts hq
 have hC:=com_ok hs hu hc
 have hca:t.aC=(comS s u).1.aC:=by rw[com_acts hc,ha]
 have oA:=quo_ok ht hC hca hA
 have aA:=quo_acts hA
 refine(adj hu hQ oA (hqa.trans hb.symm) (aA.trans hqa.symm) hB).2 ?_
 rcases hol_or u with eu|eu
 ·exact .inl eu
 rcases hol_or (quoS t (comS s u).1).1 with ea|ea
 ·exact .inr (.inl ea)
 refine .inr (.inr ?_)
 rcases hol_or s with es|es
 ·rw[quo_hol es]
  exact cmp_every (trim_ok hu) (trim_ok oA) (by rw[trim_acts,hb])
 ·rcases(adj hC ht oA hca aA hA).1 (ref_refl oA) with h|h|h
  ·exact absurd ((com_hollow hs hu hc).1 h) (hol_no es eu)
  ·rw[ea] at h;cases h
  ·exact twice_in hs ht hu ha hb hq hc es eu oA ea h
theorem twice2 (hs:oK s) (ht:oK t) (hu:oK u) (ha:t.aC=s.aC) (hb:u.aC=t.aC) (hq:(quoS t s).2=true) (hc:(comS s u).2=true) (hA:(quoS t (comS s u).1).2=true) (hB:(quoS (quoS t s).1 u).2=true):
 RefP (quoS (quoS t s).1 u).1 (quoS t (comS s u).1).1:=by
 have hQ:=quo_ok ht hs ha hq
 have hqa:=quo_acts hq
 have hC:=com_ok hs hu hc
 have hca:t.aC=(comS s u).1.aC:=by rw[com_acts hc,ha]
 have hub:(quoS t s).1.aC=u.aC:=hqa.trans hb.symm
 have oB:=quo_ok hQ hu hub hB
 have aB:=quo_acts hB
 refine(adj hC ht oB hca (aB.trans hqa) hA).2 ?_
 rcases hol_or (comS s u).1 with ec|ec
 ·exact .inl ec
 rcases hol_or (quoS (quoS t s).1 u).1 with eb|eb
 ·exact .inr (.inl eb)
 have hn:¬hol2 s u:=fun g=>by rw[(com_hollow hs hu hc).2 g] at ec;cases ec
 obtain⟨es,eu⟩:=hol_yes hn
 rcases(adj hu hQ oB hub aB hB).1 (ref_refl oB) with h|h|h
 ·rw[eu] at h;cases h
 ·rw[eb] at h;cases h
 ·exact .inr (.inr (twice_out hs ht hu ha hq hc es eu oB eb h))
end AdjM
end
section
open ref01 ref03 ref04 ref06 prog prog2 prog3 prog6 prog13 Part Rungs LeftM TrimM RoundM MergeM BisM BisM4 BisM5 WalkM StepM WitM JudgM JudgM2 refw judg wit refj sysw divr divs divd dive divg divw divv divf LevM LevM2
theorem chs_len (x y:SA):∀(n:Nat) (u:Int),(chs x y n u).length≤2^n
 |0,u=>by unfold chs;split<;>simp
 |k+1,u=>by
  have h1:=chs_len x y k u
  have h2:=chs_len x y k (((u.toNat|||2^k:Nat):Int))
  unfold chs
  rw[List.length_append,Nat.pow_succ];omega
abbrev chH (x y:SA) (c4 c5:Nat) (v:Value) (acc:List Int):Hp:= [(7,cell c4 [osl 70 v]),(70,own v 3 1 nE acc),(8,cell c5 [clo 187 [fp [ints y.aP,ints y.next],fp [ints x.aP,ints x.next],ptr 7 c4 0,ptr 8 c5 0]])]
abbrev ChFn (x y:SA) (c4 c5:Nat) (n:Nat) (u:Int) (v:Value) (acc:List Int):Prop:=
 AL.Fn Tryz.prog 187 [int ((n:Int)- 1),int u,fp [ints y.aP,ints y.next],fp [ints x.aP,ints x.next],ptr 7 c4 0,ptr 8 c5 0] (chH x y c4 c5 v acc) (fun _ (_:Value)=>tup []) (fun v2=>chH x y c4 c5 v2 (acc++chs x y n u))
namespace T
theorem ent187:Ent Tryz.prog 187:=ent_of kR
theorem ent120:Ent Tryz.prog 120:=ent_of kR
theorem one227:IsOne Tryz.prog 227:=isOne_of kR
end T
namespace divc
theorem step_ok (x y:SA) (hr:rising x.aP=true) (hy:∀k,k<y.aP.length→0≤ix y.aP k∧ix y.aP k<256) (n:Nat) (hn:n≤8) (c4 c5:Nat) (ih:∀k,k+1=n→∀(u:Int) (v:Value) (acc:List Int),(0≤u∧u<256)→acc.length+2^k≤1000→ChFn x y c4 c5 k u v acc) (u:Int) (v:Value) (acc:List Int) (hu:0≤u∧u<256) (hl:acc.length+2^n≤1000):
 ChFn x y c4 c5 n u v acc:=by
 refine fnI Tryz.func187 rfl rfl (fun w0 F0=> ?_)
 have hl1:acc.length≤1000:=Nat.le_trans (Nat.le_add_right _ _) hl
 refine sq (rg (bx1 (key:=17) (φ:=int u) J fun b7=>(nl (th (sq (sq (rg (mv (bi J J b_lss (nl (th ?_)))))))))))
 refine cd J (fun hc0=> ?_) (fun hc0=> ?_)
 ·try simp at hc0
  have hn0:n=0:=by omega
  subst hn0
  refine sq (sq (rg (fF J T.fld81_0 (lF J J T.one36 (fzv 17 7 J J (mkf (cal0 (φs:= [sl 1 nE y.aP,clo 188 [fp [sl 1 nE x.aP,sl 1 nE x.next],fp [int u]]]) (φ:=bl (y.aP.any (fun o=>decide (andI u o∉x.aP)))) ⟨J,J,tV⟩ (divf.missF_ok x y.aP hy u hr hu) T.ent120 (no J (nl (th ?_))))))))))
  refine cd J (fun hc1=> ?_) (fun hc1=> ?_)
  ·skip
   have hfi:fitsB x y u=true:=by rw[←fits_any];simpa using hc1
   refine rg (lP J J J T.one36 (lF J J T.one3 (bsE (enc:=nE) (xs:= [u]) (css:= [[int u]]) T.mk36 ⟨J,J,p1 (φ:=int u) J,tV⟩ J J J J (ap (key:=70) (zs:= [u]) osl_eq J J J T.mk36 (by unfold maxL at*;simp;omega) (by unfold maxL at*;simp;omega) fun v18=>(storePO J J J J T.one36 J (nl (th (rt (rt_ ?_)))))))))
   exact rE v18 [] J [] trivial J (by first|(rw[show chs x y 0 u= [u] by unfold chs;rw[if_pos hfi]];exact⟨rI,rI,rI,tV⟩)|(rw[show chs x y 0 u= [] by unfold chs;rw[if_neg (by simp[hfi])],List.append_nil];exact⟨rI,rI,rI,tV⟩)|(rw[ech,←List.append_assoc];exact⟨rI,rI,rI,tV⟩)) eX
  ·skip
   have hfi:fitsB x y u=false:=by rw[←fits_any];simpa using hc1
   refine sk (th (rt (rt_ ?_)))
   exact rE v [] J [] trivial J (by first|(rw[show chs x y 0 u= [u] by unfold chs;rw[if_pos hfi]];exact⟨rI,rI,rI,tV⟩)|(rw[show chs x y 0 u= [] by unfold chs;rw[if_neg (by simp[hfi])],List.append_nil];exact⟨rI,rI,rI,tV⟩)|(rw[ech,←List.append_assoc];exact⟨rI,rI,rI,tV⟩)) eX
 ·try simp at hc0
  have hn1:1≤n:=by omega
  have hpw:2^n=2^ (n- 1)+2^ (n- 1):=by
   have:n=(n- 1)+1:=by omega
   rw[this,Nat.pow_succ,Nat.add_sub_cancel];omega
  have hcl:=chs_len x y (n- 1) u
  have e1:((n- 1:Nat):Int)- 1=(n:Int)- 1- 1:=by omega
  have e2:((n:Int)- 1).toNat=n- 1:=by omega
  have e3:((u.toNat|||((2^ ((n:Int)- 1).toNat:Nat):Int).toNat:Nat):Int)=((u.toNat|||2^ (n- 1):Nat):Int):=by rw[e2,Int.toNat_natCast]
  have hp0:0≤((2^ ((n:Int)- 1).toNat:Nat):Int):=Int.natCast_nonneg _
  have hp7:2^ ((n:Int)- 1).toNat≤2^7:=Nat.pow_le_pow_right O O
  have hp8:2^ (n- 1)≤2^7:=Nat.pow_le_pow_right O O
  have hu2:0≤((u.toNat|||2^ (n- 1):Nat):Int)∧((u.toNat|||2^ (n- 1):Nat):Int)<256:=⟨Int.natCast_nonneg _,by
   have:=or_lt256 (b:=((2^ (n- 1):Nat):Int)) hu.2 O
   rw[Int.toNat_natCast] at this;exact this⟩
  have hu3:0≤((u.toNat|||((2^ ((n:Int)- 1).toNat:Nat):Int).toNat:Nat):Int)∧((u.toNat|||((2^ ((n:Int)- 1).toNat:Nat):Int).toNat:Nat):Int)<256:=by rw[e3];exact hu2
  have ech:chs x y n u=chs x y (n- 1) u++chs x y (n- 1) ((u.toNat|||((2^ ((n:Int)- 1).toNat:Nat):Int).toNat:Nat):Int):=by
   rw[e3]
   obtain⟨k,rfl⟩:∃k,n=k+1:=⟨n- 1,O⟩
   rfl
  refine sk (th (sq (rg (lP J J J T.one227 (mv (bi J J (b_sub i6) (lP J J J T.one3 (callC (Hi:=chH x y c4 c5 v acc) (ι:=Value) (res:=fun _ _=>tup []) (Ho:=fun v2=>chH x y c4 c5 v2 (acc++chs x y (n- 1) u)) J (by have g:=ih (n- 1) O u v acc (by first|exact hu|exact hu3) (by first|omega|(simp;omega));unfold ChFn at g;rw[e1] at g;exact g) T.ent187 ⟨rI,rI,rI,tV⟩ fun N z0=>(nl (th (dr (nh:=7) [0,0,2,0,0,16,56,127] T.mixed kR ?_)))))))))))
  refine st_ J (fun _ _ _ gq kq=>lP (gq.1.trans J) J J T.one227 kq) ?_
  refine st_ J (fun _ _ _ gq kq=>mv' (gq.1.trans J) kq) ?_
  refine st_ J (fun _ _ _ gq kq=>bi (gq.1.trans J) J (b_sub i6) kq) ?_
  refine st_ J (fun _ _ _ gq kq=>lP (gq.1.trans J) J J T.one3 kq) ?_
  refine st_ J (fun _ _ _ gq kq=>mv' (gq.1.trans J) kq) ?_
  refine st_ J (fun _ _ _ gq kq=>bi J (gq.1.trans J) (b_shlI O O) kq) ?_
  refine st_ J (fun _ _ _ gq kq=>bi (gq.1.trans J) (gq.2.1.trans J) (b_orI O O O O) kq) ?_
  refine pn (callC (Hi:=chH x y c4 c5 z0 (acc++chs x y (n- 1) u)) (ι:=Value) (res:=fun _ _=>tup []) (Ho:=fun v2=>chH x y c4 c5 v2 ((acc++chs x y (n- 1) u)++chs x y (n- 1) ((u.toNat|||((2^ ((n:Int)- 1).toNat:Nat):Int).toNat:Nat):Int))) J (by have g:=ih (n- 1) O ((u.toNat|||((2^ ((n:Int)- 1).toNat:Nat):Int).toNat:Nat):Int) z0 (acc++chs x y (n- 1) u) (by first|exact hu|exact hu3) (by first|omega|(simp;omega));unfold ChFn at g;rw[e1] at g;exact g) T.ent187 ⟨rI,rI,rI,tV⟩ fun N z1=>(nl ?_))
  exact rE z1 [] J [] trivial J (by first|(rw[show chs x y 0 u= [u] by unfold chs;rw[if_pos hfi]];exact⟨rI,rI,rI,tV⟩)|(rw[show chs x y 0 u= [] by unfold chs;rw[if_neg (by simp[hfi])],List.append_nil];exact⟨rI,rI,rI,tV⟩)|(rw[ech,←List.append_assoc];exact⟨rI,rI,rI,tV⟩)) eX
theorem choose_ok (x y:SA) (hr:rising x.aP=true) (hy:∀k,k<y.aP.length→0≤ix y.aP k∧ix y.aP k<256) (c4 c5:Nat):∀(n:Nat),n≤8→∀(u:Int) (v:Value) (acc:List Int),(0≤u∧u<256)→acc.length+2^n≤1000→ChFn x y c4 c5 n u v acc
 |0,hn,u,v,acc,hu,hl=>step_ok x y hr hy 0 hn c4 c5 (fun k hk=>absurd hk O) u v acc hu hl
 |k+1,hn,u,v,acc,hu,hl=>step_ok x y hr hy (k+1) hn c4 c5 (fun j hj u2 v2 acc2 hu2 hl2=>by
   obtain rfl:j=k:=by omega
   exact choose_ok x y hr hy c4 c5 j O u2 v2 acc2 hu2 hl2) u v acc hu hl
end divc
end
section
open ref01 ref03 ref04 ref06 prog prog2 prog3 prog6 prog13 Part Rungs LeftM TrimM RoundM MergeM BisM BisM4 BisM5 WalkM StepM WitM JudgM JudgM2 refw judg wit refj sysw divr divs divd dive divg divw divv LevM LevM2 QuoM FailM FitM
def met5:M5→List AV:=fun m=> [int m.x,int m.t,int m.s,int m.before,int m.action]
instance (m:M5):OneAll (met5 m):=inferInstanceAs (OneAll [int m.x,int m.t,int m.s,int m.before,int m.action])
theorem tri_dom {a b c:Int} (h1: -9223372036854775808≤a∧a≤9223372036854775807) (h2: -9223372036854775808≤b∧b≤9223372036854775807) (h3: -9223372036854775808≤c∧c≤9223372036854775807):triD (a,b,c):=⟨h1,h2,h3⟩
theorem offE_lt {es:List (Int × Int)} (h:∀e∈es,0≤e.1∧e.1<8):0≤offE es∧offE es<256:=by
 refine⟨orAll_nn _,orAll_lt _ fun u hu=> ?_⟩
 obtain⟨e,he,rfl⟩:=List.mem_map.1 hu
 have:=h e he
 have h2:2^e.1.toNat≤2^7:=Nat.pow_le_pow_right O O
 omega
theorem fineX_ok {x:SSys} {t s:SS} (h:fineX x t s=0):sysOK x=true∧specOK t=true∧specOK s=true∧x.aC=t.aC∧t.aC=s.aC:=by
 unfold fineX at h
 split at h
 ·next g1=>
  split at h
  ·next g2=>
   split at h
   ·next g3=>
    obtain⟨a,b,c⟩:=Go.Proofs.YtcjemmihcplgdaaGreatDoor.fine_ok g2
    exact⟨g1,a,b,g3,c⟩
   ·exact absurd h (by decide)
  ·next g2=>exact absurd h g2
 ·exact absurd h (by decide)
namespace T
theorem map266:MapT Tryz.prog 266 265 4 triV triD:=mapT_tri Tryz.underlying266 Tryz.underlying265 kR (by decide+kernel) kR kR ⟨rfl,rfl,by kernel_rfl,by kernel_rfl⟩ ⟨rfl,rfl,by kernel_rfl,by kernel_rfl⟩ ⟨rfl,rfl,by kernel_rfl,by kernel_rfl⟩ kR kR
theorem st265:StructT Tryz.prog 265 [(0,1),(1,1),(2,1)] [.int .i64 0,.int .i64 0,.int .i64 0]:=structT_of kR kR
theorem st268:StructT Tryz.prog 268 [(0,3),(3,1),(4,1)] [.int .i64 0,.int .i64 0,.int .i64 0,.int .i64 0,.int .i64 0]:=structT_of kR kR
theorem mk269:MakeT Tryz.prog 269 268 5 40 [.int .i64 0,.int .i64 0,.int .i64 0,.int .i64 0,.int .i64 0]:=makeT_of kR kR
theorem sl269:IsSlice Tryz.prog 269 268 5:=isSlice_of kR
theorem fld268_0:FieldAt Tryz.prog 268 0 0:=fieldAt_of kR
theorem agg265:IsAgg Tryz.prog 265 3:=isAgg_of kR
theorem z265:ZeroIs Tryz.prog 265 [.int .i64 0,.int .i64 0,.int .i64 0]:=zeroIs_of kR
theorem fld265_0:FieldAt Tryz.prog 265 0 0:=fieldAt_of kR
theorem ent85:Ent Tryz.prog 85:=ent_of kR
theorem fld265_2:FieldAt Tryz.prog 265 2 2:=fieldAt_of kR
theorem fld265_1:FieldAt Tryz.prog 265 1 1:=fieldAt_of kR
theorem fld268_1:FieldAt Tryz.prog 268 1 3:=fieldAt_of kR
theorem fld268_2:FieldAt Tryz.prog 268 2 4:=fieldAt_of kR
theorem z132:ZeroIs Tryz.prog 132 [.bool false,.slice none 0 0,.slice none 0 0]:=zeroIs_of kR
theorem st132:StructT Tryz.prog 132 [(0,1),(1,2)] [.bool false,.slice none 0 0,.slice none 0 0]:=structT_of kR kR
theorem agg132:IsAgg Tryz.prog 132 3:=isAgg_of kR
theorem ent186:Ent Tryz.prog 186:=ent_of kR
theorem ent149:Ent Tryz.prog 149:=ent_of kR
theorem ent150:Ent Tryz.prog 150:=ent_of kR
end T
namespace divj
theorem failure_ok (x:SSys) (t s:SS) (hx:okSys x) (ht:oK t) (hs:oK s) (hu:Used s) (hxa:x.aC.length=s.aC.length) (hta:t.aC.length=s.aC.length) (hz:x.sT.length*(t.sT.length*s.sT.length)≤1000000000):
 AL.Fn Tryz.prog 186 [sys x,spec t,spec s] [] (ι:= { z:List Int × Int × Bool//FailOK x t s z }) (fun _ i=>tup [ints i.1.1,int i.1.2.1,bl i.1.2.2]) (fun _=> []):=by
 refine fnI Tryz.func186 rfl rfl (fun w0 F0=> ?_)
 have f0:=hx.few0;have f1:=ht.few0;have f2:=hs.few0;have f3:=hx.few1;have f4:=ht.few1;have f5:=hs.few1;have hn8:=hs.n8
 refine fcC (inhS 0 J) (fun hS0=> ?_)
 obtain⟨hma0,hms0,hme0⟩:=sys_lens hS0
 refine fcC (inhS 1 J) (fun hS1=> ?_)
 obtain⟨hsa1,hss1,hse1⟩:=sLn hS1
 refine fcC (inhS 2 J) (fun hS2=> ?_)
 obtain⟨hsa2,hss2,hse2⟩:=sLn hS2
 refine sq (rg (bx (key:=3) (cs:= [sl 1 rE_ x.aC,sl 1 gE x.sT]) J fun b3=>(bx (key:=4) (cs:= [sl 1 rE_ t.aC,sl 2 sE t.sT]) J fun b4=>(bx (key:=5) (cs:= [sl 1 rE_ s.aC,sl 2 sE s.sT]) J fun b5=>(ag (ag (ag (nl (th (sq (rg (mkm (key:=21) (kE:=triV) (dom:=triD) (vE:=blV) fun b21=>(bd (css:= []) T.st265 (eC (eC (eC eZ))) trivial (AL.insert (q:=(0,0,0)) (u:=true) J J agg_tri J T.map266 (tri_dom ⟨O,O⟩ ⟨O,O⟩ ⟨O,O⟩) (mv (ag (nl (th (sq (rg (bd (css:= [(3,_)]) T.st268 (eC (eC (eC (eC (eC eZ))))) ⟨J,J,p1 (φ:=int (-1)) J,tV⟩ (bsO 25 (enc:=met5) (xs:= [⟨0,0,0,(-1),0⟩]) (css:= [[int 0,int 0,int 0,int (-1),int 0]]) T.mk269 ⟨J,J,pA (cs:= [int 0,int 0,int 0,int (-1),int 0]) J,tV⟩ J J J J fun v25=>(ag (nl (th (sq (sq (rg (ag (nl (th (bk ?_))))))))))))))))))))))))))))))))
 have hI0_0:QF x t s ([⟨0,0,0,(-1),0⟩]:List M5)∧smap3 (mset ([]:List ((Int × Int × Int) × Bool)) (0,0,0) true) (([⟨0,0,0,(-1),0⟩]:List M5).map tri)∧0≤([⟨0,0,0,(-1),0⟩]:List M5).length∧∀j,j<0→DoneF x t s ([⟨0,0,0,(-1),0⟩]:List M5) j:=by
  exact⟨qf_zero,smap3_zero,by simp,fun k hk=>absurd hk O⟩
 refine lp (κ:=Nat × Value × (List M5) × (List ((Int × Int × Int) × Bool))) (fun p=> [(3,ptr 3 b3 0),(4,ptr 4 b4 0),(5,ptr 5 b5 0),(9,mpv 21 b21),(10,osl 25 p.2.1),(11,int (p.1:Int))]) (fun p=> [(3,cell b3 [sl 1 rE_ x.aC,sl 1 gE x.sT]),(4,cell b4 [sl 1 rE_ t.aC,sl 2 sE t.sT]),(5,cell b5 [sl 1 rE_ s.aC,sl 2 sE s.sT]),(21,mp b21 triV triD blV p.2.2.2),(25,own p.2.1 268 5 met5 p.2.2.1)]) (fun p=>QF x t s p.2.2.1∧smap3 p.2.2.2 (p.2.2.1.map tri)∧p.1≤p.2.2.1.length∧∀j,j<p.1→DoneF x t s p.2.2.1 j) (fun p=>x.sT.length*(t.sT.length*s.sT.length)- p.1) ⟨0,v25,([⟨0,0,0,(-1),0⟩]:List M5),mset ([]:List ((Int × Int × Int) × Bool)) (0,0,0) true⟩ hI0_0 ⟨id,id,id,id,id,id,tV⟩ ⟨rI,rI,rI,rI,rI,tV⟩ ?_
 intro⟨i,v,q,mm⟩ hG0
 obtain⟨hq,hsm,hil,hdone⟩:QF x t s q∧smap3 mm (q.map tri)∧i≤q.length∧∀j,j<i→DoneF x t s q j:=hG0
 show Ct _ _ _ _ [(3,ptr 3 b3 0),(4,ptr 4 b4 0),(5,ptr 5 b5 0),(9,mpv 21 b21),(10,osl 25 v),(11,int (i:Int))] [(3,cell b3 [sl 1 rE_ x.aC,sl 1 gE x.sT]),(4,cell b4 [sl 1 rE_ t.aC,sl 2 sE t.sT]),(5,cell b5 [sl 1 rE_ s.aC,sl 2 sE s.sT]),(21,mp b21 triV triD blV mm),(25,own v 268 5 met5 q)] _
 have hql:=qf_len hx ht hs hu hxa hq
 refine sq (sq (rg (mv (mv (lnO J J T.sl269 (bi J J b_lss (nl (th ?_))))))))
 refine cd J (fun hc0=> ?_) (fun hc0=> ?_)
 ·try simp at hc0
  have hbx:0≤(ix q i).x∧(ix q i).x<(x.sT.length:Int)∧0≤(ix q i).t∧(ix q i).t<(t.sT.length:Int)∧0≤(ix q i).s∧(ix q i).s<(s.sT.length:Int):=rch3_box hx ht hs hu hxa (hq.rch _ (ix_memS hc0))
  obtain⟨hb0,hb1,hb2,hb3,hb4,hb5⟩:=hbx
  have hst:=ht.st (ix q i).t.toNat O
  have hss:=hs.st (ix q i).s.toNat O
  have hsl:=hss.len
  have htl:=hst.len
  have hacl:=hss.acl
  have hoff:∀e∈(ix x.sT (ix q i).x.toNat),0≤e.1∧e.1<8:=fun e he=>by have:=hx.ed (ix q i).x.toNat O e he;have:=hx.n8;omega
  have hof:=offE_lt hoff
  refine sk (th (sq (bk (sq (rg (mv (mv (iO J J J T.sl269 O O (fO J T.fld268_0 (lOA J J gB T.agg265 (by decide) (al (key:=12) T.z265 (eC (eC (eC eZ))) fun b12=>(sPA (cs':= [int (ix q i).x,int (ix q i).t,int (ix q i).s]) J J J T.agg265 J J (nl (th (sq (rg (fP J T.fld43_1 (lP J J J T.one41 (fP J T.fld265_0 (lP J J J T.one3 (iF J J T.sl41 O gB (lF J J T.one103 (cal0 (φs:= [sl 2 pE (ix x.sT (ix q i).x.toNat)]) (φ:=int (offE (ix x.sT (ix q i).x.toNat))) ⟨J,tV⟩ (sysw.Offers_ok (ix x.sT (ix q i).x.toNat) aS) T.ent85 (ag (nl (th (sq (sq (rg (fP J T.fld25_1 (lP J J J T.one23 (fP J T.fld265_2 (lP J J J T.one3 (iF J J T.sl23 O gB (fF J T.fld81_0 (lF J J T.one36 (fc (slenI 50 J) fun hm50=>(lnF J T.sl36 (mv (nl (th (bk ?_))))))))))))))))))))))))))))))))))))))))))
  have hI1_0:0≤(ix s.sT (ix q i).s.toNat).aP.length:=by
   first|omega|simp
  have hI1_1:∀j,j<0→andI (offM x (ix q i).x.toNat) (ix (ix s.sT (ix q i).s.toNat).aP j)∈acc t (ix q i).t.toNat:=by
   intro j hj;omega
  refine lp (κ:=Nat) (fun p=> [(3,ptr 3 b3 0),(4,ptr 4 b4 0),(5,ptr 5 b5 0),(9,mpv 21 b21),(10,osl 25 v),(11,int (i:Int)),(12,ptr 12 b12 0),(13,int (offE (ix x.sT (ix q i).x.toNat))),(50,sl 1 nE (ix s.sT (ix q i).s.toNat).aP),(51,int ((ix s.sT (ix q i).s.toNat).aP.length:Int)),(52,int (p:Int))]) (fun p=> [(3,cell b3 [sl 1 rE_ x.aC,sl 1 gE x.sT]),(4,cell b4 [sl 1 rE_ t.aC,sl 2 sE t.sT]),(5,cell b5 [sl 1 rE_ s.aC,sl 2 sE s.sT]),(12,cell b12 [int (ix q i).x,int (ix q i).t,int (ix q i).s]),(21,mp b21 triV triD blV mm),(25,own v 268 5 met5 q)]) (fun p=>(p≤(ix s.sT (ix q i).s.toNat).aP.length)∧(∀j,j<p→andI (offM x (ix q i).x.toNat) (ix (ix s.sT (ix q i).s.toNat).aP j)∈acc t (ix q i).t.toNat)) (fun p=>(ix s.sT (ix q i).s.toNat).aP.length- p) 0 ⟨hI1_0,hI1_1⟩ ⟨id,id,id,id,id,id,id,id,id,id,id,tV⟩ ⟨rI,rI,rI,rI,rI,rI,tV⟩ ?_
  intro k1 hG1
  obtain⟨hk1,hI1⟩:(k1≤(ix s.sT (ix q i).s.toNat).aP.length)∧(∀j,j<k1→andI (offM x (ix q i).x.toNat) (ix (ix s.sT (ix q i).s.toNat).aP j)∈acc t (ix q i).t.toNat):=hG1
  refine sq (rg (bi J J b_lss (nl (th (sq ?_)))))
  refine cd J (fun hc1=> ?_) (fun hc1=> ?_)
  ·try simp at hc1
   have hkb:=hss.ac k1 O
   refine sk (th (sq (bk (sq (rg (iF J J T.sl36 O gB (lF J J T.one3 (ag (nl (th (sq (rg (fP J T.fld25_1 (lP J J J T.one23 (fP J T.fld265_1 (lP J J J T.one3 (iF J J T.sl23 O gB (lFA J T.agg81 (Nat.le_of_ble_eq_true J) (mv (mv (bi J J (b_andI O O O O) (cal0 (φs:= [agg [sl 1 nE (ix t.sT (ix q i).t.toNat).aP,sl 1 nE (ix t.sT (ix q i).t.toNat).next],int (((offE (ix x.sT (ix q i).x.toNat)).toNat&&&(ix (ix s.sT (ix q i).s.toNat).aP k1).toNat:Nat):Int)]) (φ:=bl (decide ((((offE (ix x.sT (ix q i).x.toNat)).toNat&&&(ix (ix s.sT (ix q i).s.toNat).aP k1).toNat:Nat):Int)∈(ix t.sT (ix q i).t.toNat).aP))) ⟨J,J,tV⟩ (search.Accepts_ok (ix t.sT (ix q i).t.toNat) hst.rise (((offE (ix x.sT (ix q i).x.toNat)).toNat&&&(ix (ix s.sT (ix q i).s.toNat).aP k1).toNat:Nat):Int)) T.ent126 (no J (nl (th ?_)))))))))))))))))))))))))
   refine cd J (fun hc2=> ?_) (fun hc2=> ?_)
   ·skip
    have hbad:andI (offM x (ix q i).x.toNat) (ix (ix s.sT (ix q i).s.toNat).aP k1)∉acc t (ix q i).t.toNat:=by unfold andI;simpa using hc2
    refine sq (rg (nw 16 3 1 nE (ag (rtg (key:=16) 16 J (nl (th (sq (sq (rg (mv (ag (nl (th (bk ?_))))))))))))))
    have hI2_0:0≤(i:Int)∧(i:Int)<(q.length:Int)∧([]:List Int)++upF (q.map toMt) (i+1) (i:Int).toNat=upF (q.map toMt) (i+1) i∧(i:Int).toNat<(i+1)∧([]:List Int).length+(i:Int).toNat≤i:=by
     exact⟨O,O,by rw[Int.toNat_natCast];rfl,O,by simp⟩
    refine lp (κ:=Nat × Int × Value × (List Int)) (fun p=> [(3,ptr 3 b3 0),(4,ptr 4 b4 0),(5,ptr 5 b5 0),(9,mpv 21 b21),(10,osl 25 v),(11,int (i:Int)),(12,ptr 12 b12 0),(13,int (offE (ix x.sT (ix q i).x.toNat))),(15,int (ix (ix s.sT (ix q i).s.toNat).aP k1)),(16,osl 16 p.2.2.1),(17,int p.2.1),(50,sl 1 nE (ix s.sT (ix q i).s.toNat).aP),(51,int ((ix s.sT (ix q i).s.toNat).aP.length:Int)),(52,int (k1:Int))]) (fun p=> [(3,cell b3 [sl 1 rE_ x.aC,sl 1 gE x.sT]),(4,cell b4 [sl 1 rE_ t.aC,sl 2 sE t.sT]),(5,cell b5 [sl 1 rE_ s.aC,sl 2 sE s.sT]),(12,cell b12 [int (ix q i).x,int (ix q i).t,int (ix q i).s]),(16,own p.2.2.1 3 1 nE p.2.2.2),(21,mp b21 triV triD blV mm),(25,own v 268 5 met5 q)]) (fun p=>0≤p.2.1∧p.2.1<(q.length:Int)∧p.2.2.2++upF (q.map toMt) p.1 p.2.1.toNat=upF (q.map toMt) (i+1) i∧p.2.1.toNat<p.1∧p.2.2.2.length+p.2.1.toNat≤i) (fun p=>p.2.1.toNat) ⟨i+1,(i:Int),(.slice none 0 0),([]:List Int)⟩ hI2_0 ⟨id,id,id,id,id,id,id,id,id,id,id,id,id,id,tV⟩ ⟨rI,rI,rI,rI,rI,rI,rI,tV⟩ ?_
    intro⟨n,j,v16,out⟩ hG2
    obtain⟨hj0,hjl,hou,hjn,hol⟩:0≤j∧j<(q.length:Int)∧out++upF (q.map toMt) n j.toNat=upF (q.map toMt) (i+1) i∧j.toNat<n∧out.length+j.toNat≤i:=hG2
    show Ct _ _ _ _ [(3,ptr 3 b3 0),(4,ptr 4 b4 0),(5,ptr 5 b5 0),(9,mpv 21 b21),(10,osl 25 v),(11,int (i:Int)),(12,ptr 12 b12 0),(13,int (offE (ix x.sT (ix q i).x.toNat))),(15,int (ix (ix s.sT (ix q i).s.toNat).aP k1)),(16,osl 16 v16),(17,int j),(50,sl 1 nE (ix s.sT (ix q i).s.toNat).aP),(51,int ((ix s.sT (ix q i).s.toNat).aP.length:Int)),(52,int (k1:Int))] [(3,cell b3 [sl 1 rE_ x.aC,sl 1 gE x.sT]),(4,cell b4 [sl 1 rE_ t.aC,sl 2 sE t.sT]),(5,cell b5 [sl 1 rE_ s.aC,sl 2 sE s.sT]),(12,cell b12 [int (ix q i).x,int (ix q i).t,int (ix q i).s]),(16,own v16 3 1 nE out),(21,mp b21 triV triD blV mm),(25,own v 268 5 met5 q)] _
    have hjm:ix (q.map toMt) j.toNat=toMt (ix q j.toNat):=ix_toMt O
    have hbk:0≤(ix q j.toNat).before→(ix q j.toNat).before<((j.toNat:Nat):Int):=by
     have h:=qf_back hq j.toNat (by simp;omega)
     rw[hjm] at h;exact h
    refine sq (sq (rg (mv (mv (iO J J J T.sl269 O O (fO J T.fld268_1 (lO J J gB J T.one3 (bi J J b_geq (nl (th ?_))))))))))
    refine cd J (fun hc3=> ?_) (fun hc3=> ?_)
    ·try simp at hc3
     refine sk (th (sq (bk (rg (mv (mv (mv (iO J J J T.sl269 O O (fO J T.fld268_2 (lO J J gB J T.one3 (bsE (enc:=nE) (xs:= [(ix q j.toNat).action]) (css:= [[int (ix q j.toNat).action]]) T.mk36 ⟨J,J,p1 (φ:=int (ix q j.toNat).action) J,tV⟩ J J J J (ap (key:=16) (zs:= [(ix q j.toNat).action]) osl_eq J J J T.mk36 (by unfold maxL at*;simp;omega) (by unfold maxL at*;simp;omega) fun v86=>(ag (nl (eb (th (rg (mv (mv (iO J J J T.sl269 O O (fO J T.fld268_1 (lO J J gB J T.one3 (ag (nl ?_))))))))))))))))))))))))
     have hN0:0≤(ix q j.toNat).before∧(ix q j.toNat).before<(q.length:Int)∧(out++ [(ix q j.toNat).action])++upF (q.map toMt) (n- 1) (ix q j.toNat).before.toNat=upF (q.map toMt) (i+1) i∧(ix q j.toNat).before.toNat<(n- 1)∧(out++ [(ix q j.toNat).action]).length+(ix q j.toNat).before.toNat≤i:=by
      have hbk2:=hbk hc3
      have hup:=upF_up hou hjn (by rw[hjm];exact hc3)
      rw[hjm] at hup
      exact⟨hc3,O,hup,O,by simp;omega⟩
     exact ln (⟨n- 1,(ix q j.toNat).before,v86,out++ [(ix q j.toNat).action]⟩:Nat × Int × Value × (List Int)) hN0 (by have hbk2:=hbk hc3;show(ix q j.toNat).before.toNat<j.toNat;omega) ⟨id,id,id,id,id,id,id,id,id,id,id,id,id,id,tV⟩ ⟨rI,rI,rI,rI,rI,rI,rI,tV⟩
    ·try simp at hc3
     have hwd:=upF_top hou hjn (by rw[hjm];show ¬0≤(ix q j.toNat).before;omega)
     refine ex (xt_ (xt_ (xb (th (sq (rg (mv (cal (Hi:= [(16,own v16 3 1 nE out)]) (φs:= [osl 5 v16]) ⟨osl_is.trans osl_is.symm,tV⟩ (rekeyIO 5 16 (judg.Reverse_ok v16 out O)) T.ent173 ⟨rI,tV⟩ fun _ _=>(nl (th (sq (rg (mv (mv (ag (ag (ag (nl (th (rt (rb (rt_ (rt_ (rb (rt_ (rb (rt_ (rt_ (rb (rt_ ?_))))))))))))))))))))))))))))))
     refine fzA 16 6 rfl rfl ?_
     exact rE ⟨(out.reverse,ix (ix s.sT (ix q i).s.toNat).aP k1,true),⟨fun h=>(nomatch (show true=false from h)),fun _=>⟨q,i,hq,hc0,by rw[hwd];rfl,ix_memS hc1,hbad⟩⟩⟩ [.tmp 6,.tmp 7,.tmp 8] J [sl 1 nE out.reverse,int (ix (ix s.sT (ix q i).s.toNat).aP k1),bl true] ⟨.tmp J,.tmp J,.tmp J,tV⟩ J trivial eX
   ·skip
    have hgood:andI (offM x (ix q i).x.toNat) (ix (ix s.sT (ix q i).s.toNat).aP k1)∈acc t (ix q i).t.toNat:=by unfold andI;simpa using hc2
    refine sk (eb (th (rg (bi J J (b_add i6) (mv (nl ?_))))))
    have hN0:(k1+1)≤(ix s.sT (ix q i).s.toNat).aP.length:=by
     first|omega|simp_all
    have hN1:∀j,j<(k1+1)→andI (offM x (ix q i).x.toNat) (ix (ix s.sT (ix q i).s.toNat).aP j)∈acc t (ix q i).t.toNat:=by
     intro j hj
     by_cases g:j=k1
     ·subst g;exact hgood
     ·exact hI1 j O
    exact ln (k1+1) ⟨hN0,hN1⟩ dO ⟨id,id,id,id,id,id,id,id,id,id,id,tV⟩ ⟨rI,rI,rI,rI,rI,rI,tV⟩
  ·try simp at hc1
   have hnb:¬Bad3 x t s (tri (ix q i)):=by
    rintro⟨o,ho,hn⟩
    obtain⟨j,hj,rfl⟩:=List.getElem_of_mem ho
    have h9:j<(ix s.sT (ix q i).s.toNat).aP.length:=hj
    have h8:=hI1 j O
    rw[ix_get h9] at h8
    exact hn h8
   refine ex (xt_ (xt_ (xb (th (sq (rg (fP J T.fld43_1 (lP J J J T.one41 (fP J T.fld265_0 (lP J J J T.one3 (iF J J T.sl41 O gB (lF J J T.one103 (fc (slenI 97 J) fun hm97=>(lnF J T.sl103 (mv (nl (th (bk ?_))))))))))))))))))
   have hI3_0:0≤(ix x.sT (ix q i).x.toNat).length:=by
    first|omega|simp
   have hI3_1:MidF x t s q i 0 q mm:=by
    exact midf_zero hq hsm hdone
   refine lp (κ:=Nat × Value × (List M5) × (List ((Int × Int × Int) × Bool))) (fun p=> [(3,ptr 3 b3 0),(4,ptr 4 b4 0),(5,ptr 5 b5 0),(9,mpv 21 b21),(10,osl 25 p.2.1),(11,int (i:Int)),(12,ptr 12 b12 0),(97,sl 2 pE (ix x.sT (ix q i).x.toNat)),(98,int ((ix x.sT (ix q i).x.toNat).length:Int)),(99,int (p.1:Int))]) (fun p=> [(3,cell b3 [sl 1 rE_ x.aC,sl 1 gE x.sT]),(4,cell b4 [sl 1 rE_ t.aC,sl 2 sE t.sT]),(5,cell b5 [sl 1 rE_ s.aC,sl 2 sE s.sT]),(12,cell b12 [int (ix q i).x,int (ix q i).t,int (ix q i).s]),(21,mp b21 triV triD blV p.2.2.2),(25,own p.2.1 268 5 met5 p.2.2.1)]) (fun p=>(p.1≤(ix x.sT (ix q i).x.toNat).length)∧(MidF x t s q i p.1 p.2.2.1 p.2.2.2)) (fun p=>(ix x.sT (ix q i).x.toNat).length- p.1) ⟨0,v,q,mm⟩ ⟨hI3_0,hI3_1⟩ ⟨id,id,id,id,id,id,id,id,id,id,tV⟩ ⟨rI,rI,rI,rI,rI,rI,tV⟩ ?_
   intro⟨k3,v2,q2,mm2⟩ hG3
   obtain⟨hk3,hI3⟩:(k3≤(ix x.sT (ix q i).x.toNat).length)∧(MidF x t s q i k3 q2 mm2):=hG3
   show Ct _ _ _ _ [(3,ptr 3 b3 0),(4,ptr 4 b4 0),(5,ptr 5 b5 0),(9,mpv 21 b21),(10,osl 25 v2),(11,int (i:Int)),(12,ptr 12 b12 0),(97,sl 2 pE (ix x.sT (ix q i).x.toNat)),(98,int ((ix x.sT (ix q i).x.toNat).length:Int)),(99,int (k3:Int))] [(3,cell b3 [sl 1 rE_ x.aC,sl 1 gE x.sT]),(4,cell b4 [sl 1 rE_ t.aC,sl 2 sE t.sT]),(5,cell b5 [sl 1 rE_ s.aC,sl 2 sE s.sT]),(12,cell b12 [int (ix q i).x,int (ix q i).t,int (ix q i).s]),(21,mp b21 triV triD blV mm2),(25,own v2 268 5 met5 q2)] _
   have hq2l:=qf_len hx ht hs hu hxa hI3.qi
   refine sq (rg (bi J J b_lss (nl (th (sq ?_)))))
   refine cd J (fun hc4=> ?_) (fun hc4=> ?_)
   ·try simp at hc4
    have hed:0≤(ix (ix x.sT (ix q i).x.toNat) k3).1∧(ix (ix x.sT (ix q i).x.toNat) k3).1<(x.aC.length:Int)∧0≤(ix (ix x.sT (ix q i).x.toNat) k3).2∧(ix (ix x.sT (ix q i).x.toNat) k3).2<(x.sT.length:Int):=hx.ed (ix q i).x.toNat O _ (ix_memS hc4)
    have htn:=hst.nx (ix (ix x.sT (ix q i).x.toNat) k3).1.toNat O
    have hsn:=hss.nx (ix (ix x.sT (ix q i).x.toNat) k3).1.toNat O
    refine sk (th (sq (bk (sq (rg (iF J J T.sl103 O gB (lFA J T.agg105 (Nat.le_of_ble_eq_true J) (al (key:=19) T.z105 (eC (eC eZ)) fun b19=>(sPA (cs':= [int ((ix (ix x.sT (ix q i).x.toNat) k3).1),int ((ix (ix x.sT (ix q i).x.toNat) k3).2)]) J J J T.agg105 J J (nl (th (sq ?_))))))))))))
    refine drH (nh:=27) [0,1,0,4,0,16,60,124,252,0,512,2044,4092,0,8192,0,32768,122880,253952,516096,0,1048576,4186112,8380416,16777215,0,67108863] [(none,[]),(none,[19]),(none,[]),(none,[4]),(none,[]),(none,[12]),(none,[]),(none,[]),(none,[]),(none,[]),(none,[19]),(none,[]),(none,[]),(none,[]),(none,[5]),(none,[]),(none,[12]),(none,[]),(none,[]),(none,[]),(none,[]),(none,[19]),(none,[]),(none,[]),(none,[]),(some 20,[]),(some 20,[20])] T.mixed kR kR ?_
    refine stv (d:=103) (fun β0=>ptr 19 b19 1) [] J (fun β β' hb=>J) (fun β0 _ _ _ _ gq gh kq=>fP (gq.1.trans J) T.fld105_1 kq) ?_
    refine stv (d:=104) (fun β0=>int ((ix (ix x.sT (ix q i).x.toNat) k3).2)) [19] J (fun β β' hb=>J) (fun β0 _ _ _ _ gq gh kq=>lP (gq.1.trans J) (gh.1.trans J) J T.one3 kq) ?_
    refine stv (d:=105) (fun β0=>ptr 4 b4 1) [] J (fun β β' hb=>J) (fun β0 _ _ _ _ gq gh kq=>fP (gq.1.trans J) T.fld25_1 kq) ?_
    refine stv (d:=106) (fun β0=>sl 2 sE t.sT) [4] J (fun β β' hb=>J) (fun β0 _ _ _ _ gq gh kq=>lP (gq.1.trans J) (gh.1.trans J) J T.one23 kq) ?_
    refine stv (d:=107) (fun β0=>ptr 12 b12 1) [] J (fun β β' hb=>J) (fun β0 _ _ _ _ gq gh kq=>fP (gq.1.trans J) T.fld265_1 kq) ?_
    refine stv (d:=108) (fun β0=>int (ix q i).t) [12] J (fun β β' hb=>J) (fun β0 _ _ _ _ gq gh kq=>lP (gq.1.trans J) (gh.1.trans J) J T.one3 kq) ?_
    refine stv (d:=109) (fun β0=>fp [sl 1 nE (ix t.sT (ix q i).t.toNat).aP,sl 1 nE (ix t.sT (ix q i).t.toNat).next]) [] J (fun β β' hb=>J) (fun β0 _ _ _ _ gq gh kq=>iF (gq.1.trans J) (gq.2.1.trans J) T.sl23 O gB kq) ?_
    refine stv (d:=110) (fun β0=>fp [sl 1 nE (ix t.sT (ix q i).t.toNat).next]) [] J (fun β β' hb=>J) (fun β0 _ _ _ _ gq gh kq=>fF (gq.1.trans J) T.fld81_1 kq) ?_
    refine stv (d:=111) (fun β0=>sl 1 nE (ix t.sT (ix q i).t.toNat).next) [] J (fun β β' hb=>J) (fun β0 _ _ _ _ gq gh kq=>lF (gq.1.trans J) J T.one36 kq) ?_
    refine stv (d:=112) (fun β0=>ptr 19 b19 0) [] J (fun β β' hb=>J) (fun β0 _ _ _ _ gq gh kq=>fP (gq.1.trans J) T.fld105_0 kq) ?_
    refine stv (d:=113) (fun β0=>int ((ix (ix x.sT (ix q i).x.toNat) k3).1)) [19] J (fun β β' hb=>J) (fun β0 _ _ _ _ gq gh kq=>lP (gq.1.trans J) (gh.1.trans J) J T.one3 kq) ?_
    refine stv (d:=114) (fun β0=>fp [int (ix (ix t.sT (ix q i).t.toNat).next ((ix (ix x.sT (ix q i).x.toNat) k3).1).toNat)]) [] J (fun β β' hb=>J) (fun β0 _ _ _ _ gq gh kq=>iF (gq.1.trans J) (gq.2.1.trans J) T.sl36 O gB kq) ?_
    refine stv (d:=115) (fun β0=>int (ix (ix t.sT (ix q i).t.toNat).next ((ix (ix x.sT (ix q i).x.toNat) k3).1).toNat)) [] J (fun β β' hb=>J) (fun β0 _ _ _ _ gq gh kq=>lF (gq.1.trans J) J T.one3 kq) ?_
    refine stv (d:=116) (fun β0=>ptr 5 b5 1) [] J (fun β β' hb=>J) (fun β0 _ _ _ _ gq gh kq=>fP (gq.1.trans J) T.fld25_1 kq) ?_
    refine stv (d:=117) (fun β0=>sl 2 sE s.sT) [5] J (fun β β' hb=>J) (fun β0 _ _ _ _ gq gh kq=>lP (gq.1.trans J) (gh.1.trans J) J T.one23 kq) ?_
    refine stv (d:=118) (fun β0=>ptr 12 b12 2) [] J (fun β β' hb=>J) (fun β0 _ _ _ _ gq gh kq=>fP (gq.1.trans J) T.fld265_2 kq) ?_
    refine stv (d:=119) (fun β0=>int (ix q i).s) [12] J (fun β β' hb=>J) (fun β0 _ _ _ _ gq gh kq=>lP (gq.1.trans J) (gh.1.trans J) J T.one3 kq) ?_
    refine stv (d:=120) (fun β0=>fp [sl 1 nE (ix s.sT (ix q i).s.toNat).aP,sl 1 nE (ix s.sT (ix q i).s.toNat).next]) [] J (fun β β' hb=>J) (fun β0 _ _ _ _ gq gh kq=>iF (gq.1.trans J) (gq.2.1.trans J) T.sl23 O gB kq) ?_
    refine stv (d:=121) (fun β0=>fp [sl 1 nE (ix s.sT (ix q i).s.toNat).next]) [] J (fun β β' hb=>J) (fun β0 _ _ _ _ gq gh kq=>fF (gq.1.trans J) T.fld81_1 kq) ?_
    refine stv (d:=122) (fun β0=>sl 1 nE (ix s.sT (ix q i).s.toNat).next) [] J (fun β β' hb=>J) (fun β0 _ _ _ _ gq gh kq=>lF (gq.1.trans J) J T.one36 kq) ?_
    refine stv (d:=123) (fun β0=>ptr 19 b19 0) [] J (fun β β' hb=>J) (fun β0 _ _ _ _ gq gh kq=>fP (gq.1.trans J) T.fld105_0 kq) ?_
    refine stv (d:=124) (fun β0=>int ((ix (ix x.sT (ix q i).x.toNat) k3).1)) [19] J (fun β β' hb=>J) (fun β0 _ _ _ _ gq gh kq=>lP (gq.1.trans J) (gh.1.trans J) J T.one3 kq) ?_
    refine stv (d:=125) (fun β0=>fp [int (ix (ix s.sT (ix q i).s.toNat).next ((ix (ix x.sT (ix q i).x.toNat) k3).1).toNat)]) [] J (fun β β' hb=>J) (fun β0 _ _ _ _ gq gh kq=>iF (gq.1.trans J) (gq.2.1.trans J) T.sl36 O gB kq) ?_
    refine stv (d:=126) (fun β0=>int (ix (ix s.sT (ix q i).s.toNat).next ((ix (ix x.sT (ix q i).x.toNat) k3).1).toNat)) [] J (fun β β' hb=>J) (fun β0 _ _ _ _ gq gh kq=>lF (gq.1.trans J) J T.one3 kq) ?_
    refine stv (d:=127) (fun β0=>agg [int ((ix (ix x.sT (ix q i).x.toNat) k3).2),int (ix (ix t.sT (ix q i).t.toNat).next ((ix (ix x.sT (ix q i).x.toNat) k3).1).toNat),int (ix (ix s.sT (ix q i).s.toNat).next ((ix (ix x.sT (ix q i).x.toNat) k3).1).toNat)]) [] J (fun β β' hb=>J) (fun β0 _ _ _ _ gq gh kq=>bd (css:= [(0,_),(1,_),(2,_)]) T.st265 (eC (eC (eC eZ))) ⟨J,J,p1 (φ:=int ((ix (ix x.sT (ix q i).x.toNat) k3).2)) (by exact(gq.1.trans J)),⟨J,J,p1 (φ:=int (ix (ix t.sT (ix q i).t.toNat).next ((ix (ix x.sT (ix q i).x.toNat) k3).1).toNat)) (by exact(gq.2.1.trans J)),⟨J,J,p1 (φ:=int (ix (ix s.sT (ix q i).s.toNat).next ((ix (ix x.sT (ix q i).x.toNat) k3).1).toNat)) (by exact(gq.2.2.1.trans J)),tV⟩⟩⟩ kq) ?_
    refine sta 20 T.z265 (eC (eC (eC eZ))) ?_
    refine stw 20 (fun β0=>cell (gbk (β0 25)) [int ((ix (ix x.sT (ix q i).x.toNat) k3).2),int (ix (ix t.sT (ix q i).t.toNat).next ((ix (ix x.sT (ix q i).x.toNat) k3).1).toNat),int (ix (ix s.sT (ix q i).s.toNat).next ((ix (ix x.sT (ix q i).x.toNat) k3).1).toNat)]) [20] J (fun β β' hb=>by first|rw[hb 25 J]|(dsimp only;rw[hb 25 J])) (fun β0 _ _ _ _ gq gh kq=>sPA (cs':= [int ((ix (ix x.sT (ix q i).x.toNat) k3).2),int (ix (ix t.sT (ix q i).t.toNat).next ((ix (ix x.sT (ix q i).x.toNat) k3).1).toNat),int (ix (ix s.sT (ix q i).s.toNat).next ((ix (ix x.sT (ix q i).x.toNat) k3).1).toNat)]) (gq.1.trans J) (gh.1.trans J) (gq.2.1.trans J) T.agg265 J J kq) ?_
    refine pnH fun β0=>(nl (th (sq (rg (fP J T.fld265_2 (lP J J J T.one3 (bi J J b_geq (mv ?_))))))))
    apply gAnd (t:=131) (pd:=136) rfl
    rotate_left
    ·intro hg0 fin
     have hg0':=hg0
     try simp at hg0'
     exact gy J J J hg0 (mv (gy J J J hg0 (lPA J J T.agg265 J (gy J J J hg0 (lookup (z:=false) (q:=((ix (ix x.sT (ix q i).x.toNat) k3).2,ix (ix t.sT (ix q i).t.toNat).next ((ix (ix x.sT (ix q i).x.toNat) k3).1).toNat,ix (ix s.sT (ix q i).s.toNat).next ((ix (ix x.sT (ix q i).x.toNat) k3).1).toNat)) J J agg_tri T.map266 (tri_dom ⟨O,O⟩ ⟨O,O⟩ ⟨O,O⟩) T.zvb4 (gy J J J hg0 (no J (pkT J hg0 J (drp (X:= [(135,_),(134,_),(133,_),(132,_)]) ⟨J,J,J,J,tV⟩ fin)))))))))
    ·intro hg0 fin
     exact gn J J J hg0 J J (gn J J J hg0 J J (gn J J J hg0 J J (gn J J J hg0 J J (pkF J hg0 J (drp (X:= [(135,_),(134,_),(133,_),(132,_)]) ⟨J,J,J,J,tV⟩ fin)))))
    refine nl (th ?_)
    refine cd J (fun hc5=> ?_) (fun hc5=> ?_)
    ·try simp at hc5
     refine sq (rg (mv (lPA J J T.agg265 J (mapUpdate (q:=((ix (ix x.sT (ix q i).x.toNat) k3).2,ix (ix t.sT (ix q i).t.toNat).next ((ix (ix x.sT (ix q i).x.toNat) k3).1).toNat,ix (ix s.sT (ix q i).s.toNat).next ((ix (ix x.sT (ix q i).x.toNat) k3).1).toNat)) (u:=true) J J agg_tri J T.map266 (tri_dom ⟨O,O⟩ ⟨O,O⟩ ⟨O,O⟩) (nl (th (rg (mv (lPA J J T.agg265 J (mv (fP J T.fld105_0 (lP J J J T.one3 (bd (css:= [(0,_),(3,_),(4,_)]) T.st268 (eC (eC (eC (eC (eC eZ))))) ⟨J,J,pA (cs:= [int ((ix (ix x.sT (ix q i).x.toNat) k3).2),int (ix (ix t.sT (ix q i).t.toNat).next ((ix (ix x.sT (ix q i).x.toNat) k3).1).toNat),int (ix (ix s.sT (ix q i).s.toNat).next ((ix (ix x.sT (ix q i).x.toNat) k3).1).toNat)]) J,⟨J,J,p1 (φ:=int (i:Int)) J,⟨J,J,p1 (φ:=int ((ix (ix x.sT (ix q i).x.toNat) k3).1)) J,tV⟩⟩⟩ (bsE (enc:=met5) (xs:= [⟨((ix (ix x.sT (ix q i).x.toNat) k3).2),(ix (ix t.sT (ix q i).t.toNat).next ((ix (ix x.sT (ix q i).x.toNat) k3).1).toNat),(ix (ix s.sT (ix q i).s.toNat).next ((ix (ix x.sT (ix q i).x.toNat) k3).1).toNat),(i:Int),((ix (ix x.sT (ix q i).x.toNat) k3).1)⟩]) (css:= [[int ((ix (ix x.sT (ix q i).x.toNat) k3).2),int (ix (ix t.sT (ix q i).t.toNat).next ((ix (ix x.sT (ix q i).x.toNat) k3).1).toNat),int (ix (ix s.sT (ix q i).s.toNat).next ((ix (ix x.sT (ix q i).x.toNat) k3).1).toNat),int (i:Int),int ((ix (ix x.sT (ix q i).x.toNat) k3).1)]]) T.mk269 ⟨J,J,pA (cs:= [int ((ix (ix x.sT (ix q i).x.toNat) k3).2),int (ix (ix t.sT (ix q i).t.toNat).next ((ix (ix x.sT (ix q i).x.toNat) k3).1).toNat),int (ix (ix s.sT (ix q i).s.toNat).next ((ix (ix x.sT (ix q i).x.toNat) k3).1).toNat),int (i:Int),int ((ix (ix x.sT (ix q i).x.toNat) k3).1)]) J,tV⟩ J J J J (ap (key:=25) (zs:= [⟨((ix (ix x.sT (ix q i).x.toNat) k3).2),(ix (ix t.sT (ix q i).t.toNat).next ((ix (ix x.sT (ix q i).x.toNat) k3).1).toNat),(ix (ix s.sT (ix q i).s.toNat).next ((ix (ix x.sT (ix q i).x.toNat) k3).1).toNat),(i:Int),((ix (ix x.sT (ix q i).x.toNat) k3).1)⟩]) osl_eq J J J T.mk269 (by unfold maxL at*;simp;omega) (by unfold maxL at*;simp;omega) fun v146=>(ag (nl (eb (th (rg (bi J J (b_add i6) (mv (nl ?_)))))))))))))))))))))))
     have hN0:(k3+1)≤(ix x.sT (ix q i).x.toNat).length:=by
      first|omega|simp_all
     have hN1:MidF x t s q i (k3+1) (q2++ [⟨((ix (ix x.sT (ix q i).x.toNat) k3).2),(ix (ix t.sT (ix q i).t.toNat).next ((ix (ix x.sT (ix q i).x.toNat) k3).1).toNat),(ix (ix s.sT (ix q i).s.toNat).next ((ix (ix x.sT (ix q i).x.toNat) k3).1).toNat),(i:Int),((ix (ix x.sT (ix q i).x.toNat) k3).1)⟩]) (mset mm2 ((ix (ix x.sT (ix q i).x.toNat) k3).2,ix (ix t.sT (ix q i).t.toNat).next ((ix (ix x.sT (ix q i).x.toNat) k3).1).toNat,ix (ix s.sT (ix q i).s.toNat).next ((ix (ix x.sT (ix q i).x.toNat) k3).1).toNat) true):=by
      exact midf_push hI3 hc0 hnb hc4 rfl hc5.1 hc5.2
     exact ln (⟨k3+1,v146,q2++ [⟨((ix (ix x.sT (ix q i).x.toNat) k3).2),(ix (ix t.sT (ix q i).t.toNat).next ((ix (ix x.sT (ix q i).x.toNat) k3).1).toNat),(ix (ix s.sT (ix q i).s.toNat).next ((ix (ix x.sT (ix q i).x.toNat) k3).1).toNat),(i:Int),((ix (ix x.sT (ix q i).x.toNat) k3).1)⟩],mset mm2 ((ix (ix x.sT (ix q i).x.toNat) k3).2,ix (ix t.sT (ix q i).t.toNat).next ((ix (ix x.sT (ix q i).x.toNat) k3).1).toNat,ix (ix s.sT (ix q i).s.toNat).next ((ix (ix x.sT (ix q i).x.toNat) k3).1).toNat) true⟩:Nat × Value × (List M5) × (List ((Int × Int × Int) × Bool))) ⟨hN0,hN1⟩ dO ⟨id,id,id,id,id,id,id,id,id,id,tV⟩ ⟨rI,rI,rI,rI,rI,rI,tV⟩
    ·try simp at hc5
     have h5:ix (nxt s (ix q i).s.toNat) (ix (ix x.sT (ix q i).x.toNat) k3).1.toNat<0∨(mget mm2 (nx3 t s (tri (ix q i)) (ix (ix x.sT (ix q i).x.toNat) k3))).getD false=true:=by
      by_cases g:0≤ix (nxt s (ix q i).s.toNat) (ix (ix x.sT (ix q i).x.toNat) k3).1.toNat
      ·exact .inr (hc5 g)
      ·exact .inl O
     refine sk (eb (th (rg (bi J J (b_add i6) (mv (nl ?_))))))
     have hN0:(k3+1)≤(ix x.sT (ix q i).x.toNat).length:=by
      first|omega|simp_all
     have hN1:MidF x t s q i (k3+1) q2 mm2:=by
      exact midf_skip hI3 hc4 rfl h5
     exact ln (⟨k3+1,v2,q2,mm2⟩:Nat × Value × (List M5) × (List ((Int × Int × Int) × Bool))) ⟨hN0,hN1⟩ dO ⟨id,id,id,id,id,id,id,id,id,id,tV⟩ ⟨rI,rI,rI,rI,rI,rI,tV⟩
   ·try simp at hc4
    refine ex (xt_ (xt_ (xb (eb (th (rg (mv (bi J J (b_add i6) (ag (nl ?_))))))))))
    have hN0:QF x t s q2∧smap3 mm2 (q2.map tri)∧(i+1)≤q2.length∧∀j,j<(i+1)→DoneF x t s q2 j:=by
     exact midf_end hI3 hc0 hnb (by show(ix x.sT (ix q i).x.toNat).length≤k3;omega)
    exact ln (⟨i+1,v2,q2,mm2⟩:Nat × Value × (List M5) × (List ((Int × Int × Int) × Bool))) hN0 dO ⟨id,id,id,id,id,id,tV⟩ ⟨rI,rI,rI,rI,rI,tV⟩
 ·try simp at hc0
  refine ex (xt_ (xt_ (xb (th (sq (rg (ag (ag (ag (nl (th (rt ?_))))))))))))
  refine knA 6 (sl 1 nE []) rfl slnil ?_
  exact rE ⟨([],0,false),⟨fun _=>⟨J,J,fail_none hq (fun k hk=>hdone k O)⟩,fun h=>(nomatch (show false=true from h))⟩⟩ [.tmp 6,.tmp 7,.tmp 8] J [sl 1 nE [],int 0,bl false] ⟨.tmp J,.tmp J,.tmp J,tV⟩ J trivial eX
theorem judge_ok (x:SSys) (t s:SS) (hx:okSys x) (ht:oK t) (hs:oK s) (hts:t.aC=s.aC) (hxt:x.aC=t.aC) (hz:x.sT.length*(t.sT.length*s.sT.length)≤1000000000):
 AL.Fn Tryz.prog 150 [sys x,spec t,spec s] [] (ι:= { v:Bool × SSys//JdgOK x t s v }) (fun _ i=>agg [bl i.1.1,strs i.1.2.aC,sl 1 gE i.1.2.sT]) (fun _=> []):=by
 refine fnI Tryz.func150 rfl rfl (fun w0 F0=> ?_)
 have hop:=ordS_pos s
 refine fcC (inhS 0 J) (fun hS0=> ?_)
 obtain⟨hma0,hms0,hme0⟩:=sys_lens hS0
 refine fcC (inhS 1 J) (fun hS1=> ?_)
 obtain⟨hsa1,hss1,hse1⟩:=sLn hS1
 refine fcC (inhS 2 J) (fun hS2=> ?_)
 obtain⟨hsa2,hss2,hse2⟩:=sLn hS2
 refine sq (rg (bx (key:=3) (cs:= [sl 1 rE_ x.aC,sl 1 gE x.sT]) J fun b3=>(bx (key:=4) (cs:= [sl 1 rE_ t.aC,sl 2 sE t.sT]) J fun b4=>(bx (key:=5) (cs:= [sl 1 rE_ s.aC,sl 2 sE s.sT]) J fun b5=>(al (key:=6) T.z132 (eC (eC (eC eZ))) fun b6=>(nl (th (sq (rg (lPA J J T.agg25 J (calW (φs:= [agg [sl 1 rE_ s.aC,sl 2 sE s.sT]]) (φ:=tup [agg [sl 1 rE_ ((tR s).1.aC),sl 2 sE ((tR s).1.sT)],sl 1 nE ((tR s).2)]) ⟨J,tV⟩ (prog9.Trimmed_ok s aS) T.ent68 (fun N hN=>fun h=>tup_le (cs:= [agg [fre N (sl 1 rE_ ((tR s).1.aC)),frb (ix (hOl s) 0) N (sl 2 sE ((tR s).1.sT))],sl 1 nE ((tR s).2)]) (ds:= [agg [sl 1 rE_ ((tR s).1.aC),sl 2 sE ((tR s).1.sT)],sl 1 nE ((tR s).2)]) ⟨fun h=>agg_le (cs:= [fre N (sl 1 rE_ ((tR s).1.aC)),frb (ix (hOl s) 0) N (sl 2 sE ((tR s).1.sT))]) (ds:= [sl 1 rE_ ((tR s).1.aC),sl 2 sE ((tR s).1.sT)]) ⟨fun h=>nw_le h,fun h=>frb_le h,tV⟩ h,fun h=>h,tV⟩ h) (mv (xt J J (xt J J (sPA (cs':= [sl 1 rE_ ((tR s).1.aC),sl 2 sE ((tR s).1.sT)]) J J J T.agg25 J J (ag (nl (th (sq (sq (rg (mv (fc (slenI 18 J) fun hm18=>(lnF J T.sl36 (bi J J b_eql (nl (th ?_)))))))))))))))))))))))))))
 refine cd J (fun hc0=> ?_) (fun hc0=> ?_)
 ·try simp at hc0
  have hh0:ix (hOl s) 0=true:=by
   cases h:ix (hOl s) 0 with
   |true=>rfl
   |false=>
    exfalso
    rw[trimmed_not h] at hc0
    have h3:=hop
    rw[show ordS s= [] from hc0] at h3
    simp at h3
  refine sq (rg (bd (css:= [(0,_)]) T.st132 (eC (eC (eC eZ))) ⟨J,J,p1 (φ:=bl true) J,tV⟩ (sPA (cs':= [bl true,eqv (.slice none 0 0),eqv (.slice none 0 0)]) J J J T.agg132 J J (nl (th (rt (rt_ ?_)))))))
  refine kncA 6 1 (sl 1 rE_ []) rfl rfl slnil ?_
  refine kncA 6 2 (sl 1 gE []) rfl rfl slnil ?_
  exact rE ⟨(true,⟨[],[]⟩),⟨fun _=>⟨J,.inl hh0⟩,fun h=>(nomatch (show true=false from h))⟩⟩ [.cell 6 132] J [agg [bl true,sl 1 rE_ [],sl 1 gE []]] ⟨.agg J J T.agg132 J J,tV⟩ J trivial eX
 ·try simp at hc0
  have h00:ix (hOl s) 0=false:=by
   cases h:ix (hOl s) 0 with
   |false=>rfl
   |true=>exact absurd (by rw[trimmed_hol h]) hc0
  have hts2:(tR s).1=tS s:=by rw[trimmed_not h00]
  have hto:=trim_ok hs
  have htu:=trim_used hs
  have hta:=trim_acts s
  have hxa:x.aC.length=(tR s).1.aC.length:=by rw[hta,hxt,hts]
  have hya:t.aC.length=(tR s).1.aC.length:=by rw[hta,hts]
  have htl:=TrimI.trim_len hs
  have hz2:x.sT.length*(t.sT.length*(tR s).1.sT.length)≤1000000000:=Nat.le_trans (Nat.mul_le_mul_left _ (Nat.mul_le_mul_left _ htl)) hz
  refine sk (th (sq (rg (lPA J J T.agg43 J (lPA J J T.agg25 J (lPA J J T.agg25 J (cl (divj.failure_ok x t ((tR s).1) aS aS aS aS aS aS aS) T.ent186 trivial fun N26 i26=>(mv (xt J J (xt J J (xt J J (ag (ag (ag (nl (th (sq (sq (rg (mv (no J (nl (th ?_)))))))))))))))))))))))
  refine cd J (fun hc1=> ?_) (fun hc1=> ?_)
  ·try simp at hc1
   have hno:i26.1.2.2=false:=by simpa using hc1
   refine sq (rg (bd (css:= [(0,_)]) T.st132 (eC (eC (eC eZ))) ⟨J,J,p1 (φ:=bl true) J,tV⟩ (sPA (cs':= [bl true,eqv (.slice none 0 0),eqv (.slice none 0 0)]) J J J T.agg132 J J (nl (th (rt (rt_ ?_)))))))
   refine kncA 6 1 (sl 1 rE_ []) rfl rfl slnil ?_
   refine kncA 6 2 (sl 1 gE []) rfl rfl slnil ?_
   exact rE ⟨(true,⟨[],[]⟩),⟨fun _=>⟨J,.inr (i26.2.none hno).2.2⟩,fun h=>(nomatch (show true=false from h))⟩⟩ [.cell 6 132] J [agg [bl true,sl 1 rE_ [],sl 1 gE []]] ⟨.agg J J T.agg132 J J,tV⟩ J trivial eX
  ·try simp at hc1
   have hyes:i26.1.2.2=true:=by simpa using hc1
   obtain⟨q,i,hqf,hi,hw,hacc,hbad⟩:=i26.2.some hyes
   have hruns:=qf_runs hx ht hto htu hxa hqf i hi
   have halive:=hruns.1.alive hto
   have hgo:=hruns.1.go hto
   have hql:=qf_len hx ht hto htu hxa hqf
   have hwl:=wordTo_len (qf_back hqf) i (by simpa using hi)
   have hal2:Alive (tR s).1 i26.1.1:=by rw[hw];exact halive
   have hwl2:i26.1.1.length≤1000000000:=by rw[hw];show(wordTo (q.map toMt) i).length≤_;omega
   have hwants:Wants (tR s).1 (pathL (tR s).1 i26.1.1 i26.1.2.1):=by
    rw[hw]
    exact⟨pathL_mem hto halive (by rw[hgo,Int.toNat_natCast];exact hacc),fun y hy=>by rw[hts2] at hy ⊢;exact tS_ne hs h00 hy,by rw[pathL_len];show(wordTo (q.map toMt) i).length+1≤_;omega⟩
   refine sk (th (sq (rg (lPA J J T.agg25 J (mv (mv (cal0 (φs:= [agg [sl 1 rE_ ((tR s).1.aC),sl 2 sE ((tR s).1.sT)],sl 1 nE i26.1.1,int i26.1.2.1]) (φ:=tup [sl 2 pE (pathL ((tR s).1) i26.1.1 i26.1.2.1),bl (decide (i26.1.2.1∈acc ((tR s).1) (goS ((tR s).1) i26.1.1).toNat))]) ⟨J,J,J,tV⟩ (judg.Path_ok ((tR s).1) aS i26.1.1 aS i26.1.2.1 O) T.ent70 (mv (xt J J (xt J J (ag (ag (nl (th (sq (rg (lPA J J T.agg25 J (mv (cl (wit.Witness_ok ((tR s).1) aS (pathL ((tR s).1) i26.1.1 i26.1.2.1) aS) T.ent71 trivial fun N42 i42=>(bd (css:= [(1,_)]) T.st132 (eC (eC (eC eZ))) ⟨J,J,pA (cs:= [fre N42 (sl 1 rE_ i42.1.aC),fre N42 (sl 1 gE i42.1.sT)]) J,tV⟩ (sPA (cs':= [bl false,fre N42 (sl 1 rE_ i42.1.aC),fre N42 (sl 1 gE i42.1.sT)]) J J J T.agg132 J J (nl (th (rt ?_))))))))))))))))))))))))
   refine kncA 6 1 (sl 1 rE_ i42.1.aC) rfl rfl nw_le ?_
   refine kncA 6 2 (sl 1 gE i42.1.sT) rfl rfl nw_le ?_
   exact rE ⟨(false,i42.1),⟨fun h=>(nomatch (show false=true from h)),fun _=>⟨h00,q,i,i26.1.2.1,by rw[←hts2];exact hqf,hi,by rw[←hts2];exact hacc,hbad,by rw[←hts2,←hw];exact i42.2⟩⟩⟩ [.cell 6 132] J [agg [bl false,sl 1 rE_ i42.1.aC,sl 1 gE i42.1.sT]] ⟨.agg J J T.agg132 J J,tV⟩ J trivial eX
theorem Fits_ok (x:SSys) (t s:SS) (htm:smallSpec t) (hsm:smallSpec s) (hz:x.sT.length*(t.sT.length*s.sT.length)≤1000000000):
 AL.Fn Tryz.prog 102 [sys x,spec t,spec s] [] (ι:= { v:Bool × SSys//(fineX x t s≠0→v=(false,⟨[],[]⟩))∧(fineX x t s=0→JdgOK x t s v) }) (fun _ i=>tup [agg [bl i.1.1,strs i.1.2.aC,sl 1 gE i.1.2.sT],int (fineX x t s)]) (fun _=> []):=by
 refine fnI Tryz.func102 rfl rfl (fun w0 F0=> ?_)
 refine fcC (inhS 0 J) (fun hS0=> ?_)
 obtain⟨hma0,hms0,hme0⟩:=sys_lens hS0
 refine fcC (inhS 1 J) (fun hS1=> ?_)
 obtain⟨hsa1,hss1,hse1⟩:=sLn hS1
 refine fcC (inhS 2 J) (fun hS2=> ?_)
 obtain⟨hsa2,hss2,hse2⟩:=sLn hS2
 refine sq (rg (bx (key:=3) (cs:= [sl 1 rE_ x.aC,sl 1 gE x.sT]) J fun b3=>(bx (key:=4) (cs:= [sl 1 rE_ t.aC,sl 2 sE t.sT]) J fun b4=>(bx (key:=5) (cs:= [sl 1 rE_ s.aC,sl 2 sE s.sT]) J fun b5=>(al (key:=6) T.z132 (eC (eC (eC eZ))) fun b6=>(ag (nl (th (sq (sq (rg (lPA J J T.agg43 J (lPA J J T.agg25 J (lPA J J T.agg25 J (cal0 (φs:= [agg [sl 1 rE_ x.aC,sl 1 gE x.sT],agg [sl 1 rE_ t.aC,sl 2 sE t.sT],agg [sl 1 rE_ s.aC,sl 2 sE s.sT]]) (φ:=int (fineX x t s)) ⟨J,J,J,tV⟩ (divv.fine_ok x t s aS aS) T.ent149 (ag (nl (th (sq (rg (mv (bi J J b_neq (nl (th ?_))))))))))))))))))))))))
 refine cd J (fun hc0=> ?_) (fun hc0=> ?_)
 ·try simp at hc0
  refine sq (rg (bd (css:= []) T.st132 (eC (eC (eC eZ))) trivial (mv (sPA (cs':= [bl false,eqv (.slice none 0 0),eqv (.slice none 0 0)]) J J J T.agg132 J J (ag (nl (th (rt (rt_ ?_)))))))))
  refine kncA 6 1 (sl 1 rE_ []) rfl rfl slnil ?_
  refine kncA 6 2 (sl 1 gE []) rfl rfl slnil ?_
  exact rE ⟨(false,⟨[],[]⟩),⟨fun _=>J,fun h=>absurd h hc0⟩⟩ [.cell 6 132,.tmp 7] J [agg [bl false,sl 1 rE_ [],sl 1 gE []],int (fineX x t s)] ⟨.agg J J T.agg132 J J,.tmp J,tV⟩ J trivial eX
 ·try simp at hc0
  obtain⟨hxv,htv,hsv,hxt,hts⟩:=fineX_ok hc0
  have hx:=sysOK_ok hxv
  have ht:=okSpec_of htv
  have hs:=okSpec_of hsv
  refine sk (th (sq (rg (lPA J J T.agg43 J (lPA J J T.agg25 J (lPA J J T.agg25 J (cl (divj.judge_ok x t s aS aS aS aS aS aS) T.ent150 trivial fun N20 i20=>(sPA (cs':= [bl i20.1.1,sl 1 rE_ i20.1.2.aC,sl 1 gE i20.1.2.sT]) J J J T.agg132 J J (ag (nl (th (rt ?_))))))))))))
  have hr0:(0:Int)=(fineX x t s):=by
   exact hc0.symm
  exact rE ⟨i20.1,⟨fun h=>absurd hc0 h,fun _=>i20.2⟩⟩ [.cell 6 132,.tmp 7] J [agg [bl i20.1.1,sl 1 rE_ i20.1.2.aC,sl 1 gE i20.1.2.sT],int 0] ⟨.agg J J T.agg132 J J,.tmp J,tV⟩ (cA1 (fun x0=>rV [agg [bl i20.1.1,sl 1 rE_ i20.1.2.aC,sl 1 gE i20.1.2.sT],int x0]) hr0) trivial eX
end divj
end
end Go.Proofs.YtcjemmihcplgdaaGreatDoor
