/- The walks of the functions and the plain laws. Own texts of this claim, packed: Zddivp, Zdprodm, ZdFitM, ZdPartM, ZdCompP, ZdEncM, Zdprodp, ZdForkM, Zdprodk, ZdSevM, Zdprods, ZdLawS, ZdLawT, Zdsatj, ZdBesM. -/
import Derived.Test.YtcjemmihcplgdaaGreatDoorX15
import Derived.Test.YtcjemmihcplgdaaGreatDoorX16
import Derived.Test.YtcjemmihcplgdaaGreatDoorX23
import Derived.Test.YtcjemmihcplgdaaGreatDoorX22
import Derived.Test.YtcjemmihcplgdaaGreatDoorX18
import Derived.Test.YtcjemmihcplgdaaGreatDoorX21
import Derived.Test.YtcjemmihcplgdaaGreatDoorX19
import Derived.Test.YtcjemmihcplgdaaGreatDoorX11
import Derived.Test.YtcjemmihcplgdaaGreatDoorX07
import Derived.Test.YtcjemmihcplgdaaGreatDoorX08
import Derived.Test.YtcjemmihcplgdaaGreatDoorX13
set_option linter.all false
namespace Go.Proofs.YtcjemmihcplgdaaGreatDoor
open AL Go
set_option maxRecDepth 100000
section
open ref01 ref03 ref04 ref06 prog prog2 prog3 prog6 Part Rungs LeftM QuoM
namespace divp
end divp
end
section
open ref01 ref03 ref04 ref06 prog prog2 prog3 prog4 prog5 prog6 prog7 prog8 prog9 prog13 starts Part Rungs LeftM TrimM Itoa Keys RoundM MergeM BisM BisM4 BisM5 WalkM StepM WitM JudgM JudgM2 refw judg wit refj sysw divr divs divd dive divg divw divv LevM LevM2 ChsM TrimI QuoM FailM DivM RefM GenW CompM CrossM prodc divp
namespace prodm
end prodm
end
section
namespace FitM
open ref01 ref03 ref04 ref06 prog15 starts Part Rungs LeftM TrimM RoundM MergeM BisM BisM4 BisM5 BisM6 WalkM StepM WitM JudgM LevM LevM2 divr divs divd dive divg divw divv refj sysw ChsM BisS TrimI ValidM WitSat WitVal QuoM FailM DivM
structure JdgOK (x:SSys) (t s:SS) (v:Bool × SSys):Prop where
 yes:v.1=true→v.2=⟨[],[]⟩∧(ix (hOl s) 0=true∨Well3 x t (tR s).1)
 no:v.1=false→ix (hOl s) 0=false∧∃q i u,QF x t (tS s) q∧i<q.length∧u∈acc (tS s) (ix q i).s.toNat∧andI (offM x (ix q i).x.toNat) u∉acc t (ix q i).t.toNat∧WitOK (tS s) (pathL (tS s) (wordF q i) u) v.2
def BadT (m n:SSys) (t:SS) (p:T3):Prop:=andI (offM m p.1.toNat) (offM n p.2.1.toNat)∉acc t p.2.2.toNat
inductive RchT (m n:SSys) (t:SS):T3→Prop
 |zero:RchT m n t (0,0,0)
 |step {p:T3} {d e:PP}:RchT m n t p→¬BadT m n t p→d∈edg m p.1.toNat→e∈edg n p.2.1.toNat→d.1=e.1→RchT m n t (d.2,e.2,ix (nxt t p.2.2.toNat) d.1.toNat)
section
variable {x:SSys} {t T:SS} {q:List M5} {i:Nat} {u:Int} {m:SSys}
theorem want_zero (T:SS) (w:List Int) (u:Int):(firstW T (pathL T w u)).1=0:=by
 unfold firstW
 rw[if_pos (by rw[pathL_len];omega)]
 rcases Nat.eq_zero_or_pos w.length with e|e
 ·have h:=pathL_end (T:=T) (w:=w) (u:=u)
  rw[e] at h
  rw[h];exact xAt_zero T w
 ·rw[pathL_at e]
  show xAt T w 0=0
  exact xAt_zero T w
end
end FitM
end
section
namespace PartM
open ref01 ref03 ref04 ref06 prog15 starts Part Rungs LeftM TrimM RoundM MergeM BisM BisM4 BisM5 BisM6 WalkM StepM WitM JudgM JudgM2 divr divs divd dive divg divw divv refj sysw ChsM BisS TrimI ValidM WitSat WitVal FailM FitM
open QuoM (subs qA qN bes)
theorem path_in {T:SS} {w:List Int} {u:Int} {p:PP} (h:p∈pathL T w u):(p.2=u)∨∃j,j<w.length∧p.2=leadI (ix T.sT p.1.toNat) (ix w j):=by
 unfold pathL at h
 rcases List.mem_append.1 h with g|g
 ·obtain⟨j,hj,rfl⟩:=List.mem_map.1 g
  exact .inr ⟨j,List.mem_range.1 hj,rfl⟩
 ·rw[List.mem_singleton.1 g];exact .inl rfl
theorem sat_trim {m:SSys} {s:SS} (hs:oK s) (h:SatM m (tR s).1):SatM m s:=by
 unfold SatM at h ⊢
 rw[sat_solid (trim_ok hs) (off_ok m)] at h
 rw[sat_solid hs (off_ok m)]
 exact sat_sim h (sim_trim hs)
end PartM
end
section
namespace CompP
open ref01 ref03 ref04 ref06 prog15 starts Part Rungs LeftM TrimM RoundM MergeM BisM BisM4 BisM5 BisM6 WalkM StepM WitM JudgM JudgM2 divr divs divd dive divg divw divv refj sysw ChsM BisS TrimI ValidM WitSat WitVal FailM FitM PartM QuoM DivM RefM GenW CompM judg
open LevM (Used)
theorem runs_go {T:SS} (hT:oK T) (hU:Used T):∀(w:List Int),(∀k,k<w.length→0≤ix w k∧ix w k<(T.aC.length:Int))→0≤goS T w→Runs T w (goS T w).toNat:=by
 intro w
 refine snoc_ind (p:=fun w=>(∀k,k<w.length→0≤ix w k∧ix w k<(T.aC.length:Int))→0≤goS T w→Runs T w (goS T w).toNat) ?_ (fun w a ih=> ?_) w
 ·intro _ _;exact .nil
 ·intro hw h0
  rw[goS_snoc] at h0 ⊢
  have hx0:0≤goS T w:=by
   refine Classical.byContradiction fun hn=> ?_
   unfold stepS at h0
   rw[if_pos O] at h0
   omega
  have ha:=hw w.length (by simp)
  rw[show ix (w++ [a]) w.length=a from ixI_last] at ha
  have hr:=ih (fun k hk=>by have:=hw k (by simp;omega);rwa [ixI_left hk] at this) hx0
  have hlt:=hr.lt hT
  obtain⟨b,rfl⟩:∃b:Nat,a=(b:Int):=⟨a.toNat,O⟩
  rw[stepS_nat hx0] at h0 ⊢
  exact .snoc hr ((hU _ hlt b O).1 h0)
theorem not_hol {D:SS} (hne:∀x,x<D.sT.length→0<(acc D x).length) {x:Nat} (hx:x<D.sT.length):ix (hOl D) x=false:=by
 cases e:ix (hOl D) x with
 |false=>rfl
 |true=>
  have hH:=(hollow_ix hx).1 e
  exfalso
  refine hH (fun _=>False) (fun y hy hc=> ?_)
  obtain⟨_,_,_,_,h⟩:=hc 0 (hne y hy)
  exact h
theorem keep_all {D:SS} (hD:oK D) (hne:∀x,x<D.sT.length→0<(acc D x).length) {x:Nat} (hx:x<D.sT.length):keep D x=acc D x:=by
 rw[keep_filter (not_hol hne hx)]
 refine List.filter_eq_self.2 fun u hu=> ?_
 rw[Bool.not_eq_true']
 cases hf:falls (ix D.sT x) u (hOl D) with
 |false=>rfl
 |true=>
  obtain⟨a,ha,h0,_,hv⟩:=falls_iff.1 hf
  have hb:=((hD.st x hx).nx a (by have:=(hD.st x hx).len;omega)).2
  rw[not_hol hne O] at hv;cases hv
section
variable {S T:SS}
inductive RunsC (S T:SS):List Int→PP→Prop
 |nil:RunsC S T [] (0,0)
 |snoc {w:List Int} {p:PP} {a:Nat}:RunsC S T w p→has (orAll (cA S T p)) (a:Int)=true→RunsC S T (w++ [(a:Int)]) (cN S T p a)
end
def Both2 (s t:SS) (w:List Int) (u:Int):Prop:=¬hol2 s t∧0≤goS (tR s).1 w∧0≤goS (tR t).1 w∧∃x∈acc (tR s).1 (goS (tR s).1 w).toNat,∃y∈acc (tR t).1 (goS (tR t).1 w).toNat,andI x y=u
theorem ne_trim {s:SS} (hs:oK s) (h0:ix (hOl s) 0=false):∀x,x<(tR s).1.sT.length→0<(acc (tR s).1 x).length:=by
 rw[trimmed_not h0]
 exact fun x hx=>tS_ne hs h0 hx
theorem not_hol2 {s t:SS} (h:¬hol2 s t):ix (hOl s) 0=false∧ix (hOl t) 0=false:=by
 unfold hol2 at h
 constructor
 ·cases e:ix (hOl s) 0 with
  |false=>rfl
  |true=>exact absurd (.inl e) h
 ·cases e:ix (hOl t) 0 with
  |false=>rfl
  |true=>exact absurd (.inr e) h
def nextM (m:SSys) (l:List Int) (a:Int):List Int:=((List.range m.sT.length).filter fun(x:Nat)=>l.any fun y=>(edg m y.toNat).any fun e=>decide (e.1=a)&&decide (e.2=(x:Int))).map fun(x:Nat)=>(x:Int)
def afterM (m:SSys) (w:List Int):List Int:=w.foldl (nextM m) [0]
theorem afterM_snoc (m:SSys) (w:List Int) (a:Int):afterM m (w++ [a])=nextM m (afterM m w) a:=by unfold afterM;rw[List.foldl_append];rfl
theorem next_mem {m:SSys} {l:List Int} {a:Int} {x:Int}:x∈nextM m l a↔∃k:Nat,x=(k:Int)∧k<m.sT.length∧∃y∈l,∃e∈edg m y.toNat,e.1=a∧e.2=(k:Int):=by
 unfold nextM
 rw[List.mem_map]
 constructor
 ·rintro⟨k,hk,rfl⟩
  obtain⟨h1,h2⟩:=List.mem_filter.1 hk
  obtain⟨y,hy,h3⟩:=List.any_eq_true.1 h2
  obtain⟨e,he,h4⟩:=List.any_eq_true.1 h3
  simp only [Bool.and_eq_true,decide_eq_true_eq] at h4
  exact⟨k,rfl,List.mem_range.1 h1,y,hy,e,he,h4.1,h4.2⟩
 ·rintro⟨k,rfl,hk,y,hy,e,he,h1,h2⟩
  exact⟨k,List.mem_filter.2 ⟨List.mem_range.2 hk,List.any_eq_true.2 ⟨y,hy,List.any_eq_true.2 ⟨e,he,by simp[h1,h2]⟩⟩⟩,rfl⟩
theorem after_bd {m:SSys} (hm:0<m.sT.length) (w:List Int):∀x∈afterM m w,0≤x∧x<(m.sT.length:Int):=by
 refine snoc_ind (p:=fun w=> ∀x∈afterM m w,0≤x∧x<(m.sT.length:Int)) ?_ (fun w a ih=> ?_) w
 ·intro x hx
  rw[List.mem_singleton.1 (show x∈[(0:Int)] from hx)];omega
 ·intro x hx
  rw[afterM_snoc] at hx
  obtain⟨k,rfl,hk,_⟩:=next_mem.1 hx
  omega
theorem wit_after {T:SS} (hT:oK T) {w:List Int} {u:Int} (hal:Alive T w) (hu:u∈acc T (goS T w).toNat) (hw:Wants T (pathL T w u)) {m:SSys} (hm:WitOK T (pathL T w u) m):∃x∈afterM m w,offM m x.toNat=u:=by
 obtain⟨ss,q,mm,hs,h,_⟩:=hm
 have hml:=m_len h
 have hpl:=pathL_len T w u
 have hmem:=pathL_mem hT hal hu
 have h1:∀j,j≤w.length→(ix (pathL T w u) j).1=xAt T w j:=fun j hj=>by
  by_cases e:j<w.length
  ·rw[pathL_at e];rfl
  ·have:j=w.length:=by omega
   subst this;rw[pathL_end]
 have hinS:∀j,j≤w.length→(ix (pathL T w u) j).2∈ix ss (ix (pathL T w u) j).1.toNat:=fun j hj=>by
  have hb:=hmem _ (ix_memS (l:=pathL T w u) (i:=j) O)
  refine(hs.mem _ O _).2 (.inr ?_)
  have e:(((ix (pathL T w u) j).1.toNat:Nat):Int)=(ix (pathL T w u) j).1:=by omega
  rw[e];exact ix_memS O
 have key:∀j,j≤w.length→ix (pathL T w u) j∈q∧((q.idxOf (ix (pathL T w u) j):Nat):Int)∈afterM m (w.take j):=by
  intro j
  induction j with
  |zero=>
   intro _
   have e2:ix q 0=ix (pathL T w u) 0:=by
    rw[h.wq.hd]
    unfold firstW
    rw[if_pos O]
   have hin:ix q 0∈q:=ix_memS h.wq.ne
   rw[←e2]
   refine⟨hin,?_⟩
   have g1:=List.idxOf_lt_length_of_mem hin
   have g2:q.idxOf (ix q 0)=0:=by
    have g3:q[q.idxOf (ix q 0)]=q[0]'h.wq.ne:=by rw[List.getElem_idxOf,ix_get h.wq.ne]
    exact(List.getElem_inj h.wq.nd).1 g3
   rw[g2]
   exact List.mem_singleton.2 rfl
  |succ j ih=>
   intro hj
   have hjl:j<w.length:=by omega
   obtain⟨hin,haf⟩:=ih O
   have hi:=List.idxOf_lt_length_of_mem hin
   have hat:ix q (q.idxOf (ix (pathL T w u) j))=ix (pathL T w u) j:=by rw[ix_get hi];exact List.getElem_idxOf hi
   obtain⟨x0,x1,a,ea,hha⟩:=hal j hjl
   have hlb:leadB (ix T.sT (xAt T w j).toNat) (a:Int)=true:=leadB_of hha
   have e1:ix (pathL T w u) j=(xAt T w j,leadI (ix T.sT (xAt T w j).toNat) (a:Int)):=by rw[pathL_at hjl];unfold StepM.stepL;rw[ea]
   have h2:has (ix (pathL T w u) j).2 (a:Int)=true:=by rw[e1];exact(lead_ix hlb).2.2
   have hax:a<8:=by have:=or_go hT O hha;have:=hT.n8;omega
   have htg:tgt T (ix (pathL T w u) j) (a:Int)=(ix (pathL T w u) (j+1)).1:=by
    rw[h1 (j+1) hj,xAt_succ hjl,ea,stepS_nat x0,e1];rfl
   have hS:=hinS (j+1) hj
   have hnx:ix (pathL T w u) (j+1)∈q:=by
    have:=h.dn _ hi (a:Int) (by rw[hat];exact listOf_mem.2 ⟨a,rfl,O,h2⟩) (ix (pathL T w u) (j+1)).2 (by rw[hat,htg];exact hS)
    rw[hat,htg] at this
    exact this
   have hi2:=List.idxOf_lt_length_of_mem hnx
   refine⟨hnx,?_⟩
   rw[take_s hjl,afterM_snoc]
   refine next_mem.2 ⟨_,rfl,O,_,haf,((a:Int),((q.idxOf (ix (pathL T w u) (j+1)):Nat):Int)),?_,ea.symm,rfl⟩
   rw[Int.toNat_natCast]
   refine(edge_mem h hi).2 ⟨a,rfl,O,by rw[hat];exact h2,(ix (pathL T w u) (j+1)).2,by rw[hat,htg];exact hS,?_⟩
   rw[hat,htg]
 obtain⟨hin,haf⟩:=key w.length (Nat.le_refl _)
 have hi:=List.idxOf_lt_length_of_mem hin
 have hat:ix q (q.idxOf (ix (pathL T w u) w.length))=ix (pathL T w u) w.length:=by rw[ix_get hi];exact List.getElem_idxOf hi
 rw[List.take_length] at haf
 refine⟨_,haf,?_⟩
 rw[Int.toNat_natCast,off_eq hT hw hs h hi,hat,pathL_end]
theorem path_made {s:SS} (hs:oK s) (hl:s.sT.length≤500) (h0:ix (hOl s) 0=false) {w:List Int} (hw:∀k,k<w.length→0≤ix w k∧ix w k<(s.aC.length:Int)) (hwl:w.length≤1000000000) (hg:0≤goS (tR s).1 w) {u:Int} (hu:u∈acc (tR s).1 (goS (tR s).1 w).toNat) {m:SSys} (hm:WitOK (tR s).1 (pathL (tR s).1 w u) m):
 madeB m s=true∧∃x∈afterM m w,offM m x.toNat=u:=by
 have ets:(tR s).1=tS s:=by rw[trimmed_not h0]
 have hT:oK (tR s).1:=trim_ok hs
 have hU:Used (tR s).1:=trim_used hs
 have hne:=ne_trim hs h0
 have htl:=trim_len hs
 have hwT:∀k,k<w.length→0≤ix w k∧ix w k<((tR s).1.aC.length:Int):=fun k hk=>by rw[trim_acts];exact hw k hk
 have hal:=(runs_go hT hU w hwT hg).alive hT
 have hW:Wants (tR s).1 (pathL (tR s).1 w u):=⟨pathL_mem hT hal hu,hne,by rw[pathL_len];omega⟩
 refine⟨?_,wit_after hT hal hu hW hm⟩
 have hsat:=sat_trim hs (wit_sat hT hW (want_zero _ _ _) hm)
 have hact:m.aC=s.aC:=by obtain⟨_,_,_,_,_,ha⟩:=hm;rw[ha,trim_acts]
 have hval:sysOK m=true:=by
  obtain⟨ss,qq,mm,hss,hWI,ha⟩:=hm
  have hin:∀y,y<(tR s).1.sT.length→(ix ss y).length≤10:=fun y hy=>by
   have hsub:∀z∈ix ss y,z∈ix (acc (tR s).1 y) 0::u::(List.range 8).map fun(a:Nat)=>leadI (ix (tR s).1.sT y) (a:Int):=fun z hz=>by
    rcases(hss.mem y hy z).1 hz with g|g
    ·rw[g];exact List.mem_cons_self
    ·refine List.mem_cons_of_mem _ ?_
     rcases path_in g with g2|⟨j,hj,g2⟩
     ·have g2:z=u:=g2
      rw[g2];exact List.mem_cons_self
     ·refine List.mem_cons_of_mem _ ?_
      have g2:z=leadI (ix (tR s).1.sT (y:Int).toNat) (ix w j):=g2
      rw[Int.toNat_natCast] at g2
      have hact:=alive_act hT hal hj
      have h8:=hT.n8
      refine List.mem_map.2 ⟨(ix w j).toNat,List.mem_range.2 O,?_⟩
      rw[g2,Int.toNat_of_nonneg hact.1]
   have:=List.Nodup.length_le_of_subset (hss.nd y hy) hsub
   simpa using this
  have hqq:qq.length≤(tR s).1.sT.length*10:=by
   have:=flat_len (g:=fun(y:Nat)=>(ix ss y).map fun z=>((y:Int),z)) (c:=10) (l:=List.range (tR s).1.sT.length) (fun y hy=>by rw[List.length_map];exact hin y (List.mem_range.1 hy))
   rw[List.length_range] at this
   refine Nat.le_trans (List.Nodup.length_le_of_subset hWI.wq.nd fun p hp=> ?_) this
   obtain⟨b0,b1,b2⟩:=hWI.wq.bd p hp
   exact List.mem_flatMap.2 ⟨p.1.toNat,List.mem_range.2 O,List.mem_map.2 ⟨p.2,b2,Prod.ext (by show((p.1.toNat:Nat):Int)=p.1;omega) rfl⟩⟩
  exact wit_valid (K:=10) hT hW hss hWI ha hin O O
 unfold madeB
 rw[hval,decide_eq_true hact,satD_iff.2 hsat];rfl
end CompP
end
section
namespace EncM
def encZ (z:SSys × Int):Value:= .agg #[.agg (z.1.aC.map Value.string).toArray,.agg (z.1.sT.map fun l=>Value.agg (l.map fun e=>Value.agg #[.int .i64 e.1,.int .i64 e.2]).toArray).toArray,.int .i64 z.2]
theorem map_inj {α β:Type} {f:α→β} (hf:∀a b,f a=f b→a=b):∀{l m:List α},l.map f=m.map f→l=m
 | [],[],_=>rfl
 | [],b::m,h=>by simp at h
 |a::l,[],h=>by simp at h
 |a::l,b::m,h=>by
  rw[List.map_cons,List.map_cons] at h
  injection h with h1 h2
  rw[hf _ _ h1,map_inj hf h2]
theorem agg_inj {l m:List Value} (h:Value.agg l.toArray=Value.agg m.toArray):l=m:=by
 injection h with h
 exact congrArg Array.toList h
theorem encZ_inj {a b:SSys × Int} (h:encZ a=encZ b):a=b:=by
 obtain⟨⟨a1,a2⟩,a3⟩:=a
 obtain⟨⟨b1,b2⟩,b3⟩:=b
 have h:=agg_inj (l:= [_,_,_]) (m:= [_,_,_]) h
 simp only [List.cons.injEq,and_true] at h
 obtain⟨h1,h2,h3⟩:=h
 have e1:a1=b1:=map_inj (fun x y g=>by injection g) (agg_inj h1)
 have e2:a2=b2:=map_inj (fun x y g=>map_inj (fun p q g=>by
  have g:=agg_inj (l:= [_,_]) (m:= [_,_]) g
  simp only [List.cons.injEq,and_true,Value.int.injEq,true_and] at g
  exact Prod.ext g.1 g.2) (agg_inj g)) (agg_inj h2)
 have e3:a3=b3:=by injection h3
 rw[e1,e2,e3]
open Classical in
noncomputable def decZ (v:Value):SSys × Int:=if h:∃z,encZ z=v then Classical.choose h else default
theorem dec_enc (z:SSys × Int):decZ (encZ z)=z:=by
 have h:∃y,encZ y=encZ z:=⟨z,rfl⟩
 unfold decZ
 rw[dif_pos h]
 exact encZ_inj (Classical.choose_spec h)
end EncM
end
section
open ref01 ref03 ref04 ref06 prog prog2 prog3 prog4 prog5 prog6 prog7 prog8 prog9 prog13 prog15 starts Part Rungs LeftM TrimM Itoa Keys RoundM MergeM BisM BisM4 BisM5 WalkM StepM WitM JudgM JudgM2 refw judg wit refj sysw divr divs divd dive divg divw divv LevM LevM2 ChsM TrimI QuoM FailM DivM RefM GenW CompM CrossM CompP PartM EncM prodc divp prodm
theorem int_eqC {x y:Int} (e:x=y) {w:World} {F:Fz} {v:Value} (h:(int x).p w F v):(int y).p w F v:=by subst e;exact h
def encM (m:SSys):Value:=encZ (m,0)
noncomputable def decM (v:Value):SSys:=(decZ v).1
theorem decM_enc (m:SSys):decM (encM m)=m:=by unfold decM encM;rw[dec_enc]
noncomputable def partE (s t:SS) (w:List Int) (u:Int):Int:=if fineE s t=0 then(if wordOK (s.aC.length:Int) w=true∧isSet (s.aC.length:Int) u=true then 0 else 1) else fineE s t
abbrev noSys:SSys:=⟨[],[]⟩
structure PartsOK (s t:SS) (w:List Int) (u:Int) (z:(SSys × SSys) × Int):Prop where
 err:partE s t w u≠0→z=((noSys,noSys),partE s t w u)
 none:partE s t w u=0→¬Both2 s t w u→z=((noSys,noSys),3)
 some:partE s t w u=0→Both2 s t w u→z.2=0∧∃a b,a∈acc (tR s).1 (goS (tR s).1 w).toNat∧b∈acc (tR t).1 (goS (tR t).1 w).toNat∧andI a b=u∧WitOK (tR s).1 (pathL (tR s).1 w a) z.1.1∧WitOK (tR t).1 (pathL (tR t).1 w b) z.1.2
section
variable {s t:SS} {w:List Int} {u:Int}
theorem parts_err {e:Int} (h:partE s t w u=e) (he:e≠0):PartsOK s t w u ((noSys,noSys),e):=⟨fun _=>by rw[h],fun g=>absurd (h.symm.trans g) he,fun g=>absurd (h.symm.trans g) he⟩
theorem parts_none (h:partE s t w u=0) (hn:¬Both2 s t w u):PartsOK s t w u ((noSys,noSys),3):=⟨fun g=>absurd h g,fun _ _=>rfl,fun _ g=>absurd g hn⟩
theorem parts_some (h:partE s t w u=0) (hh:¬hol2 s t) (h1:0≤goS (tR s).1 w) (h2:0≤goS (tR t).1 w) {a b:Int} (ha:a∈acc (tR s).1 (goS (tR s).1 w).toNat) (hb:b∈acc (tR t).1 (goS (tR t).1 w).toNat) (hab:andI a b=u) {m n:SSys} (hm:WitOK (tR s).1 (pathL (tR s).1 w a) m) (hn:WitOK (tR t).1 (pathL (tR t).1 w b) n):PartsOK s t w u ((m,n),0):=
 ⟨fun g=>absurd h g,fun _ g=>absurd ⟨hh,h1,h2,a,ha,b,hb,hab⟩ g,fun _ _=>⟨rfl,a,b,ha,hb,hab,hm,hn⟩⟩
theorem part_c1 {n:Int} (hc:(!wordOK n w|| !isSet n u)=true):¬(wordOK n w=true∧isSet n u=true):=fun⟨h1,h2⟩=>by rw[h1,h2] at hc;cases hc
theorem part_f1 {n:Int} (hc:(!wordOK n w|| !isSet n u)=false):wordOK n w=true∧isSet n u=true:=by
 rw[Bool.or_eq_false_iff,Bool.not_eq_false',Bool.not_eq_false'] at hc;exact hc
theorem part_c2 (hc:(((decide (((tR s).2.length:Int)=0)||decide (((tR t).2.length:Int)=0))|| !decide (0≤goS (tR s).1 w))|| !decide (0≤goS (tR t).1 w))=true):¬Both2 s t w u:=fun⟨h1,h2,h3,_⟩=>by
 rw[decide_eq_true h2,decide_eq_true h3,Bool.not_true,Bool.or_false,Bool.or_false] at hc
 exact h1 (com_cond.1 hc)
theorem part_f2 (hc:(((decide (((tR s).2.length:Int)=0)||decide (((tR t).2.length:Int)=0))|| !decide (0≤goS (tR s).1 w))|| !decide (0≤goS (tR t).1 w))=false):¬hol2 s t∧0≤goS (tR s).1 w∧0≤goS (tR t).1 w:=by
 rw[Bool.or_eq_false_iff,Bool.or_eq_false_iff,Bool.not_eq_false',Bool.not_eq_false',decide_eq_true_eq,decide_eq_true_eq] at hc
 refine⟨fun g=> ?_,hc.1.2,hc.2⟩
 have:=com_cond.2 g
 rw[this] at hc
 cases hc.1.1
theorem word_len {n:Int} (h:wordOK n w=true):w.length≤10000:=by
 unfold wordOK at h
 rw[Bool.and_eq_true,decide_eq_true_eq] at h
 omega
end
theorem witP_ok (s:SS) (hT:oK s) (want:List (Int × Int)) (hw:Wants s want):AL.Fn Tryz.prog 71 [spec s,sl 2 pE want] [] (ι:= { m:SSys//WitOK s want m }) (fun _ i=>agg [strs i.1.aC,sl 1 gE i.1.sT]) (fun _=> []):=
 fn_res (wit.Witness_ok s hT want hw) (fun N i {w F v} h=>agg_le (cs:= [fre N (strs i.1.aC),fre N (sl 1 gE i.1.sT)]) (ds:= [strs i.1.aC,sl 1 gE i.1.sT]) ⟨fun h=>nw_le h,fun h=>nw_le h,tV⟩ h)
def NyI (m:SSys) (l:List Int) (a:Int) (k j x:Nat):Prop:=(∃i,i<k∧∃e∈edg m (ix l i).toNat,e.1=a∧e.2=(x:Int))∨∃i,i<j∧(ix (edg m (ix l k).toNat) i).1=a∧(ix (edg m (ix l k).toNat) i).2=(x:Int)
structure NyS (m:SSys) (l:List Int) (a:Int) (k j:Nat) (b:List Bool):Prop where
 len:b.length=m.sT.length
 mem:∀x,x<m.sT.length→(ix b x=true↔NyI m l a k j x)
section
variable {m:SSys} {l:List Int} {a:Int} {k j:Nat} {b:List Bool}
theorem nys_zero:NyS m l a 0 0 (List.replicate m.sT.length false):=by
 refine⟨by simp,fun x hx=> ?_⟩
 rw[ix_get (by simpa using hx),List.getElem_replicate]
 constructor
 ·intro h;cases h
 ·rintro(⟨i,hi,_⟩|⟨i,hi,_⟩)<;>omega
theorem nys_next (h:NyS m l a k (edg m (ix l k).toNat).length b):NyS m l a (k+1) 0 b:=by
 refine⟨h.len,fun x hx=>(h.mem x hx).trans ?_⟩
 constructor
 ·rintro(⟨i,hi,g⟩|⟨i,hi,g⟩)
  ·exact .inl ⟨i,O,g⟩
  ·exact .inl ⟨k,O,_,ix_memS hi,g⟩
 ·rintro(⟨i,hi,g⟩|⟨i,hi,_⟩)
  ·by_cases e:i=k
   ·subst e
    obtain⟨ed,he,g⟩:=g
    obtain⟨q,hq,rfl⟩:=List.getElem_of_mem he
    exact .inr ⟨q,hq,by rw[ix_get hq];exact g⟩
   ·exact .inl ⟨i,O,g⟩
  ·omega
theorem nys_miss (h:NyS m l a k j b) (hn:(ix (edg m (ix l k).toNat) j).1≠a):NyS m l a k (j+1) b:=by
 refine⟨h.len,fun x hx=>(h.mem x hx).trans ?_⟩
 constructor
 ·rintro(g|⟨i,hi,g⟩)
  ·exact .inl g
  ·exact .inr ⟨i,O,g⟩
 ·rintro(g|⟨i,hi,g⟩)
  ·exact .inl g
  ·by_cases e:i=j
   ·subst e;exact absurd g.1 hn
   ·exact .inr ⟨i,O,g⟩
theorem nys_hit (h:NyS m l a k j b) (hn:(ix (edg m (ix l k).toNat) j).1=a) (h0:0≤(ix (edg m (ix l k).toNat) j).2) (h1:(ix (edg m (ix l k).toNat) j).2<(m.sT.length:Int)):NyS m l a k (j+1) (b.set (ix (edg m (ix l k).toNat) j).2.toNat true):=by
 have hl:=h.len
 refine⟨by simp[hl],fun x hx=> ?_⟩
 rw[ix_set O]
 by_cases e:x=(ix (edg m (ix l k).toNat) j).2.toNat
 ·rw[if_pos e]
  exact⟨fun _=> .inr ⟨j,O,hn,O⟩,fun _=>rfl⟩
 ·rw[if_neg e]
  refine(h.mem x hx).trans ?_
  constructor
  ·rintro(g|⟨i,hi,g⟩)
   ·exact .inl g
   ·exact .inr ⟨i,O,g⟩
  ·rintro(g|⟨i,hi,g⟩)
   ·exact .inl g
   ·by_cases q:i=j
    ·subst q;exact absurd g.2 O
    ·exact .inr ⟨i,O,g⟩
theorem nys_done (h:NyS m l a l.length 0 b):((List.range m.sT.length).filter fun(x:Nat)=>ix b x).map (fun(x:Nat)=>(x:Int))=nextM m l a:=by
 unfold nextM
 congr 1
 refine List.filter_congr fun x hx=> ?_
 have hx:=List.mem_range.1 hx
 rw[Bool.eq_iff_iff,h.mem x hx,List.any_eq_true]
 constructor
 ·rintro(⟨i,hi,e,he,g1,g2⟩|⟨i,hi,_⟩)
  ·exact⟨_,ix_memS hi,List.any_eq_true.2 ⟨e,he,by simp[g1,g2]⟩⟩
  ·omega
 ·rintro⟨y,hy,g⟩
  obtain⟨i,hi,rfl⟩:=List.getElem_of_mem hy
  obtain⟨e,he,g2⟩:=List.any_eq_true.1 g
  simp only [Bool.and_eq_true,decide_eq_true_eq] at g2
  exact .inl ⟨i,hi,e,by rw[ix_get hi];exact he,g2.1,g2.2⟩
end
theorem next_len (m:SSys) (l:List Int) (a:Int):(nextM m l a).length≤m.sT.length:=by
 unfold nextM
 rw[List.length_map]
 exact Nat.le_trans (List.length_filter_le _ _) (by simp)
theorem after_len {m:SSys} (h:0<m.sT.length) (w:List Int):(afterM m w).length≤m.sT.length:=by
 refine snoc_ind (p:=fun w=>(afterM m w).length≤m.sT.length) ?_ (fun w a _=> ?_) w
 ·exact h
 ·rw[afterM_snoc];exact next_len _ _ _
theorem after_take {m:SSys} {w:List Int} {k:Nat} (hk:k<w.length):afterM m (w.take (k+1))=nextM m (afterM m (w.take k)) (ix w k):=by rw[take_s hk,afterM_snoc]
def showB (m n:SSys) (w:List Int) (u:Int):Bool:=(afterM m w).any fun x=>(afterM n w).any fun y=>decide (andI (offM m x.toNat) (offM n y.toNat)=u)
theorem offM_bd {m:SSys} (hm:okSys m) {x:Nat} (hx:x<m.sT.length):0≤offM m x∧offM m x<256:=by
 have h8:=off8 hm hx
 refine⟨orAll_nn _,orAll_lt _ fun t ht=> ?_⟩
 obtain⟨e,he,rfl⟩:=List.mem_map.1 ht
 have:=h8 e he
 have hp:2^e.1.toNat≤2^7:=Nat.pow_le_pow_right O O
 omega
namespace T
theorem ent66:Ent Tryz.prog 66:=ent_of kR
theorem ent67:Ent Tryz.prog 67:=ent_of kR
theorem ent69:Ent Tryz.prog 69:=ent_of kR
theorem ent70:Ent Tryz.prog 70:=ent_of kR
theorem ent71:Ent Tryz.prog 71:=ent_of kR
theorem ent82:Ent Tryz.prog 82:=ent_of kR
theorem ent73:Ent Tryz.prog 73:=ent_of kR
end T
namespace prodp
theorem actIs_ok (n s:Int) (h0:0≤n) (h1:n<63):
 Fn0 Tryz.prog 67 [int n,int s] (bl (isSet n s)):=by
 refine fnI Tryz.func67 rfl rfl (fun w0 F0=> ?_)
 refine sq (rg (ag (nl (th (sq (rg (mv (bi J J b_geq (mv ?_)))))))))
 apply gAnd (t:=7) (pd:=12) rfl
 rotate_left
 ·intro hg0 fin
  have hg0':=hg0
  try simp at hg0'
  exact gy J J J hg0 (mv (gy J J J hg0 (mv (gy J J J hg0 (bi J J (b_shlI O O) (gy J J J hg0 (bi J J b_lss (pkT J hg0 J (drp (X:= [(11,_),(10,_),(9,_),(8,_)]) ⟨J,J,J,J,tV⟩ fin)))))))))
 ·intro hg0 fin
  exact gn J J J hg0 J J (gn J J J hg0 J J (gn J J J hg0 J J (gn J J J hg0 J J (pkF J hg0 J (drp (X:= [(11,_),(10,_),(9,_),(8,_)]) ⟨J,J,J,J,tV⟩ fin)))))
 refine ag (nl (th (rt ?_)))
 have hr0:((decide (0≤s))&&(decide (s<((2^n.toNat:Nat):Int))))=(isSet n s):=by
  first|rfl|simp_all|omega
 exact rE () [.tmp 4] J [bl ((decide (0≤s))&&(decide (s<((2^n.toNat:Nat):Int))))] ⟨.tmp J,tV⟩ (cA1 (fun x0=>rV [bl x0]) hr0) trivial eX
theorem Parts_ok (s t:SS) (hsm:smallSpec s) (htm:smallSpec t) (w:List Int) (u:Int):
 AL.Fn Tryz.prog 22 [spec s,spec t,ints w,int u] [] (ι:= { z:(SSys × SSys) × Int//PartsOK s t w u z }) (fun _ i=>tup [sys i.1.1.1,sys i.1.1.2,int i.1.2]) (fun _=> []):=by
 refine fnI Tryz.func22 rfl rfl (fun w0 F0=> ?_)
 refine fcC (inhS 0 J) (fun hS0=> ?_)
 obtain⟨hsa0,hss0,hse0⟩:=sLn hS0
 refine fcC (inhS 1 J) (fun hS1=> ?_)
 obtain⟨hsa1,hss1,hse1⟩:=sLn hS1
 refine fcC (slenI 2 J) (fun hm2=> ?_)
 refine sq (rg (bx (key:=4) (cs:= [sl 1 rE_ s.aC,sl 2 sE s.sT]) J fun b4=>(bx (key:=5) (cs:= [sl 1 rE_ t.aC,sl 2 sE t.sT]) J fun b5=>(al (key:=8) T.z43 (eC (eC eZ)) fun b8=>(al (key:=9) T.z43 (eC (eC eZ)) fun b9=>(ag (nl (th (sq (sq (rg (lPA J J T.agg25 J (lPA J J T.agg25 J (cal0 (φs:= [agg [sl 1 rE_ s.aC,sl 2 sE s.sT],agg [sl 1 rE_ t.aC,sl 2 sE t.sT]]) (φ:=int (fineE s t)) ⟨J,J,tV⟩ (judg.Fine_ok s t aS aS) T.ent61 (ag (nl (th (sq (rg (mv (bi J J b_neq (nl (th ?_)))))))))))))))))))))))
 refine cd J (fun hc0=> ?_) (fun hc0=> ?_)
 ·skip
  have hfz:fineE s t≠0:=by simpa using hc0
  have hpe:partE s t w u=fineE s t:=by unfold partE;rw[if_neg hfz]
  refine sq (rg (bd (css:= []) T.st43 (eC (eC eZ)) trivial (bd (css:= []) T.st43 (eC (eC eZ)) trivial (mv (sPA (cs':= [eqv (.slice none 0 0),eqv (.slice none 0 0)]) J J J T.agg43 J J (sPA (cs':= [eqv (.slice none 0 0),eqv (.slice none 0 0)]) J J J T.agg43 J J (ag (nl (th (rt (rt_ ?_)))))))))))
  refine kncA 8 0 (sl 1 rE_ []) rfl rfl slnil ?_
  refine kncA 8 1 (sl 1 gE []) rfl rfl slnil ?_
  refine kncA 9 0 (sl 1 rE_ []) rfl rfl slnil ?_
  refine kncA 9 1 (sl 1 gE []) rfl rfl slnil ?_
  exact rE ⟨((noSys,noSys),fineE s t),parts_err hpe hfz⟩ [.cell 8 43,.cell 9 43,.tmp 10] J [agg [sl 1 rE_ [],sl 1 gE []],agg [sl 1 rE_ [],sl 1 gE []],int (fineE s t)] ⟨.agg J J T.agg43 J J,.agg J J T.agg43 J J,.tmp J,tV⟩ J trivial eX
 ·skip
  have hfz:fineE s t=0:=by simpa using hc0
  obtain⟨hsv,htv,hst⟩:=Go.Proofs.YtcjemmihcplgdaaGreatDoor.fine_ok hfz
  have hs:=okSpec_of hsv
  have ht:=okSpec_of htv
  have hn8:=hs.n8
  refine sk (th (sq (sq (rg (fP J T.fld25_0 (lP J J J T.one22 (mv (cal0 (φs:= [sl 1 rE_ s.aC,sl 1 nE w]) (φ:=bl (wordOK (s.aC.length:Int) w)) ⟨J,J,tV⟩ (prog15.pWord_ok s.aC w) T.ent66 (no J (mv ?_))))))))))
  apply gOr (t:=39) (pd:=46) rfl
  rotate_left
  ·intro hg0 fin
   have hg0':=hg0
   try simp at hg0'
   exact gy J J J hg0 (fP J T.fld25_0 (gy J J J hg0 (lP J J J T.one22 (gy J J J hg0 (fc (slenI 41 J) fun hm41=>(lnF J T.sl22 (gy J J J hg0 (mv (gy J J J hg0 (cal0 (φs:= [int (s.aC.length:Int),int u]) (φ:=bl (isSet (s.aC.length:Int) u)) ⟨J,J,tV⟩ (prodp.actIs_ok _ _ O O) T.ent67 (gy J J J hg0 (no J (pkF J hg0 J (drp (X:= [(45,_),(44,_),(43,_),(42,_),(41,_),(40,_)]) ⟨J,J,J,J,J,J,tV⟩ fin))))))))))))))
  ·intro hg0 fin
   exact gn J J J hg0 J J (gn J J J hg0 J J (gn J J J hg0 J J (gn J J J hg0 J J (gn J J J hg0 J J (gn J J J hg0 J J (pkT J hg0 J (drp (X:= [(45,_),(44,_),(43,_),(42,_),(41,_),(40,_)]) ⟨J,J,J,J,J,J,tV⟩ fin)))))))
  refine nl (th ?_)
  refine cd J (fun hc1=> ?_) (fun hc1=> ?_)
  ·skip
   have hpe:partE s t w u=1:=by unfold partE;rw[if_pos hfz,if_neg (part_c1 hc1)]
   refine sq (rg (bd (css:= []) T.st43 (eC (eC eZ)) trivial (bd (css:= []) T.st43 (eC (eC eZ)) trivial (sPA (cs':= [eqv (.slice none 0 0),eqv (.slice none 0 0)]) J J J T.agg43 J J (sPA (cs':= [eqv (.slice none 0 0),eqv (.slice none 0 0)]) J J J T.agg43 J J (ag (nl (th (rt (rt_ ?_))))))))))
   refine kncA 8 0 (sl 1 rE_ []) rfl rfl slnil ?_
   refine kncA 8 1 (sl 1 gE []) rfl rfl slnil ?_
   refine kncA 9 0 (sl 1 rE_ []) rfl rfl slnil ?_
   refine kncA 9 1 (sl 1 gE []) rfl rfl slnil ?_
   exact rE ⟨((noSys,noSys),1),parts_err hpe (by decide)⟩ [.cell 8 43,.cell 9 43,.tmp 10] J [agg [sl 1 rE_ [],sl 1 gE []],agg [sl 1 rE_ [],sl 1 gE []],int 1] ⟨.agg J J T.agg43 J J,.agg J J T.agg43 J J,.tmp J,tV⟩ J trivial eX
  ·skip
   obtain⟨hwo,hse⟩:=part_f1 hc1
   have hpe:partE s t w u=0:=by unfold partE;rw[if_pos hfz,if_pos ⟨hwo,hse⟩]
   have hwl:=word_len hwo
   have hS:=trim_ok hs
   have hT:=trim_ok ht
   have hwS:wordOK ((tR s).1.aC.length:Int) w=true:=by rw[trim_acts];exact hwo
   have hwT:wordOK ((tR t).1.aC.length:Int) w=true:=by rw[trim_acts,←hst];exact hwo
   have hSn:=hS.n8
   have hTn:=hT.n8
   refine sk (th (sq (rg (lPA J J T.agg25 J (calW (φs:= [agg [sl 1 rE_ s.aC,sl 2 sE s.sT]]) (φ:=tup [agg [sl 1 rE_ ((tR s).1.aC),sl 2 sE ((tR s).1.sT)],sl 1 nE ((tR s).2)]) ⟨J,tV⟩ (prog9.Trimmed_ok s aS) T.ent68 (fun N hN=>fun h=>tup_le (cs:= [agg [fre N (sl 1 rE_ ((tR s).1.aC)),frb (ix (hOl s) 0) N (sl 2 sE ((tR s).1.sT))],sl 1 nE ((tR s).2)]) (ds:= [agg [sl 1 rE_ ((tR s).1.aC),sl 2 sE ((tR s).1.sT)],sl 1 nE ((tR s).2)]) ⟨fun h=>agg_le (cs:= [fre N (sl 1 rE_ ((tR s).1.aC)),frb (ix (hOl s) 0) N (sl 2 sE ((tR s).1.sT))]) (ds:= [sl 1 rE_ ((tR s).1.aC),sl 2 sE ((tR s).1.sT)]) ⟨fun h=>nw_le h,fun h=>frb_le h,tV⟩ h,fun h=>h,tV⟩ h) (mv (xt J J (xt J J (sPA (cs':= [sl 1 rE_ ((tR s).1.aC),sl 2 sE ((tR s).1.sT)]) J J J T.agg25 J J (ag (nl (th (sq (rg (lPA J J T.agg25 J (calW (φs:= [agg [sl 1 rE_ t.aC,sl 2 sE t.sT]]) (φ:=tup [agg [sl 1 rE_ ((tR t).1.aC),sl 2 sE ((tR t).1.sT)],sl 1 nE ((tR t).2)]) ⟨J,tV⟩ (prog9.Trimmed_ok t aS) T.ent68 (fun N hN=>fun h=>tup_le (cs:= [agg [fre N (sl 1 rE_ ((tR t).1.aC)),frb (ix (hOl t) 0) N (sl 2 sE ((tR t).1.sT))],sl 1 nE ((tR t).2)]) (ds:= [agg [sl 1 rE_ ((tR t).1.aC),sl 2 sE ((tR t).1.sT)],sl 1 nE ((tR t).2)]) ⟨fun h=>agg_le (cs:= [fre N (sl 1 rE_ ((tR t).1.aC)),frb (ix (hOl t) 0) N (sl 2 sE ((tR t).1.sT))]) (ds:= [sl 1 rE_ ((tR t).1.aC),sl 2 sE ((tR t).1.sT)]) ⟨fun h=>nw_le h,fun h=>frb_le h,tV⟩ h,fun h=>h,tV⟩ h) (mv (xt J J (xt J J (sPA (cs':= [sl 1 rE_ ((tR t).1.aC),sl 2 sE ((tR t).1.sT)]) J J J T.agg25 J J (ag (nl (th (sq (rg (lPA J J T.agg25 J (mv (cal0 (φs:= [agg [sl 1 rE_ ((tR s).1.aC),sl 2 sE ((tR s).1.sT)],sl 1 nE w]) (φ:=tup [int (if goS ((tR s).1) w<0 then 0 else goS ((tR s).1) w),bl (decide (0≤goS ((tR s).1) w))]) ⟨J,J,tV⟩ (prog15.Follow_ok ((tR s).1) aS w (fun _=>word_ix aS)) T.ent69 (mv (xt J J (xt J J (ag (ag (nl (th (sq (rg (lPA J J T.agg25 J (mv (cal0 (φs:= [agg [sl 1 rE_ ((tR t).1.aC),sl 2 sE ((tR t).1.sT)],sl 1 nE w]) (φ:=tup [int (if goS ((tR t).1) w<0 then 0 else goS ((tR t).1) w),bl (decide (0≤goS ((tR t).1) w))]) ⟨J,J,tV⟩ (prog15.Follow_ok ((tR t).1) aS w (fun _=>word_ix aS)) T.ent69 (mv (xt J J (xt J J (ag (ag (nl (th (sq (sq (rg (mv (fc (slenI 71 J) fun hm71=>(lnF J T.sl36 (bi J J b_eql (mv ?_)))))))))))))))))))))))))))))))))))))))))))))))))))))))
   apply gOr (t:=74) (pd:=78) rfl
   rotate_left
   ·intro hg1 fin
    have hg1':=hg1
    try simp at hg1'
    exact gy J J J hg1 (mv (gy J J J hg1 (fc (slenI 75 J) fun hm75=>(lnF J T.sl36 (gy J J J hg1 (bi J J b_eql (pkF J hg1 J (drp (X:= [(77,_),(76,_),(75,_)]) ⟨J,J,J,tV⟩ fin))))))))
   ·intro hg1 fin
    exact gn J J J hg1 J J (gn J J J hg1 J J (gn J J J hg1 J J (pkT J hg1 J (drp (X:= [(77,_),(76,_),(75,_)]) ⟨J,J,J,tV⟩ fin))))
   refine mv ?_
   apply gOr (t:=79) (pd:=82) rfl
   rotate_left
   ·intro hg2 fin
    have hg2':=hg2
    try simp at hg2'
    exact gy J J J hg2 (mv (gy J J J hg2 (no J (pkF J hg2 J (drp (X:= [(81,_),(80,_)]) ⟨J,J,tV⟩ fin)))))
   ·intro hg2 fin
    exact gn J J J hg2 J J (gn J J J hg2 J J (pkT J hg2 J (drp (X:= [(81,_),(80,_)]) ⟨J,J,tV⟩ fin)))
   refine mv ?_
   apply gOr (t:=83) (pd:=86) rfl
   rotate_left
   ·intro hg3 fin
    have hg3':=hg3
    try simp at hg3'
    exact gy J J J hg3 (mv (gy J J J hg3 (no J (pkF J hg3 J (drp (X:= [(85,_),(84,_)]) ⟨J,J,tV⟩ fin)))))
   ·intro hg3 fin
    exact gn J J J hg3 J J (gn J J J hg3 J J (pkT J hg3 J (drp (X:= [(85,_),(84,_)]) ⟨J,J,tV⟩ fin)))
   refine nl (th ?_)
   refine cd J (fun hc2=> ?_) (fun hc2=> ?_)
   ·skip
    have hnb:¬Both2 s t w u:=part_c2 hc2
    refine sq (rg (bd (css:= []) T.st43 (eC (eC eZ)) trivial (bd (css:= []) T.st43 (eC (eC eZ)) trivial (sPA (cs':= [eqv (.slice none 0 0),eqv (.slice none 0 0)]) J J J T.agg43 J J (sPA (cs':= [eqv (.slice none 0 0),eqv (.slice none 0 0)]) J J J T.agg43 J J (ag (nl (th (rt (rt_ ?_))))))))))
    refine kncA 8 0 (sl 1 rE_ []) rfl rfl slnil ?_
    refine kncA 8 1 (sl 1 gE []) rfl rfl slnil ?_
    refine kncA 9 0 (sl 1 rE_ []) rfl rfl slnil ?_
    refine kncA 9 1 (sl 1 gE []) rfl rfl slnil ?_
    exact rE ⟨((noSys,noSys),3),parts_none hpe hnb⟩ [.cell 8 43,.cell 9 43,.tmp 10] J [agg [sl 1 rE_ [],sl 1 gE []],agg [sl 1 rE_ [],sl 1 gE []],int 3] ⟨.agg J J T.agg43 J J,.agg J J T.agg43 J J,.tmp J,tV⟩ J trivial eX
   ·skip
    have hx2:=part_f2 (s:=s) (t:=t) (w:=w) hc2
    have hh:=hx2.1
    have hg1:=hx2.2.1
    have hg2:=hx2.2.2
    have hh1:=(not_hol2 hh).1
    have hh2:=(not_hol2 hh).2
    have e1:(if goS (tR s).1 w<0 then 0 else goS (tR s).1 w)=goS (tR s).1 w:=if_neg O
    have e2:(if goS (tR t).1 w<0 then 0 else goS (tR t).1 w)=goS (tR t).1 w:=if_neg O
    have r1:=runs_go hS (trim_used hs) w (fun _ h=>word_ix hwS h) hg1
    have r2:=runs_go hT (trim_used ht) w (fun _ h=>word_ix hwT h) hg2
    have l1:=r1.lt hS
    have l2:=r2.lt hT
    have a1:Alive (tR s).1 w:=r1.alive hS
    have a2:Alive (tR t).1 w:=r2.alive hT
    have hsa:=(hS.st _ l1).ac
    have hta:=(hT.st _ l2).ac
    have hs8:=(hS.st _ l1).acl
    have ht8:=(hT.st _ l2).acl
    have f1:=hS.few1
    have f2:=hT.few1
    refine knC 14 (int (goS (tR s).1 w)) rfl (fun h=>int_eqC e1 h) (knC 16 (int (goS (tR t).1 w)) rfl (fun h=>int_eqC e2 h) (sk (th (sq (sq (rg (fP rfl T.fld25_1 (lP rfl rfl rfl T.one23 (mv (iF rfl rfl T.sl23 O gB (fF rfl T.fld81_0 (lF rfl rfl T.one36 (fc (slenI 94 rfl) fun hm94=>(lnF rfl T.sl36 (mv (nl (th (bk ?_))))))))))))))))))
    have hI0_0:0≤(ix ((tR s).1.sT) (goS (tR s).1 w).toNat).aP.length:=by
     first|omega|simp
    have hI0_1:∀j,j<0→∀y∈acc (tR t).1 (goS (tR t).1 w).toNat,andI (ix (ix (tR s).1.sT (goS (tR s).1 w).toNat).aP j) y≠u:=by
     intro j hj;omega
    refine lp (κ:=Nat) (fun p=> [(2,sl 1 nE w),(3,int u),(4,ptr 4 b4 0),(5,ptr 5 b5 0),(8,ptr 8 b8 0),(9,ptr 9 b9 0),(16,int (goS (tR t).1 w)),(94,sl 1 nE (ix ((tR s).1.sT) (goS (tR s).1 w).toNat).aP),(95,int ((ix ((tR s).1.sT) (goS (tR s).1 w).toNat).aP.length:Int)),(96,int (p:Int))]) (fun p=> [(4,cell b4 [sl 1 rE_ ((tR s).1.aC),sl 2 sE ((tR s).1.sT)]),(5,cell b5 [sl 1 rE_ ((tR t).1.aC),sl 2 sE ((tR t).1.sT)]),(8,cell b8 [eqv (.slice none 0 0),eqv (.slice none 0 0)]),(9,cell b9 [eqv (.slice none 0 0),eqv (.slice none 0 0)])]) (fun p=>(p≤(ix ((tR s).1.sT) (goS (tR s).1 w).toNat).aP.length)∧(∀j,j<p→∀y∈acc (tR t).1 (goS (tR t).1 w).toNat,andI (ix (ix (tR s).1.sT (goS (tR s).1 w).toNat).aP j) y≠u)) (fun p=>(ix ((tR s).1.sT) (goS (tR s).1 w).toNat).aP.length- p) 0 ⟨hI0_0,hI0_1⟩ ⟨id,id,id,id,id,id,id,id,id,id,tV⟩ ⟨rI,rI,rI,rI,tV⟩ ?_
    intro k hG0
    obtain⟨hk0,hI0⟩:(k≤(ix ((tR s).1.sT) (goS (tR s).1 w).toNat).aP.length)∧(∀j,j<k→∀y∈acc (tR t).1 (goS (tR t).1 w).toNat,andI (ix (ix (tR s).1.sT (goS (tR s).1 w).toNat).aP j) y≠u):=hG0
    refine sq (rg (bi J J b_lss (nl (th (sq ?_)))))
    refine cd J (fun hc3=> ?_) (fun hc3=> ?_)
    ·try simp at hc3
     have hak:=hsa k O
     refine sk (th (sq (bk (sq (rg (iF J J T.sl36 O gB (lF J J T.one3 (ag (nl (th (sq (rg (fP J T.fld25_1 (lP J J J T.one23 (mv (iF J J T.sl23 O gB (fF J T.fld81_0 (lF J J T.one36 (fc (slenI 105 J) fun hm105=>(lnF J T.sl36 (mv (nl (th (bk ?_))))))))))))))))))))))))
     have hI1_0:0≤(ix ((tR t).1.sT) (goS (tR t).1 w).toNat).aP.length:=by
      first|omega|simp
     have hI1_1:∀j,j<0→andI (ix (ix (tR s).1.sT (goS (tR s).1 w).toNat).aP k) (ix (ix (tR t).1.sT (goS (tR t).1 w).toNat).aP j)≠u:=by
      intro j hj;omega
     refine lp (κ:=Nat) (fun p=> [(2,sl 1 nE w),(3,int u),(4,ptr 4 b4 0),(5,ptr 5 b5 0),(8,ptr 8 b8 0),(9,ptr 9 b9 0),(16,int (goS (tR t).1 w)),(19,int (ix (ix ((tR s).1.sT) (goS (tR s).1 w).toNat).aP k)),(94,sl 1 nE (ix ((tR s).1.sT) (goS (tR s).1 w).toNat).aP),(95,int ((ix ((tR s).1.sT) (goS (tR s).1 w).toNat).aP.length:Int)),(96,int (k:Int)),(105,sl 1 nE (ix ((tR t).1.sT) (goS (tR t).1 w).toNat).aP),(106,int ((ix ((tR t).1.sT) (goS (tR t).1 w).toNat).aP.length:Int)),(107,int (p:Int))]) (fun p=> [(4,cell b4 [sl 1 rE_ ((tR s).1.aC),sl 2 sE ((tR s).1.sT)]),(5,cell b5 [sl 1 rE_ ((tR t).1.aC),sl 2 sE ((tR t).1.sT)]),(8,cell b8 [eqv (.slice none 0 0),eqv (.slice none 0 0)]),(9,cell b9 [eqv (.slice none 0 0),eqv (.slice none 0 0)])]) (fun p=>(p≤(ix ((tR t).1.sT) (goS (tR t).1 w).toNat).aP.length)∧(∀j,j<p→andI (ix (ix (tR s).1.sT (goS (tR s).1 w).toNat).aP k) (ix (ix (tR t).1.sT (goS (tR t).1 w).toNat).aP j)≠u)) (fun p=>(ix ((tR t).1.sT) (goS (tR t).1 w).toNat).aP.length- p) 0 ⟨hI1_0,hI1_1⟩ ⟨id,id,id,id,id,id,id,id,id,id,id,id,id,id,tV⟩ ⟨rI,rI,rI,rI,tV⟩ ?_
     intro k1 hG1
     obtain⟨hk1,hI1⟩:(k1≤(ix ((tR t).1.sT) (goS (tR t).1 w).toNat).aP.length)∧(∀j,j<k1→andI (ix (ix (tR s).1.sT (goS (tR s).1 w).toNat).aP k) (ix (ix (tR t).1.sT (goS (tR t).1 w).toNat).aP j)≠u):=hG1
     refine sq (rg (bi J J b_lss (nl (th (sq ?_)))))
     refine cd J (fun hc4=> ?_) (fun hc4=> ?_)
     ·try simp at hc4
      have hbk:=hta k1 O
      refine sk (th (sq (bk (sq (rg (iF J J T.sl36 O gB (lF J J T.one3 (ag (nl (th (sq (rg (mv (mv (bi J J (b_andI O O O O) (mv (bi J J b_eql (nl (th ?_)))))))))))))))))))
      refine cd J (fun hc5=> ?_) (fun hc5=> ?_)
      ·skip
       have hau:andI (ix (ix (tR s).1.sT (goS (tR s).1 w).toNat).aP k) (ix (ix (tR t).1.sT (goS (tR t).1 w).toNat).aP k1)=u:=of_decide_eq_true hc5
       have hma:ix (ix (tR s).1.sT (goS (tR s).1 w).toNat).aP k∈acc (tR s).1 (goS (tR s).1 w).toNat:=ix_memS (l:=(ix (tR s).1.sT (goS (tR s).1 w).toNat).aP) O
       have hmb:ix (ix (tR t).1.sT (goS (tR t).1 w).toNat).aP k1∈acc (tR t).1 (goS (tR t).1 w).toNat:=ix_memS (l:=(ix (tR t).1.sT (goS (tR t).1 w).toNat).aP) O
       have hw1:Wants (tR s).1 (pathL (tR s).1 w (ix (ix (tR s).1.sT (goS (tR s).1 w).toNat).aP k)):=⟨pathL_mem hS a1 hma,ne_trim hs hh1,by rw[pathL_len];omega⟩
       have hw2:Wants (tR t).1 (pathL (tR t).1 w (ix (ix (tR t).1.sT (goS (tR t).1 w).toNat).aP k1)):=⟨pathL_mem hT a2 hmb,ne_trim ht hh2,by rw[pathL_len];omega⟩
       refine sq (rg (lPA J J T.agg25 J (mv (mv (cal0 (φs:= [agg [sl 1 rE_ ((tR s).1.aC),sl 2 sE ((tR s).1.sT)],sl 1 nE w,int (ix (ix ((tR s).1.sT) (goS (tR s).1 w).toNat).aP k)]) (φ:=tup [sl 2 pE (pathL ((tR s).1) w (ix (ix ((tR s).1.sT) (goS (tR s).1 w).toNat).aP k)),bl (decide ((ix (ix ((tR s).1.sT) (goS (tR s).1 w).toNat).aP k)∈acc ((tR s).1) (goS ((tR s).1) w).toNat))]) ⟨J,J,J,tV⟩ (judg.Path_ok ((tR s).1) aS w aS (ix (ix ((tR s).1.sT) (goS (tR s).1 w).toNat).aP k) O) T.ent70 (mv (xt J J (xt J J (ag (ag (nl (th (sq (rg (lPA J J T.agg25 J (mv (mv (cal0 (φs:= [agg [sl 1 rE_ ((tR t).1.aC),sl 2 sE ((tR t).1.sT)],sl 1 nE w,int (ix (ix ((tR t).1.sT) (goS (tR t).1 w).toNat).aP k1)]) (φ:=tup [sl 2 pE (pathL ((tR t).1) w (ix (ix ((tR t).1.sT) (goS (tR t).1 w).toNat).aP k1)),bl (decide ((ix (ix ((tR t).1.sT) (goS (tR t).1 w).toNat).aP k1)∈acc ((tR t).1) (goS ((tR t).1) w).toNat))]) ⟨J,J,J,tV⟩ (judg.Path_ok ((tR t).1) aS w aS (ix (ix ((tR t).1.sT) (goS (tR t).1 w).toNat).aP k1) O) T.ent70 (mv (xt J J (xt J J (ag (ag (nl (th (sq ?_))))))))))))))))))))))))))
       refine drH (nh:=9) [0,0,3,0,0,31,63,127,255] [(none,[4]),(none,[]),(none,[]),(none,[5]),(none,[]),(none,[]),(some 8,[8]),(some 9,[9]),(none,[])] T.mixed kR kR ?_
       refine stv (d:=130) (fun β0=>agg [sl 1 rE_ ((tR s).1.aC),sl 2 sE ((tR s).1.sT)]) [4] J (fun β β' hb=>J) (fun β0 _ _ _ _ gq gh kq=>lPA (gq.1.trans J) (gh.1.trans J) T.agg25 J kq) ?_
       refine stv (d:=131) (fun β0=>sl 2 pE (pathL ((tR s).1) w (ix (ix ((tR s).1.sT) (goS (tR s).1 w).toNat).aP k))) [] J (fun β β' hb=>J) (fun β0 _ _ _ _ gq gh kq=>mv' (gq.1.trans J) kq) ?_
       refine ste (d:=132) encM decM decM_enc (fun z=>WitOK (tR s).1 (pathL (tR s).1 w (ix (ix (tR s).1.sT (goS (tR s).1 w).toNat).aP k)) z) (fun z=>agg [sl 1 rE_ z.aC,sl 1 gE z.sT]) rfl (fun β0 _ _ _ _ gq gh kq=>cal (Hi:= []) (φs:= [agg [sl 1 rE_ ((tR s).1.aC),sl 2 sE ((tR s).1.sT)],sl 2 pE (pathL ((tR s).1) w (ix (ix ((tR s).1.sT) (goS (tR s).1 w).toNat).aP k))]) ⟨(gq.1.trans rfl),(gq.2.1.trans rfl),tV⟩ (witP_ok (tR s).1 hS (pathL (tR s).1 w (ix (ix (tR s).1.sT (goS (tR s).1 w).toNat).aP k)) hw1) T.ent71 trivial fun N i=>kq i.1 i.2) ?_
       refine stv (d:=133) (fun β0=>agg [sl 1 rE_ ((tR t).1.aC),sl 2 sE ((tR t).1.sT)]) [5] J (fun β β' hb=>J) (fun β0 _ _ _ _ gq gh kq=>lPA (gq.1.trans J) (gh.1.trans J) T.agg25 J kq) ?_
       refine stv (d:=134) (fun β0=>sl 2 pE (pathL ((tR t).1) w (ix (ix ((tR t).1.sT) (goS (tR t).1 w).toNat).aP k1))) [] J (fun β β' hb=>J) (fun β0 _ _ _ _ gq gh kq=>mv' (gq.1.trans J) kq) ?_
       refine ste (d:=135) encM decM decM_enc (fun z=>WitOK (tR t).1 (pathL (tR t).1 w (ix (ix (tR t).1.sT (goS (tR t).1 w).toNat).aP k1)) z) (fun z=>agg [sl 1 rE_ z.aC,sl 1 gE z.sT]) rfl (fun β0 _ _ _ _ gq gh kq=>cal (Hi:= []) (φs:= [agg [sl 1 rE_ ((tR t).1.aC),sl 2 sE ((tR t).1.sT)],sl 2 pE (pathL ((tR t).1) w (ix (ix ((tR t).1.sT) (goS (tR t).1 w).toNat).aP k1))]) ⟨(gq.1.trans rfl),(gq.2.1.trans rfl),tV⟩ (witP_ok (tR t).1 hT (pathL (tR t).1 w (ix (ix (tR t).1.sT (goS (tR t).1 w).toNat).aP k1)) hw2) T.ent71 trivial fun N i=>kq i.1 i.2) ?_
       refine stw 8 (fun β0=>cell b8 [sl 1 rE_ (decM (β0 2)).aC,sl 1 gE (decM (β0 2)).sT]) [8] J (fun β β' hb=>by first|rw[hb 2 J]|(dsimp only;rw[hb 2 J])) (fun β0 _ _ _ _ gq gh kq=>sPAW (cs':= [sl 1 rE_ (decM (β0 2)).aC,sl 1 gE (decM (β0 2)).sT]) (gq.1.trans J) (gh.1.trans J) (gq.2.1.trans J) T.agg43 J J kq) ?_
       refine stw 9 (fun β0=>cell b9 [sl 1 rE_ (decM (β0 5)).aC,sl 1 gE (decM (β0 5)).sT]) [9] J (fun β β' hb=>by first|rw[hb 5 J]|(dsimp only;rw[hb 5 J])) (fun β0 _ _ _ _ gq gh kq=>sPAW (cs':= [sl 1 rE_ (decM (β0 5)).aC,sl 1 gE (decM (β0 5)).sT]) (gq.1.trans J) (gh.1.trans J) (gq.2.1.trans J) T.agg43 J J kq) ?_
       refine stv (d:=10) (fun β0=>int 0) [] J (fun β β' hb=>J) (fun β0 _ _ _ _ gq gh kq=>ag kq) ?_
       refine pnH fun β0=>(nl (th (rt (rb (rt_ (rt_ (rb (rb (rt_ (rt_ (rb (rt_ ?_))))))))))))
       refine whXA 132 rfl fun h132=>(whXA 135 rfl fun h135=> ?_)
       exact rE ⟨((decM (β0 2),decM (β0 5)),0),parts_some hpe hh hg1 hg2 hma hmb hau h132 h135⟩ [.cell 8 43,.cell 9 43,.tmp 10] J [agg [sl 1 rE_ (decM (β0 2)).aC,sl 1 gE (decM (β0 2)).sT],agg [sl 1 rE_ (decM (β0 5)).aC,sl 1 gE (decM (β0 5)).sT],int 0] ⟨.agg J J T.agg43 J J,.agg J J T.agg43 J J,.tmp J,tV⟩ J trivial eX
      ·skip
       have hau:andI (ix (ix (tR s).1.sT (goS (tR s).1 w).toNat).aP k) (ix (ix (tR t).1.sT (goS (tR t).1 w).toNat).aP k1)≠u:=of_decide_eq_false hc5
       refine sk (eb (th (rg (bi J J (b_add i6) (mv (nl ?_))))))
       have hN0:(k1+1)≤(ix ((tR t).1.sT) (goS (tR t).1 w).toNat).aP.length:=by
        first|omega|simp_all
       have hN1:∀j,j<(k1+1)→andI (ix (ix (tR s).1.sT (goS (tR s).1 w).toNat).aP k) (ix (ix (tR t).1.sT (goS (tR t).1 w).toNat).aP j)≠u:=by
        intro j hj
        by_cases e:j=k1
        ·subst e;exact hau
        ·exact hI1 j O
       exact ln (k1+1) ⟨hN0,hN1⟩ dO ⟨id,id,id,id,id,id,id,id,id,id,id,id,id,id,tV⟩ ⟨rI,rI,rI,rI,tV⟩
     ·try simp at hc4
      refine ex (xt_ (xt_ (xb (eb (th (rg (bi J J (b_add i6) (mv (nl ?_)))))))))
      have hN0:(k+1)≤(ix ((tR s).1.sT) (goS (tR s).1 w).toNat).aP.length:=by
       first|omega|simp_all
      have hN1:∀j,j<(k+1)→∀y∈acc (tR t).1 (goS (tR t).1 w).toNat,andI (ix (ix (tR s).1.sT (goS (tR s).1 w).toNat).aP j) y≠u:=by
       intro j hj y hy
       by_cases e:j=k
       ·subst e
        obtain⟨i,hi,rfl⟩:=List.getElem_of_mem hy
        have hi:i<(ix (tR t).1.sT (goS (tR t).1 w).toNat).aP.length:=hi
        have:=hI1 i O
        rwa [ix_get hi] at this
       ·exact hI0 j O y hy
      exact ln (k+1) ⟨hN0,hN1⟩ dO ⟨id,id,id,id,id,id,id,id,id,id,tV⟩ ⟨rI,rI,rI,rI,tV⟩
    ·try simp at hc3
     refine ex (xt_ (xt_ (xb (th (sq (rg (bd (css:= []) T.st43 (eC (eC eZ)) trivial (bd (css:= []) T.st43 (eC (eC eZ)) trivial (sPA (cs':= [eqv (.slice none 0 0),eqv (.slice none 0 0)]) J J J T.agg43 J J (sPA (cs':= [eqv (.slice none 0 0),eqv (.slice none 0 0)]) J J J T.agg43 J J (ag (nl (th (rt ?_))))))))))))))
     have hnb:¬Both2 s t w u:=fun⟨_,_,_,x,hx,y,hy,hxy⟩=>by
      obtain⟨i,hi,rfl⟩:=List.getElem_of_mem hx
      have hi:i<(ix (tR s).1.sT (goS (tR s).1 w).toNat).aP.length:=hi
      have:=hI0 i O y hy
      rw[ix_get hi] at this
      exact this hxy
     refine kncA 8 0 (sl 1 rE_ []) rfl rfl slnil ?_
     refine kncA 8 1 (sl 1 gE []) rfl rfl slnil ?_
     refine kncA 9 0 (sl 1 rE_ []) rfl rfl slnil ?_
     refine kncA 9 1 (sl 1 gE []) rfl rfl slnil ?_
     exact rE ⟨((noSys,noSys),3),parts_none hpe hnb⟩ [.cell 8 43,.cell 9 43,.tmp 10] J [agg [sl 1 rE_ [],sl 1 gE []],agg [sl 1 rE_ [],sl 1 gE []],int 3] ⟨.agg J J T.agg43 J J,.agg J J T.agg43 J J,.tmp J,tV⟩ J trivial eX
theorem Next_ok (m:SSys) (hm:okSys m) (l:List Int) (hl:∀x∈l,0≤x∧x<(m.sT.length:Int)) (hll:l.length≤1000000) (a:Int):
 Fn0 Tryz.prog 82 [sys m,ints l,int a] (ints (nextM m l a)):=by
 refine fnI Tryz.func82 rfl rfl (fun w0 F0=> ?_)
 have f1:=hm.few1
 refine fcC (inhS 0 J) (fun hS0=> ?_)
 obtain⟨hma0,hms0,hme0⟩:=sys_lens hS0
 refine fcC (slenI 1 J) (fun hm1=> ?_)
 refine sq (rg (bx (key:=3) (cs:= [sl 1 rE_ m.aC,sl 1 gE m.sT]) J fun b3=>(ag (nl (th (sq (rg (fP J T.fld43_1 (lP J J J T.one41 (fc (slenI 16 J) fun hm16=>(lnF J T.sl41 (mk (key:=18) (m:=m.sT.length) (enc:=blE) (y:=false) J J T.mk143 (eC eZ) (by unfold maxL at*;omega) (by unfold maxL at*;omega) fun v18=>(ag (nl (th (sq (sq (rg (mv (lnF J T.sl36 (mv (nl (th (bk ?_))))))))))))))))))))))))
 have hI0_0:0≤l.length:=by
  first|omega|simp
 have hI0_1:NyS m l a 0 0 (List.replicate m.sT.length false):=by
  exact nys_zero
 refine lp (κ:=Nat × (List Bool)) (fun p=> [(2,int a),(3,ptr 3 b3 0),(6,eqv (.slice none 0 0)),(7,osl 18 v18),(19,sl 1 nE l),(20,int (l.length:Int)),(21,int (p.1:Int))]) (fun p=> [(3,cell b3 [sl 1 rE_ m.aC,sl 1 gE m.sT]),(18,own v18 4 1 blE p.2)]) (fun p=>(p.1≤l.length)∧(NyS m l a p.1 0 p.2)) (fun p=>l.length- p.1) ⟨0,List.replicate m.sT.length false⟩ ⟨hI0_0,hI0_1⟩ ⟨id,id,id,id,id,id,id,tV⟩ ⟨rI,rI,tV⟩ ?_
 intro⟨k,inb⟩ hG0
 obtain⟨hk0,hI0⟩:(k≤l.length)∧(NyS m l a k 0 inb):=hG0
 show Ct _ _ _ _ [(2,int a),(3,ptr 3 b3 0),(6,eqv (.slice none 0 0)),(7,osl 18 v18),(19,sl 1 nE l),(20,int (l.length:Int)),(21,int (k:Int))] [(3,cell b3 [sl 1 rE_ m.aC,sl 1 gE m.sT]),(18,own v18 4 1 blE inb)] _
 have hbl:=hI0.len
 refine sq (rg (bi J J b_lss (nl (th (sq ?_)))))
 refine cd J (fun hc0=> ?_) (fun hc0=> ?_)
 ·try simp at hc0
  have hlk:=hl _ (ix_memS hc0)
  have hes:=hm.ed (ix l k).toNat O
  have hmy:=hm.many (ix l k).toNat O
  refine sk (th (sq (bk (sq (rg (iF J J T.sl36 O gB (lF J J T.one3 (ag (nl (th (sq (rg (fP J T.fld43_1 (lP J J J T.one41 (mv (iF J J T.sl41 O gB (lF J J T.one103 (fc (slenI 29 J) fun hm29=>(lnF J T.sl103 (mv (nl (th (bk ?_)))))))))))))))))))))))
  have hI1_0:0≤(ix m.sT (ix l k).toNat).length:=by
   first|omega|simp
  have hI1_1:NyS m l a k 0 inb:=by
   exact hI0
  refine lp (κ:=Nat × (List Bool)) (fun p=> [(2,int a),(3,ptr 3 b3 0),(6,eqv (.slice none 0 0)),(7,osl 18 v18),(19,sl 1 nE l),(20,int (l.length:Int)),(21,int (k:Int)),(29,sl 2 pE (ix m.sT (ix l k).toNat)),(30,int ((ix m.sT (ix l k).toNat).length:Int)),(31,int (p.1:Int))]) (fun p=> [(3,cell b3 [sl 1 rE_ m.aC,sl 1 gE m.sT]),(18,own v18 4 1 blE p.2)]) (fun p=>(p.1≤(ix m.sT (ix l k).toNat).length)∧(NyS m l a k p.1 p.2)) (fun p=>(ix m.sT (ix l k).toNat).length- p.1) ⟨0,inb⟩ ⟨hI1_0,hI1_1⟩ ⟨id,id,id,id,id,id,id,id,id,id,tV⟩ ⟨rI,rI,tV⟩ ?_
  intro⟨k1,in2⟩ hG1
  obtain⟨hk1,hI1⟩:(k1≤(ix m.sT (ix l k).toNat).length)∧(NyS m l a k k1 in2):=hG1
  show Ct _ _ _ _ [(2,int a),(3,ptr 3 b3 0),(6,eqv (.slice none 0 0)),(7,osl 18 v18),(19,sl 1 nE l),(20,int (l.length:Int)),(21,int (k:Int)),(29,sl 2 pE (ix m.sT (ix l k).toNat)),(30,int ((ix m.sT (ix l k).toNat).length:Int)),(31,int (k1:Int))] [(3,cell b3 [sl 1 rE_ m.aC,sl 1 gE m.sT]),(18,own v18 4 1 blE in2)] _
  have hbl2:=hI1.len
  refine sq (rg (bi J J b_lss (nl (th (sq ?_)))))
  refine cd J (fun hc1=> ?_) (fun hc1=> ?_)
  ·try simp at hc1
   have hek:=hes _ (ix_memS (l:=(ix m.sT (ix l k).toNat)) (i:=k1) O)
   refine sk (th (sq (bk (sq (rg (iF J J T.sl103 O gB (lFA J T.agg105 (Nat.le_of_ble_eq_true J) (al (key:=11) T.z105 (eC (eC eZ)) fun b11=>(sPA (cs':= [int ((ix (ix m.sT (ix l k).toNat) k1).1),int ((ix (ix m.sT (ix l k).toNat) k1).2)]) J J J T.agg105 J J (nl (th (sq (rg (fP J T.fld105_0 (lP J J J T.one3 (mv (bi J J b_eql (nl (th ?_)))))))))))))))))))
   refine cd J (fun hc2=> ?_) (fun hc2=> ?_)
   ·try simp at hc2
    refine rg (mv (fP J T.fld105_1 (lP J J J T.one3 (iO J J J T.sl143 O O (sO (φ:=bl true) J J J T.one4 gB J (y':=true) J (nl (eb (th (rg (bi J J (b_add i6) (mv (nl ?_))))))))))))
    have hN0:(k1+1)≤(ix m.sT (ix l k).toNat).length:=by
     first|omega|simp_all
    have hN1:NyS m l a k (k1+1) (in2.set ((ix (ix m.sT (ix l k).toNat) k1).2).toNat true):=by
     exact nys_hit hI1 hc2 hek.2.2.1 hek.2.2.2
    exact ln (⟨k1+1,in2.set ((ix (ix m.sT (ix l k).toNat) k1).2).toNat true⟩:Nat × (List Bool)) ⟨hN0,hN1⟩ dO ⟨id,id,id,id,id,id,id,id,id,id,tV⟩ ⟨rI,rI,tV⟩
   ·try simp at hc2
    refine sk (eb (th (rg (bi J J (b_add i6) (mv (nl ?_))))))
    have hN0:(k1+1)≤(ix m.sT (ix l k).toNat).length:=by
     first|omega|simp_all
    have hN1:NyS m l a k (k1+1) in2:=by
     exact nys_miss hI1 hc2
    exact ln (⟨k1+1,in2⟩:Nat × (List Bool)) ⟨hN0,hN1⟩ dO ⟨id,id,id,id,id,id,id,id,id,id,tV⟩ ⟨rI,rI,tV⟩
  ·try simp at hc1
   refine ex (xt_ (xt_ (xb (eb (th (rg (bi J J (b_add i6) (mv (nl ?_)))))))))
   have hN0:(k+1)≤l.length:=by
    first|omega|simp_all
   have hN1:NyS m l a (k+1) 0 in2:=by
    rw[show k1=(ix m.sT (ix l k).toNat).length by omega] at hI1
    exact nys_next hI1
   exact ln (⟨k+1,in2⟩:Nat × (List Bool)) ⟨hN0,hN1⟩ dO ⟨id,id,id,id,id,id,id,tV⟩ ⟨rI,rI,tV⟩
 ·try simp at hc0
  refine ex (xt_ (xt_ (xb (th (sq (rg (nw 12 3 1 nE (ag (rtg (key:=12) 12 J (nl (th (sq (sq (rg (mv (lnO J J T.sl143 (mv (nl (th (bk ?_))))))))))))))))))))
  have hI2_0:0≤inb.length:=by
   first|omega|simp
  have hI2_1:([]:List Int)=((List.range 0).filter fun(x:Nat)=>ix inb x).map fun(x:Nat)=>(x:Int):=by
   rfl
  refine lp (κ:=Nat × Value × (List Int)) (fun p=> [(6,eqv (.slice none 0 0)),(12,osl 12 p.2.1),(45,osl 18 v18),(46,int (inb.length:Int)),(47,int (p.1:Int))]) (fun p=> [(3,cell b3 [sl 1 rE_ m.aC,sl 1 gE m.sT]),(12,own p.2.1 3 1 nE p.2.2),(18,own v18 4 1 blE inb)]) (fun p=>(p.1≤inb.length)∧(p.2.2=((List.range p.1).filter fun(x:Nat)=>ix inb x).map fun(x:Nat)=>(x:Int))) (fun p=>inb.length- p.1) ⟨0,(.slice none 0 0),([]:List Int)⟩ ⟨hI2_0,hI2_1⟩ ⟨id,id,id,id,id,tV⟩ ⟨rI,rI,rI,tV⟩ ?_
  intro⟨k2,v12x,out⟩ hG2
  obtain⟨hk2,hI2⟩:(k2≤inb.length)∧(out=((List.range k2).filter fun(x:Nat)=>ix inb x).map fun(x:Nat)=>(x:Int)):=hG2
  show Ct _ _ _ _ [(6,eqv (.slice none 0 0)),(12,osl 12 v12x),(45,osl 18 v18),(46,int (inb.length:Int)),(47,int (k2:Int))] [(3,cell b3 [sl 1 rE_ m.aC,sl 1 gE m.sT]),(12,own v12x 3 1 nE out),(18,own v18 4 1 blE inb)] _
  have hol:out.length≤k2:=by rw[hI2,List.length_map];exact Nat.le_trans (List.length_filter_le _ _) (by simp)
  refine sq (rg (bi J J b_lss (nl (th (sq ?_)))))
  refine cd J (fun hc3=> ?_) (fun hc3=> ?_)
  ·try simp at hc3
   refine sk (th (sq (bk (sq (rg (mv (iO J J J T.sl143 O O (lO J J gB J T.one4 (ag (ag (nl (th (sq (rg (mv (nl (th ?_)))))))))))))))))
   refine cd J (fun hc4=> ?_) (fun hc4=> ?_)
   ·try simp at hc4
    refine rg (mv (mv (bsE (enc:=nE) (xs:= [(k2:Int)]) (css:= [[int (k2:Int)]]) T.mk36 ⟨J,J,p1 (φ:=int (k2:Int)) J,tV⟩ J J J J (ap (key:=12) (zs:= [(k2:Int)]) osl_eq J J J T.mk36 (by unfold maxL at*;simp;omega) (by unfold maxL at*;simp;omega) fun v56=>(ag (nl (eb (th (rg (bi J J (b_add i6) (mv (nl ?_))))))))))))
    have hN0:(k2+1)≤inb.length:=by
     first|omega|simp_all
    have hN1:(out++ [(k2:Int)])=((List.range (k2+1)).filter fun(x:Nat)=>ix inb x).map fun(x:Nat)=>(x:Int):=by
     rw[List.range_succ,List.filter_append,List.map_append,←hI2]
     simp[hc4]
    exact ln (⟨k2+1,v56,out++ [(k2:Int)]⟩:Nat × Value × (List Int)) ⟨hN0,hN1⟩ dO ⟨id,id,id,id,id,tV⟩ ⟨rI,rI,rI,tV⟩
   ·try simp at hc4
    refine sk (eb (th (rg (bi J J (b_add i6) (mv (nl ?_))))))
    have hN0:(k2+1)≤inb.length:=by
     first|omega|simp_all
    have hN1:out=((List.range (k2+1)).filter fun(x:Nat)=>ix inb x).map fun(x:Nat)=>(x:Int):=by
     rw[List.range_succ,List.filter_append,List.map_append,←hI2]
     simp[hc4]
    exact ln (⟨k2+1,v12x,out⟩:Nat × Value × (List Int)) ⟨hN0,hN1⟩ dO ⟨id,id,id,id,id,tV⟩ ⟨rI,rI,rI,tV⟩
  ·try simp at hc3
   refine ex (xt_ (xt_ (xb (th (sq (rg (mv (ag (nl (th (rt ?_)))))))))))
   refine fzA 12 6 rfl rfl ?_
   have hr0:out=(nextM m l a):=by
    rw[show k=l.length by omega] at hI0
    rw[hI2,show k2=m.sT.length by have:=hI0.len;omega]
    exact nys_done hI0
   exact rE () [.tmp 6] J [sl 1 nE out] ⟨.tmp J,tV⟩ (cA1 (fun x0=>rV [sl 1 nE x0]) hr0) trivial eX
theorem After_ok (m:SSys) (hm:okSys m) (w:List Int):
 Fn0 Tryz.prog 73 [sys m,ints w] (ints (afterM m w)):=by
 refine fnI Tryz.func73 rfl rfl (fun w0 F0=> ?_)
 have f0:=hm.few0;have f1:=hm.few1
 refine fcC (inhS 0 J) (fun hS0=> ?_)
 obtain⟨hma0,hms0,hme0⟩:=sys_lens hS0
 refine fcC (slenI 1 J) (fun hm1=> ?_)
 refine sq (rg (bx (key:=2) (cs:= [sl 1 rE_ m.aC,sl 1 gE m.sT]) J fun b2=>(ag (nl (th (sq (rg (bsE (enc:=nE) (xs:= [0]) (css:= [[int 0]]) T.mk36 ⟨J,J,p1 (φ:=int 0) J,tV⟩ J J J J (ag (nl (th (sq (sq (rg (mv (lnF J T.sl36 (mv (nl (th (bk ?_))))))))))))))))))))
 have hI0_0:0≤w.length:=by
  first|omega|simp
 have hI0_1:([0]:List Int)=afterM m (w.take 0):=by
  rfl
 refine lp (κ:=Nat × (List Int)) (fun p=> [(2,ptr 2 b2 0),(4,eqv (.slice none 0 0)),(5,sl 1 nE p.2),(9,sl 1 nE w),(10,int (w.length:Int)),(11,int (p.1:Int))]) (fun p=> [(2,cell b2 [sl 1 rE_ m.aC,sl 1 gE m.sT])]) (fun p=>(p.1≤w.length)∧(p.2=afterM m (w.take p.1))) (fun p=>w.length- p.1) ⟨0,([0]:List Int)⟩ ⟨hI0_0,hI0_1⟩ ⟨id,id,id,id,id,id,tV⟩ ⟨rI,tV⟩ ?_
 intro⟨k,l⟩ hG0
 obtain⟨hk0,hI0⟩:(k≤w.length)∧(l=afterM m (w.take k)):=hG0
 show Ct _ _ _ _ [(2,ptr 2 b2 0),(4,eqv (.slice none 0 0)),(5,sl 1 nE l),(9,sl 1 nE w),(10,int (w.length:Int)),(11,int (k:Int))] [(2,cell b2 [sl 1 rE_ m.aC,sl 1 gE m.sT])] _
 refine sq (rg (bi J J b_lss (nl (th (sq ?_)))))
 refine cd J (fun hc0=> ?_) (fun hc0=> ?_)
 ·try simp at hc0
  have hlb:∀x∈l,0≤x∧x<(m.sT.length:Int):=fun x hx=>by rw[hI0] at hx;exact after_bd O _ x hx
  have hll:l.length≤m.sT.length:=by rw[hI0];exact after_len O _
  refine sk (th (sq (bk (sq (rg (iF J J T.sl36 O gB (lF J J T.one3 (ag (nl (th (rg (lPA J J T.agg43 J (mv (mv (cal0 (φs:= [agg [sl 1 rE_ m.aC,sl 1 gE m.sT],sl 1 nE l,int (ix w k)]) (φ:=sl 1 nE (nextM m l (ix w k))) ⟨J,J,J,tV⟩ (prodp.Next_ok m aS l aS O (ix w k)) T.ent82 (ag (nl (eb (th (rg (bi J J (b_add i6) (mv (nl ?_)))))))))))))))))))))))
  have hN0:(k+1)≤w.length:=by
   first|omega|simp_all
  have hN1:(nextM m l (ix w k))=afterM m (w.take (k+1)):=by
   rw[after_take hc0,←hI0]
  exact ln (⟨k+1,nextM m l (ix w k)⟩:Nat × (List Int)) ⟨hN0,hN1⟩ dO ⟨id,id,id,id,id,id,tV⟩ ⟨rI,tV⟩
 ·try simp at hc0
  refine ex (xt_ (xt_ (xb (th (sq (rg (mv (ag (nl (th (rt ?_)))))))))))
  have hr0:l=(afterM m w):=by
   rw[hI0,show k=w.length by omega,List.take_length]
  exact rE () [.tmp 4] J [sl 1 nE l] ⟨.tmp J,tV⟩ (cA1 (fun x0=>rV [sl 1 nE x0]) hr0) trivial eX
theorem Shows_ok (m n:SSys) (hm:okSys m) (hn:okSys n) (w:List Int) (u:Int):
 Fn0 Tryz.prog 25 [sys m,sys n,ints w,int u] (bl (showB m n w u)):=by
 refine fnI Tryz.func25 rfl rfl (fun w0 F0=> ?_)
 have f0:=hm.few0;have f1:=hm.few1;have g0:=hn.few0;have g1:=hn.few1
 have hla:=after_len (m:=m) O w
 have hlb:=after_len (m:=n) O w
 have hba:=after_bd (m:=m) O w
 have hbb:=after_bd (m:=n) O w
 refine fcC (inhS 0 J) (fun hS0=> ?_)
 obtain⟨hma0,hms0,hme0⟩:=sys_lens hS0
 refine fcC (inhS 1 J) (fun hS1=> ?_)
 obtain⟨hma1,hms1,hme1⟩:=sys_lens hS1
 refine fcC (slenI 2 J) (fun hm2=> ?_)
 refine sq (rg (bx (key:=4) (cs:= [sl 1 rE_ m.aC,sl 1 gE m.sT]) J fun b4=>(bx (key:=5) (cs:= [sl 1 rE_ n.aC,sl 1 gE n.sT]) J fun b5=>(ag (nl (th (sq (sq (rg (lPA J J T.agg43 J (mv (cal0 (φs:= [agg [sl 1 rE_ m.aC,sl 1 gE m.sT],sl 1 nE w]) (φ:=sl 1 nE (afterM m w)) ⟨J,J,tV⟩ (prodp.After_ok m aS w) T.ent73 (fc (slenI 15 J) fun hm15=>(lnF J T.sl36 (mv (nl (th (bk ?_))))))))))))))))))
 have hI0_0:0≤(afterM m w).length:=by
  first|omega|simp
 have hI0_1:∀j,j<0→∀y∈afterM n w,andI (offM m (ix (afterM m w) j).toNat) (offM n y.toNat)≠u:=by
  intro j hj;omega
 refine lp (κ:=Nat) (fun p=> [(2,sl 1 nE w),(3,int u),(4,ptr 4 b4 0),(5,ptr 5 b5 0),(15,sl 1 nE (afterM m w)),(16,int ((afterM m w).length:Int)),(17,int (p:Int))]) (fun p=> [(4,cell b4 [sl 1 rE_ m.aC,sl 1 gE m.sT]),(5,cell b5 [sl 1 rE_ n.aC,sl 1 gE n.sT])]) (fun p=>(p≤(afterM m w).length)∧(∀j,j<p→∀y∈afterM n w,andI (offM m (ix (afterM m w) j).toNat) (offM n y.toNat)≠u)) (fun p=>(afterM m w).length- p) 0 ⟨hI0_0,hI0_1⟩ ⟨id,id,id,id,id,id,id,tV⟩ ⟨rI,rI,tV⟩ ?_
 intro k hG0
 obtain⟨hk0,hI0⟩:(k≤(afterM m w).length)∧(∀j,j<k→∀y∈afterM n w,andI (offM m (ix (afterM m w) j).toNat) (offM n y.toNat)≠u):=hG0
 refine sq (rg (bi J J b_lss (nl (th (sq ?_)))))
 refine cd J (fun hc0=> ?_) (fun hc0=> ?_)
 ·try simp at hc0
  have hxk:=hba _ (ix_memS (l:=afterM m w) (i:=k) O)
  have hm8:=off8 hm (x:=(ix (afterM m w) k).toNat) O
  have hob:=offM_bd hm (x:=(ix (afterM m w) k).toNat) O
  refine sk (th (sq (bk (sq (rg (iF J J T.sl36 O gB (lF J J T.one3 (ag (nl (th (sq (rg (lPA J J T.agg43 J (mv (cal0 (φs:= [agg [sl 1 rE_ n.aC,sl 1 gE n.sT],sl 1 nE w]) (φ:=sl 1 nE (afterM n w)) ⟨J,J,tV⟩ (prodp.After_ok n aS w) T.ent73 (fc (slenI 23 J) fun hm23=>(lnF J T.sl36 (mv (nl (th (bk ?_)))))))))))))))))))))
  have hI1_0:0≤(afterM n w).length:=by
   first|omega|simp
  have hI1_1:∀j,j<0→andI (offM m (ix (afterM m w) k).toNat) (offM n (ix (afterM n w) j).toNat)≠u:=by
   intro j hj;omega
  refine lp (κ:=Nat) (fun p=> [(2,sl 1 nE w),(3,int u),(4,ptr 4 b4 0),(5,ptr 5 b5 0),(10,int (ix (afterM m w) k)),(15,sl 1 nE (afterM m w)),(16,int ((afterM m w).length:Int)),(17,int (k:Int)),(23,sl 1 nE (afterM n w)),(24,int ((afterM n w).length:Int)),(25,int (p:Int))]) (fun p=> [(4,cell b4 [sl 1 rE_ m.aC,sl 1 gE m.sT]),(5,cell b5 [sl 1 rE_ n.aC,sl 1 gE n.sT])]) (fun p=>(p≤(afterM n w).length)∧(∀j,j<p→andI (offM m (ix (afterM m w) k).toNat) (offM n (ix (afterM n w) j).toNat)≠u)) (fun p=>(afterM n w).length- p) 0 ⟨hI1_0,hI1_1⟩ ⟨id,id,id,id,id,id,id,id,id,id,id,tV⟩ ⟨rI,rI,tV⟩ ?_
  intro k1 hG1
  obtain⟨hk1,hI1⟩:(k1≤(afterM n w).length)∧(∀j,j<k1→andI (offM m (ix (afterM m w) k).toNat) (offM n (ix (afterM n w) j).toNat)≠u):=hG1
  refine sq (rg (bi J J b_lss (nl (th (sq ?_)))))
  refine cd J (fun hc1=> ?_) (fun hc1=> ?_)
  ·try simp at hc1
   have hyk:=hbb _ (ix_memS (l:=afterM n w) (i:=k1) O)
   have hn8:=off8 hn (x:=(ix (afterM n w) k1).toNat) O
   have hpb:=offM_bd hn (x:=(ix (afterM n w) k1).toNat) O
   refine sk (th (sq (bk (sq (rg (iF J J T.sl36 O gB (lF J J T.one3 (ag (nl (th (sq (dr (nh:=9) [0,0,3,0,0,31,63,0,255] T.mixed kR ?_))))))))))))
   refine st_ J (fun _ _ _ gq kq=>lPA (gq.1.trans J) J T.agg43 J kq) ?_
   refine st_ J (fun _ _ _ gq kq=>mv' (gq.1.trans J) kq) ?_
   refine st_ J (fun _ _ _ gq kq=>cal0 (φs:= [agg [sl 1 rE_ m.aC,sl 1 gE m.sT],int (ix (afterM m w) k)]) (φ:=int (offM m (ix (afterM m w) k).toNat)) ⟨(gq.1.trans J),(gq.2.1.trans J),tV⟩ (divs.Offer_ok m (ix (afterM m w) k) aS O O) T.ent74 kq) ?_
   refine st_ J (fun _ _ _ gq kq=>lPA (gq.1.trans J) J T.agg43 J kq) ?_
   refine st_ J (fun _ _ _ gq kq=>mv' (gq.1.trans J) kq) ?_
   refine st_ J (fun _ _ _ gq kq=>cal0 (φs:= [agg [sl 1 rE_ n.aC,sl 1 gE n.sT],int (ix (afterM n w) k1)]) (φ:=int (offM n (ix (afterM n w) k1).toNat)) ⟨(gq.1.trans J),(gq.2.1.trans J),tV⟩ (divs.Offer_ok n (ix (afterM n w) k1) aS O O) T.ent74 kq) ?_
   refine st_ J (fun _ _ _ gq kq=>bi (gq.1.trans J) (gq.2.1.trans J) (b_andI O O O O) kq) ?_
   refine st_ J (fun _ _ _ gq kq=>mv' (gq.1.trans J) kq) ?_
   refine st_ J (fun _ _ _ gq kq=>bi (gq.1.trans J) (gq.2.1.trans J) b_eql kq) ?_
   refine pn (nl (th ?_))
   refine cd J (fun hc2=> ?_) (fun hc2=> ?_)
   ·skip
    have hau:andI (offM m (ix (afterM m w) k).toNat) (offM n (ix (afterM n w) k1).toNat)=u:=of_decide_eq_true hc2
    refine sq (rg (ag (nl (th (rt (rb (rt_ (rt_ (rb (rb (rt_ (rt_ (rb (rt_ ?_))))))))))))))
    have hr0:true=(showB m n w u):=by
     unfold showB
     symm
     rw[List.any_eq_true]
     exact⟨_,ix_memS (l:=afterM m w) (i:=k) O,List.any_eq_true.2 ⟨_,ix_memS (l:=afterM n w) (i:=k1) O,decide_eq_true hau⟩⟩
    exact rE () [.tmp 8] J [bl true] ⟨.tmp J,tV⟩ (cA1 (fun x0=>rV [bl x0]) hr0) trivial eX
   ·skip
    have hau:andI (offM m (ix (afterM m w) k).toNat) (offM n (ix (afterM n w) k1).toNat)≠u:=of_decide_eq_false hc2
    refine sk (eb (th (rg (bi J J (b_add i6) (mv (nl ?_))))))
    have hN0:(k1+1)≤(afterM n w).length:=by
     first|omega|simp_all
    have hN1:∀j,j<(k1+1)→andI (offM m (ix (afterM m w) k).toNat) (offM n (ix (afterM n w) j).toNat)≠u:=by
     intro j hj
     by_cases e:j=k1
     ·subst e;exact hau
     ·exact hI1 j O
    exact ln (k1+1) ⟨hN0,hN1⟩ dO ⟨id,id,id,id,id,id,id,id,id,id,id,tV⟩ ⟨rI,rI,tV⟩
  ·try simp at hc1
   refine ex (xt_ (xt_ (xb (eb (th (rg (bi J J (b_add i6) (mv (nl ?_)))))))))
   have hN0:(k+1)≤(afterM m w).length:=by
    first|omega|simp_all
   have hN1:∀j,j<(k+1)→∀y∈afterM n w,andI (offM m (ix (afterM m w) j).toNat) (offM n y.toNat)≠u:=by
    intro j hj y hy
    by_cases e:j=k
    ·subst e
     obtain⟨i,hi,rfl⟩:=List.getElem_of_mem hy
     have:=hI1 i O
     rwa [ix_get hi] at this
    ·exact hI0 j O y hy
   exact ln (k+1) ⟨hN0,hN1⟩ dO ⟨id,id,id,id,id,id,id,tV⟩ ⟨rI,rI,tV⟩
 ·try simp at hc0
  refine ex (xt_ (xt_ (xb (th (sq (rg (ag (nl (th (rt ?_))))))))))
  have hr0:false=(showB m n w u):=by
   unfold showB
   symm
   rw[List.any_eq_false]
   intro x hx g
   obtain⟨y,hy,g⟩:=List.any_eq_true.1 g
   obtain⟨i,hi,rfl⟩:=List.getElem_of_mem hx
   have:=hI0 i O y hy
   rw[ix_get hi] at this
   exact this (of_decide_eq_true g)
  exact rE () [.tmp 8] J [bl false] ⟨.tmp J,tV⟩ (cA1 (fun x0=>rV [bl x0]) hr0) trivial eX
end prodp
end
section
namespace ForkM
open ref01 ref03 ref04 ref06 prog15 starts Part Rungs LeftM TrimM RoundM MergeM BisM BisM4 BisM5 BisM6 WalkM StepM WitM JudgM JudgM2 divr divs divd dive divg divw divv refj sysw judg ChsM BisS TrimI ValidM WitSat WitVal FailM FitM QuoM DivM RefM GenW CompM CompP EncM prodc prodm prodp
theorem parts_yes {s t:SS} {w:List Int} {u:Int} {z:(SSys × SSys) × Int} (hs:specOK s=true) (ht:specOK t=true) (hst:s.aC=t.aC) (hw:wordOK (s.aC.length:Int) w=true) (hp:partE s t w u=0) (hB:Both2 s t w u) (h:PartsOK s t w u z):
 z.2=0∧madeB z.1.1 s=true∧madeB z.1.2 t=true∧showB z.1.1 z.1.2 w u=true:=by
 obtain⟨h0,a,b,ha,hb,hab,hm,hn⟩:=h.some hp hB
 obtain⟨n1,n2⟩:=not_hol2 hB.1
 have hwl:=word_len hw
 have ls:s.sT.length≤500:=by unfold specOK at hs;simp only [Bool.and_eq_true,decide_eq_true_eq] at hs;exact hs.1.2
 have lt:t.sT.length≤500:=by unfold specOK at ht;simp only [Bool.and_eq_true,decide_eq_true_eq] at ht;exact ht.1.2
 obtain⟨g1,x,hx,ex⟩:=path_made (okSpec_of hs) ls n1 (fun k hk=>word_ix hw hk) O hB.2.1 ha hm
 obtain⟨g2,y,hy,ey⟩:=path_made (okSpec_of ht) lt n2 (fun k hk=>by rw[←hst];exact word_ix hw hk) O hB.2.2.1 hb hn
 refine⟨h0,g1,g2,?_⟩
 unfold showB
 exact List.any_eq_true.2 ⟨x,hx,List.any_eq_true.2 ⟨y,hy,decide_eq_true (by rw[ex,ey];exact hab)⟩⟩
theorem made_ok {m:SSys} {s:SS} (h:madeB m s=true):okSys m:=by
 unfold madeB at h
 rw[Bool.and_eq_true,Bool.and_eq_true] at h
 exact sysOK_ok h.1.1
def forkS:SS:=⟨[⟨#[97]⟩,⟨#[98]⟩],[⟨[1,2],[0,0]⟩]⟩
def wantS:SS:=⟨[⟨#[97]⟩,⟨#[98]⟩],[⟨[0,1,2],[0,0]⟩]⟩
theorem fork_valid:specOK forkS=true:=by decide+kernel
theorem want_valid:specOK wantS=true:=by decide+kernel
theorem fork_okS:oK forkS:=okSpec_of fork_valid
theorem want_okS:oK wantS:=okSpec_of want_valid
theorem fork_fine:fineE forkS forkS=0:=by
 unfold fineE
 rw[if_pos ⟨fork_valid,fork_valid⟩,if_pos rfl]
theorem fork_not:ix (hOl forkS) 0=false:=CompP.not_hol (by decide) (by decide)
theorem fork_hol:¬hol2 forkS forkS:=by
 unfold hol2
 rw[fork_not];simp
theorem fork_trim:(tR forkS).1=forkS:=by
 have hs:=fork_okS
 have hn:=fork_not
 have ho:ordS forkS= [0]:=by
  have h1:(ordS forkS).length≤1:=ord_le hs
  have h2:=ordS_pos forkS
  have h3:=BisM2.ord_zero forkS
  match hq:ordS forkS,h1,h2,h3 with
  | [y],_,_,h3=>rw[show y=0 from h3]
 have hk:keep forkS 0= [1,2]:=keep_all hs (by decide) (by decide)
 rw[trimmed_not hn]
 show(⟨forkS.aC,(ordS forkS).map (tstate forkS)⟩:SS)=forkS
 rw[ho]
 show(⟨forkS.aC,[tstate forkS 0]⟩:SS)=forkS
 unfold tstate tnext
 rw[show(0:Int).toNat=0 from rfl,hk,ho]
 decide
theorem fork_A:cA forkS forkS (0,0)= [0,1,2]:=by decide
theorem fork_ref:RefC forkS forkS wantS:=by
 refine⟨rfl,fun h=>absurd h fork_hol,fun _=>⟨[(0,0)],?_,by decide⟩⟩
 rw[fork_trim]
 refine⟨⟨rfl,by decide,by decide,rfl,fun i hi=> ?_,fun i hi=> ?_,fun i hi a ha=> ?_,fun i hi a ha hh=> ?_⟩,fun p hp=> ?_,rfl⟩
 ·obtain rfl:i=0:=by have hi:i<1:=hi;omega
  show _=cA forkS forkS (0,0)
  rw[fork_A];rfl
 ·obtain rfl:i=0:=by have hi:i<1:=hi;omega
  rfl
 ·obtain rfl:i=0:=by have hi:i<1:=hi;omega
  have hA:cA forkS forkS (ix [((0,0):PP)] 0)= [0,1,2]:=fork_A
  rw[hA]
  have ha:a<2:=ha
  match a,ha with
  |0,_=>decide
  |1,_=>decide
 ·obtain rfl:i=0:=by have hi:i<1:=hi;omega
  have ha:a<2:=ha
  match a,ha with
  |0,_=>decide
  |1,_=>decide
 ·rw[List.mem_singleton.1 hp];exact c_zero fork_okS fork_okS
theorem fork_com:(comS forkS forkS).2=true:=by
 cases e:(comS forkS forkS).2 with
 |true=>rfl
 |false=>
  have:=com_large fork_okS fork_okS e
  exact absurd this (by decide)
theorem fork_cmp:(cmpS forkS forkS).2=0∧fineR (cmpS forkS forkS).1 wantS=true:=by
 have hS:=com_same fork_okS fork_okS fork_ref (by decide) fork_com
 have e:cmpS forkS forkS=((comS forkS forkS).1,0):=by unfold cmpS;rw[if_pos fork_fine,if_pos fork_com]
 rw[e]
 exact⟨rfl,fine_same hS⟩
theorem fork_word:wordOK (forkS.aC.length:Int) [0,1]=true:=by decide
theorem fork_part:partE forkS forkS [0,1] 0=0:=by
 unfold partE
 rw[if_pos fork_fine,if_pos ⟨fork_word,by decide⟩]
theorem fork_both:Both2 forkS forkS [0,1] 0:=by
 refine⟨fork_hol,?_⟩
 rw[fork_trim]
 exact⟨by decide,by decide,1,by decide,2,by decide,by decide⟩
theorem fork_parts {z:(SSys × SSys) × Int} (h:PartsOK forkS forkS [0,1] 0 z):z.2=0∧madeB z.1.1 forkS=true∧madeB z.1.2 forkS=true∧showB z.1.1 z.1.2 [0,1] 0=true:=
 parts_yes fork_valid fork_valid rfl fork_word fork_part fork_both h
end ForkM
end
section
open ref01 ref03 ref04 ref06 prog prog2 prog3 prog4 prog5 prog6 prog7 prog8 prog9 prog13 prog15 starts Part Rungs LeftM TrimM Itoa Keys RoundM MergeM BisM BisM4 BisM5 WalkM StepM WitM JudgM JudgM2 refw judg wit refj sysw divr divs divd dive divg divw divv LevM LevM2 ChsM TrimI QuoM FailM DivM RefM GenW CompM CrossM CompP EncM prodc divp prodm prodp ForkM
theorem few_leC {s:SS} {k:Int} (h:few s k=true):(size s:Int)≤k:=by unfold few at h;simpa using h
namespace T
theorem ent53:Ent Tryz.prog 53:=ent_of kR
theorem ent15:Ent Tryz.prog 15:=ent_of kR
theorem ent22:Ent Tryz.prog 22:=ent_of kR
theorem ent54:Ent Tryz.prog 54:=ent_of kR
theorem ent24:Ent Tryz.prog 24:=ent_of kR
theorem ent25:Ent Tryz.prog 25:=ent_of kR
end T
namespace prodk
theorem fork_ok:
 Fn0 Tryz.prog 53 [] (spec forkS):=by
 refine fnI Tryz.func53 rfl rfl (fun w0 F0=> ?_)
 refine sq (rg (al (key:=0) T.z25 (eC (eC eZ)) fun b0=>(nl (th (sq (rg (bsE (enc:=rE_) (xs:= [({ data:= #[97] }),({ data:= #[98] })]) (css:= [[str ({ data:= #[97] })],[str ({ data:= #[98] })]]) T.mk22 ⟨J,J,p1 (φ:=str ({ data:= #[97] })) J,⟨J,J,p1 (φ:=str ({ data:= #[98] })) J,tV⟩⟩ J J J J (bsE (enc:=nE) (xs:= [1,2]) (css:= [[int 1],[int 2]]) T.mk36 ⟨J,J,p1 (φ:=int 1) J,⟨J,J,p1 (φ:=int 2) J,tV⟩⟩ J J J J (bsE (enc:=nE) (xs:= [0,0]) (css:= [[int 0],[int 0]]) T.mk36 ⟨J,J,p1 (φ:=int 0) J,⟨J,J,p1 (φ:=int 0) J,tV⟩⟩ J J J J (bd (css:= [(0,_),(1,_)]) T.st81 (eC (eC eZ)) ⟨J,J,p1 (φ:=sl 1 nE [1,2]) J,⟨J,J,p1 (φ:=sl 1 nE [0,0]) J,tV⟩⟩ (bsE (enc:=sE) (xs:= [(⟨[1,2],[0,0]⟩)]) (css:= [[sl 1 nE [1,2],sl 1 nE [0,0]]]) T.mk23 ⟨J,J,pA (cs:= [sl 1 nE [1,2],sl 1 nE [0,0]]) J,tV⟩ J J J J (bd (css:= [(0,_),(1,_)]) T.st25 (eC (eC eZ)) ⟨J,J,p1 (φ:=sl 1 rE_ [({ data:= #[97] }),({ data:= #[98] })]) J,⟨J,J,p1 (φ:=sl 2 sE [(⟨[1,2],[0,0]⟩)]) J,tV⟩⟩ (sPA (cs':= [sl 1 rE_ [({ data:= #[97] }),({ data:= #[98] })],sl 2 sE [(⟨[1,2],[0,0]⟩)]]) J J J T.agg25 J J (nl (th (rt ?_))))))))))))))))
 have hr0: [({ data:= #[97] }),({ data:= #[98] })]=forkS.aC:=by
  first|rfl|simp_all|omega
 have hr1: [(⟨[1,2],[0,0]⟩)]=forkS.sT:=by
  first|rfl|simp_all|omega
 exact rE () [.cell 0 25] J [agg [sl 1 rE_ [({ data:= #[97] }),({ data:= #[98] })],sl 2 sE [(⟨[1,2],[0,0]⟩)]]] ⟨.agg J J T.agg25 J J,tV⟩ (cA2 (fun x0 x1=>rV [agg [sl 1 rE_ x0,sl 2 sE x1]]) hr0 hr1) trivial eX
theorem awake_ok:
 AL.Fn Tryz.prog 12 [] [(998,ambH tab)] (ι:=Unit) (fun _ _=>bl true) (fun _=> []):=by
 refine fnI Tryz.func12 rfl rfl (fun w0 F0=> ?_)
 have hfk:smallSpec forkS:=fork_okS.small;have hfo:=fork_okS;have hwo:=want_okS
 refine tbH 9999 998 rfl ?_
 refine sq (rg (ag (nl (th (sq (rg (cal0 (φs:= []) (φ:=agg [sl 1 rE_ forkS.aC,sl 2 sE forkS.sT]) trivial prodk.fork_ok T.ent53 (cal0 (φs:= []) (φ:=agg [sl 1 rE_ forkS.aC,sl 2 sE forkS.sT]) trivial prodk.fork_ok T.ent53 (tbU (ψ:=tab) 8 9999 J J (cal0 (φs:= [both (agg [sl 1 rE_ forkS.aC,sl 2 sE forkS.sT]) tab,agg [sl 1 rE_ forkS.aC,sl 2 sE forkS.sT]]) (φ:=tup [agg [sl 1 rE_ ((cmpS forkS forkS).1).aC,sl 2 sE ((cmpS forkS forkS).1).sT],int ((cmpS forkS forkS).2)]) ⟨J,J,tV⟩ (prodc.Compose_ok forkS forkS aS aS) T.ent15 (mv (xt J J (xt J J (al (key:=1) T.z25 (eC (eC eZ)) fun b1=>(sPA (cs':= [sl 1 rE_ ((cmpS forkS forkS).1).aC,sl 2 sE ((cmpS forkS forkS).1).sT]) J J J T.agg25 J J (ag (nl (th (sq (rg (bsE (enc:=rE_) (xs:= [({ data:= #[97] }),({ data:= #[98] })]) (css:= [[str ({ data:= #[97] })],[str ({ data:= #[98] })]]) T.mk22 ⟨J,J,p1 (φ:=str ({ data:= #[97] })) J,⟨J,J,p1 (φ:=str ({ data:= #[98] })) J,tV⟩⟩ J J J J (bsE (enc:=nE) (xs:= [0,1,2]) (css:= [[int 0],[int 1],[int 2]]) T.mk36 ⟨J,J,p1 (φ:=int 0) J,⟨J,J,p1 (φ:=int 1) J,⟨J,J,p1 (φ:=int 2) J,tV⟩⟩⟩ J J J J (bsE (enc:=nE) (xs:= [0,0]) (css:= [[int 0],[int 0]]) T.mk36 ⟨J,J,p1 (φ:=int 0) J,⟨J,J,p1 (φ:=int 0) J,tV⟩⟩ J J J J (bd (css:= [(0,_),(1,_)]) T.st81 (eC (eC eZ)) ⟨J,J,p1 (φ:=sl 1 nE [0,1,2]) J,⟨J,J,p1 (φ:=sl 1 nE [0,0]) J,tV⟩⟩ (bsE (enc:=sE) (xs:= [(⟨[0,1,2],[0,0]⟩)]) (css:= [[sl 1 nE [0,1,2],sl 1 nE [0,0]]]) T.mk23 ⟨J,J,pA (cs:= [sl 1 nE [0,1,2],sl 1 nE [0,0]]) J,tV⟩ J J J J (bd (css:= [(0,_),(1,_)]) T.st25 (eC (eC eZ)) ⟨J,J,p1 (φ:=sl 1 rE_ [({ data:= #[97] }),({ data:= #[98] })]) J,⟨J,J,p1 (φ:=sl 2 sE [(⟨[0,1,2],[0,0]⟩)]) J,tV⟩⟩ (kn 18 (spec wantS) J (fun h=>h) (al (key:=3) T.z25 (eC (eC eZ)) fun b3=>(sPA (cs':= [sl 1 rE_ wantS.aC,sl 2 sE wantS.sT]) J J J T.agg25 J J (nl (th (sq (rg (cal0 (φs:= []) (φ:=agg [sl 1 rE_ forkS.aC,sl 2 sE forkS.sT]) trivial prodk.fork_ok T.ent53 (cal0 (φs:= []) (φ:=agg [sl 1 rE_ forkS.aC,sl 2 sE forkS.sT]) trivial prodk.fork_ok T.ent53 (bsE (enc:=nE) (xs:= [0,1]) (css:= [[int 0],[int 1]]) T.mk36 ⟨J,J,p1 (φ:=int 0) J,⟨J,J,p1 (φ:=int 1) J,tV⟩⟩ J J J J (cl (prodp.Parts_ok forkS forkS aS aS [0,1] 0) T.ent22 trivial fun N23 i23=> ?_)))))))))))))))))))))))))))))))))))))
 have hpf:=fork_parts i23.2
 have hm1:=made_ok hpf.2.1
 have hm2:=made_ok hpf.2.2.1
 refine mv (xt rfl rfl (xt rfl rfl (xt rfl rfl (al (key:=4) T.z43 (eC (eC eZ)) fun b4=>(al (key:=5) T.z43 (eC (eC eZ)) fun b5=>(sPA (cs':= [sl 1 rE_ i23.1.1.1.aC,sl 1 gE i23.1.1.1.sT]) rfl rfl rfl T.agg43 rfl rfl (sPA (cs':= [sl 1 rE_ i23.1.1.2.aC,sl 1 gE i23.1.1.2.sT]) rfl rfl rfl T.agg43 rfl rfl (ag (nl (th (sq (dr (nh:=28) [0,1,3,7,7,31,63,127,255,511,1023,2047,4095,4095,16383,32767,65535,131071,131071,524287,1048575,2097151,4194303,4194303,4194303,33554431,67108863,134217727] T.mixed kR ?_))))))))))))
 refine st_ J (fun _ _ _ gq kq=>mv' (gq.1.trans J) kq) ?_
 refine st_ J (fun _ _ _ gq kq=>bi (gq.1.trans J) J b_eql kq) ?_
 refine st_ J (fun _ _ _ gq kq=>mv' (gq.1.trans J) kq) ?_
 refine sg_ (φ:=agg [sl 1 rE_ ((cmpS forkS forkS).1).aC,sl 2 sE ((cmpS forkS forkS).1).sT]) J J J J (List.mem_of_elem_eq_true J) (fun hgd=> ?_) ?_
 ·have hgd':=hgd
  try simp at hgd'
  exact fun _ _ _ gq kq=>lPA (gq.1.trans J) J T.agg25 J kq
 refine sg_ (φ:=agg [sl 1 rE_ wantS.aC,sl 2 sE wantS.sT]) J J J J (List.mem_of_elem_eq_true J) (fun hgd=> ?_) ?_
 ·have hgd':=hgd
  try simp at hgd'
  exact fun _ _ _ gq kq=>lPA (gq.1.trans J) J T.agg25 J kq
 refine sg_ (φ:=bl (fineR ((cmpS forkS forkS).1) wantS)) J J J J (List.mem_of_elem_eq_true J) (fun hgd=> ?_) ?_
 ·have hgd':=hgd
  try simp at hgd'
  exact fun _ _ _ gq kq=>cal0 (φs:= [agg [sl 1 rE_ ((cmpS forkS forkS).1).aC,sl 2 sE ((cmpS forkS forkS).1).sT],agg [sl 1 rE_ wantS.aC,sl 2 sE wantS.sT]]) (φ:=bl (fineR ((cmpS forkS forkS).1) wantS)) ⟨(gq.1.trans (gif_t hgd)),(gq.2.1.trans (gif_t hgd)),tV⟩ (dive.Fine_ok ((cmpS forkS forkS).1) wantS aS) T.ent54 kq
 refine st_ J (fun _ _ _ gq kq=>pk (gq.1.trans J) (pk_and (x:= .tmp 29) (gq.1.trans J) (gq.2.1.trans J) J) kq) ?_
 refine st_ J (fun _ _ _ gq kq=>mv' (gq.1.trans J) kq) ?_
 refine sg_ (φ:=int i23.1.2) J J J J (List.mem_of_elem_eq_true J) (fun hgd=> ?_) ?_
 ·have hgd':=hgd
  try simp at hgd'
  exact fun _ _ _ gq kq=>mv' (gq.1.trans J) kq
 refine sg_ (φ:=bl (decide (i23.1.2=0))) J J J J (List.mem_of_elem_eq_true J) (fun hgd=> ?_) ?_
 ·have hgd':=hgd
  try simp at hgd'
  exact fun _ _ _ gq kq=>bi (gq.1.trans (gif_t hgd)) J b_eql kq
 refine st_ J (fun _ _ _ gq kq=>pk (gq.1.trans J) (pk_and (x:= .tmp 34) (gq.1.trans J) (gq.2.1.trans J) J) kq) ?_
 refine st_ J (fun _ _ _ gq kq=>mv' (gq.1.trans J) kq) ?_
 refine sg_ (φ:=agg [sl 1 rE_ i23.1.1.1.aC,sl 1 gE i23.1.1.1.sT]) J J J J (List.mem_of_elem_eq_true J) (fun hgd=> ?_) ?_
 ·have hgd':=hgd
  try simp at hgd'
  exact fun _ _ _ gq kq=>lPA (gq.1.trans J) J T.agg43 J kq
 refine sg_ (φ:=agg [sl 1 rE_ forkS.aC,sl 2 sE forkS.sT]) J J J J (List.mem_of_elem_eq_true J) (fun hgd=> ?_) ?_
 ·have hgd':=hgd
  try simp at hgd'
  exact fun _ _ _ gq kq=>cal0 (φs:= []) (φ:=agg [sl 1 rE_ forkS.aC,sl 2 sE forkS.sT]) trivial prodk.fork_ok T.ent53 kq
 refine sg_ (φ:=bl (madeB i23.1.1.1 forkS)) J J J J (List.mem_of_elem_eq_true J) (fun hgd=> ?_) ?_
 ·have hgd':=hgd
  try simp at hgd'
  exact fun _ _ _ gq kq=>cal0 (φs:= [agg [sl 1 rE_ i23.1.1.1.aC,sl 1 gE i23.1.1.1.sT],agg [sl 1 rE_ forkS.aC,sl 2 sE forkS.sT]]) (φ:=bl (madeB i23.1.1.1 forkS)) ⟨(gq.1.trans (gif_t hgd)),(gq.2.1.trans (gif_t hgd)),tV⟩ (divg.Made_ok i23.1.1.1 forkS aS) T.ent24 kq
 refine st_ J (fun _ _ _ gq kq=>pk (gq.1.trans J) (pk_and (x:= .tmp 38) (gq.1.trans J) (gq.2.1.trans J) J) kq) ?_
 refine st_ J (fun _ _ _ gq kq=>mv' (gq.1.trans J) kq) ?_
 refine sg_ (φ:=agg [sl 1 rE_ i23.1.1.2.aC,sl 1 gE i23.1.1.2.sT]) J J J J (List.mem_of_elem_eq_true J) (fun hgd=> ?_) ?_
 ·have hgd':=hgd
  try simp at hgd'
  exact fun _ _ _ gq kq=>lPA (gq.1.trans J) J T.agg43 J kq
 refine sg_ (φ:=agg [sl 1 rE_ forkS.aC,sl 2 sE forkS.sT]) J J J J (List.mem_of_elem_eq_true J) (fun hgd=> ?_) ?_
 ·have hgd':=hgd
  try simp at hgd'
  exact fun _ _ _ gq kq=>cal0 (φs:= []) (φ:=agg [sl 1 rE_ forkS.aC,sl 2 sE forkS.sT]) trivial prodk.fork_ok T.ent53 kq
 refine sg_ (φ:=bl (madeB i23.1.1.2 forkS)) J J J J (List.mem_of_elem_eq_true J) (fun hgd=> ?_) ?_
 ·have hgd':=hgd
  try simp at hgd'
  exact fun _ _ _ gq kq=>cal0 (φs:= [agg [sl 1 rE_ i23.1.1.2.aC,sl 1 gE i23.1.1.2.sT],agg [sl 1 rE_ forkS.aC,sl 2 sE forkS.sT]]) (φ:=bl (madeB i23.1.1.2 forkS)) ⟨(gq.1.trans (gif_t hgd)),(gq.2.1.trans (gif_t hgd)),tV⟩ (divg.Made_ok i23.1.1.2 forkS aS) T.ent24 kq
 refine st_ J (fun _ _ _ gq kq=>pk (gq.1.trans J) (pk_and (x:= .tmp 43) (gq.1.trans J) (gq.2.1.trans J) J) kq) ?_
 refine st_ J (fun _ _ _ gq kq=>mv' (gq.1.trans J) kq) ?_
 refine sg_ (φ:=agg [sl 1 rE_ i23.1.1.1.aC,sl 1 gE i23.1.1.1.sT]) J J J J (List.mem_of_elem_eq_true J) (fun hgd=> ?_) ?_
 ·have hgd':=hgd
  try simp at hgd'
  exact fun _ _ _ gq kq=>lPA (gq.1.trans J) J T.agg43 J kq
 refine sg_ (φ:=agg [sl 1 rE_ i23.1.1.2.aC,sl 1 gE i23.1.1.2.sT]) J J J J (List.mem_of_elem_eq_true J) (fun hgd=> ?_) ?_
 ·have hgd':=hgd
  try simp at hgd'
  exact fun _ _ _ gq kq=>lPA (gq.1.trans J) J T.agg43 J kq
 refine sg_ (φ:=sl 1 nE [0,1]) J J J J (List.mem_of_elem_eq_true J) (fun hgd=> ?_) ?_
 ·have hgd':=hgd
  try simp at hgd'
  exact fun _ _ _ gq kq=>bsE (enc:=nE) (xs:= [0,1]) (css:= [[int 0],[int 1]]) T.mk36 ⟨J,J,p1 (φ:=int 0) J,⟨J,J,p1 (φ:=int 1) J,tV⟩⟩ J J J J kq
 refine sg_ (φ:=bl (showB i23.1.1.1 i23.1.1.2 [0,1] 0)) J J J J (List.mem_of_elem_eq_true J) (fun hgd=> ?_) ?_
 ·have hgd':=hgd
  try simp at hgd'
  exact fun _ _ _ gq kq=>cal0 (φs:= [agg [sl 1 rE_ i23.1.1.1.aC,sl 1 gE i23.1.1.1.sT],agg [sl 1 rE_ i23.1.1.2.aC,sl 1 gE i23.1.1.2.sT],sl 1 nE [0,1],int 0]) (φ:=bl (showB i23.1.1.1 i23.1.1.2 [0,1] 0)) ⟨(gq.1.trans (gif_t hgd)),(gq.2.1.trans (gif_t hgd)),(gq.2.2.1.trans (gif_t hgd)),J,tV⟩ (prodp.Shows_ok i23.1.1.1 i23.1.1.2 aS aS [0,1] 0) T.ent25 kq
 refine st_ J (fun _ _ _ gq kq=>pk (gq.1.trans J) (pk_and (x:= .tmp 48) (gq.1.trans J) (gq.2.1.trans J) J) kq) ?_
 refine st_ J (fun _ _ _ gq kq=>ag' (gq.1.trans J) kq) ?_
 refine pn (nl (th (rt ?_)))
 have hr0:((((((decide (((cmpS forkS forkS).2)=0))&&(fineR ((cmpS forkS forkS).1) wantS))&&(decide (i23.1.2=0)))&&(madeB i23.1.1.1 forkS))&&(madeB i23.1.1.2 forkS))&&(showB i23.1.1.1 i23.1.1.2 [0,1] 0))=true:=by
  have h1:=fork_cmp
  rw[h1.2,hpf.2.1,hpf.2.2.1,hpf.2.2.2,decide_eq_true h1.1,decide_eq_true hpf.1];rfl
 exact rE () [.tmp 0] J [bl ((((((decide (((cmpS forkS forkS).2)=0))&&(fineR ((cmpS forkS forkS).1) wantS))&&(decide (i23.1.2=0)))&&(madeB i23.1.1.1 forkS))&&(madeB i23.1.1.2 forkS))&&(showB i23.1.1.1 i23.1.1.2 [0,1] 0))] ⟨.tmp J,tV⟩ (cA1 (fun x0=>rV [bl x0]) hr0) trivial eX
end prodk
end
section
namespace SevM
open ref01 ref03 ref04 ref06 Part Rungs LeftM TrimM RoundM MergeM BisM BisM2 BisM4 BisM5 Keys WalkM WitM JudgM LevM divr divs divd dive divf divv judg ChsM BisS TrimI QuoM FailM DivM RefM GenW CompM
theorem com_acts {s t:SS} (hq:(comS s t).2=true):(comS s t).1.aC=s.aC:=by
 unfold comS at hq ⊢
 by_cases e:hol2 s t
 ·rw[if_pos e];rfl
 ·rw[if_neg e] at hq ⊢
  split at hq
  ·next g=>rw[if_pos g,trim_acts];show(tR s).1.aC=_;rw[trim_acts]
  ·cases hq
end SevM
end
section
open ref01 ref03 ref04 ref06 prog prog2 prog3 prog4 prog5 prog6 prog7 prog8 prog9 prog13 prog15 starts Part Rungs LeftM TrimM Itoa Keys RoundM MergeM BisM BisM4 BisM5 WalkM StepM WitM JudgM JudgM2 refw judg wit refj sysw divr divs divd dive divg divw divv LevM LevM2 ChsM TrimI QuoM FailM DivM RefM GenW CompM CrossM CompP EncM prodc divp prodm prodp ForkM prodk SevM
def specE (s:SS):List AV:= [strs s.aC,sl 2 sE s.sT]
instance (s:SS):OneAll (specE s):=inferInstanceAs (OneAll [strs s.aC,sl 2 sE s.sT])
instance (key:Nat) (A:Option Addr) (n c:Nat):AL.One (osl key (.slice A n c)):=⟨fun {w F u} h=>by
 rw[osl_is] at h
 exact AL.One.one h⟩
namespace prods
end prods
end
section
open ref01 ref03 ref04 ref06 prog prog2 prog6 Itoa LawOpen
open Go.ChangeShapes Go.WideShapes Go.ChangeAt Go.WideElems Go.RowKit
namespace LawS
section
variable {H:Type} {enc:TypeId × Value→H} {W:World}
attribute [local semireducible] agg in
theorem open_specB {m:Nat} {cs:List Value} {y:DataW H × List MemPlace} (h:DataW.trod enc Tryz.prog W 0 (fun _=>true) true m 25 cs=some y) (hz:∀k∈y.1.weights Tryz.prog 25,k≤reachBytes) (hl:cs.length=2):
 ∃s:SS,All2 W (allF W) (specE s) cs∧smallSpec s:=by
 obtain⟨y0,y1,n,hx,_,h0,h1⟩:=trod_struct2 Tryz.underlying25 h
 subst hx
 have hz:∀k∈y0.1.weights Tryz.prog 22++(y1.1.weights Tryz.prog 23++ []),k≤reachBytes:=by
  have e:(DataW.agg [y0.1,y1.1]:DataW H).weights Tryz.prog 25=y0.1.weights Tryz.prog 22++(y1.1.weights Tryz.prog 23++ []):=by
   rw[weights_agg Tryz.underlying25]
   simp[DataW.weightsEach]
  rw[←e];exact hz
 have cS:Tryz.prog.cellsOf 22=1:=by kernel_rfl
 have cT:Tryz.prog.cellsOf 23=1:=by kernel_rfl
 have c9:Tryz.prog.cellsOf 9=1:=by kernel_rfl
 have b9:1≤Tryz.prog.bytesOf 9:=by have:Tryz.prog.bytesOf 9=16:=kR;omega
 have c69:Tryz.prog.cellsOf 81=2:=by kernel_rfl
 have b69:1≤Tryz.prog.bytesOf 81:=by have:Tryz.prog.bytesOf 81=48:=kR;omega
 match cs,hl with
 | [v0,v1],_=>
   have h0:DataW.trod enc Tryz.prog W 0 (fun _=>true) true n 22 (([v0,v1].drop 0).take (Tryz.prog.cellsOf 22))=some y0:=h0
   have h1:DataW.trod enc Tryz.prog W 0 (fun _=>true) true n 23 (([v0,v1].drop 1).take (Tryz.prog.cellsOf 23))=some y1:=h1
   rw[cS] at h0
   rw[cT] at h1
   obtain⟨al,g1⟩:=open_strsA Tryz.underlying22 Tryz.underlying9 c9 b9 h0 (fun k hk=>hz k (List.mem_append.2 (.inl hk)))
   obtain⟨xs,g2,g3⟩:=open_slA (n:=2) (E:=sE) Tryz.underlying23 c69 (by decide) b69 h1 (fun k hk=>hz k (List.mem_append.2 (.inr (List.mem_append.2 (.inl hk))))) (fun x=> ∀t∈x.aP,t<2^63) (fun m cs y hy hw hl=>open_stateA hy hw hl)
   refine⟨⟨al,xs⟩,⟨g1,g2,tV⟩,fun k hk i hi=> ?_⟩
   have hk:k<xs.length:=hk
   have hi:i<(ix xs k).aP.length:=hi
   exact g3 (ix xs k) (Rungs.ix_memS hk) _ (Rungs.ix_mem hi)
end
end LawS
end
section
open ref01 ref03 ref04 ref06 prog prog2 prog6 Itoa LawOpen
open Go.ChangeShapes Go.WideShapes Go.ChangeAt Go.WideElems Go.RowKit
namespace LawT
theorem okWide_array {P:Program} {w:World} {r:Reach} {base:Nat} {t:TypeId} {v:Value} {n:Nat} {e:TypeId} (ht:P.underlying t=some (.array n e)) (h:Value.okWide P w r base t v):∃cs,v= .agg cs∧cs.size=P.cellsOf t:=by
 simp only [Value.okWide,ht] at h
 obtain⟨cs,h1,h2,_⟩:=h
 exact⟨cs,h1,h2⟩
section
variable {H:Type} {enc:TypeId × Value→H} {W:World}
attribute [local semireducible] agg in
theorem open_twoA {r:Reach} {b0:Nat} {v:Value} {d:DataW H} {p:List MemPlace} (hv:Value.okWide Tryz.prog W r b0 60 v) (h:DataW.Trod enc Tryz.prog W 0 (fun _=>true) true 60 v d p) (hz:∀k∈d.weights Tryz.prog 60,k≤reachBytes):
 ∃t s:SS,(agg [strs t.aC,sl 2 sE t.sT,strs s.aC,sl 2 sE s.sT]).p W (allF W) v∧smallSpec t∧smallSpec s:=by
 have hu:Tryz.prog.underlying 60=some (.array 2 25):=Tryz.underlying60
 obtain⟨cs,rfl,hsz⟩:=okWide_array hu hv
 obtain⟨c0,c1,c2,c3,rfl⟩:=Go.Joins.array4 (hsz.trans (by kernel_rfl:Tryz.prog.cellsOf 60=4))
 obtain⟨fuel,hf⟩:=h
 obtain⟨xs,m,_,hx,_,hl,hel⟩:=DataW.trod_array hu hf
 match xs,hl with
 | [y0,y1],_=>
   have cS:Tryz.prog.cellsOf 25=2:=by kernel_rfl
   have h0:=hel 0 O
   have h1:=hel 1 O
   rw[cS] at h0 h1
   have h0:DataW.trod enc Tryz.prog W 0 (fun _=>true) true m 25 [c0,c1]=some y0:=h0
   have h1:DataW.trod enc Tryz.prog W 0 (fun _=>true) true m 25 [c2,c3]=some y1:=h1
   simp only [Prod.mk.injEq] at hx
   obtain⟨rfl,_⟩:=hx
   have hz:∀k∈y0.1.weights Tryz.prog 25++(y1.1.weights Tryz.prog 25++ []),k≤reachBytes:=by
     have e:(DataW.agg [y0.1,y1.1]:DataW H).weights Tryz.prog 60=y0.1.weights Tryz.prog 25++(y1.1.weights Tryz.prog 25++ []):=by
      simp[DataW.weights,hu,DataW.weightsAll]
     rw[←e];exact hz
   obtain⟨t,⟨t1,t2,_⟩,t3⟩:=LawS.open_specB h0 (fun k hk=>hz k (List.mem_append.2 (.inl hk))) rfl
   obtain⟨s,⟨s1,s2,_⟩,s3⟩:=LawS.open_specB h1 (fun k hk=>hz k (List.mem_append.2 (.inr (List.mem_append.2 (.inl hk))))) rfl
   exact⟨t,s,⟨[c0,c1,c2,c3],rfl,t1,t2,s1,s2,tV⟩,t3,s3⟩
end
end LawT
end
section
open ref01 ref03 ref04 ref06 prog prog2 prog3 prog6 prog13 prog15 starts search Part Rungs LeftM TrimM RoundM BisM BisM5 BisM6 WalkM StepM WitM JudgM refw judg wit sysw
def metJ:WalkM.Mt→List AV:=fun m=> [int m.before,int m.action,int m.s,int m.t]
instance (m:WalkM.Mt):OneAll (metJ m):=inferInstanceAs (OneAll [int m.before,int m.action,int m.s,int m.t])
noncomputable def fineSE (m:SSys) (s:SS):Int:=if sysOK m=true then(if specOK s=true then(if m.aC=s.aC then 0 else 10) else 30) else 20
theorem fineSE_ok {m:SSys} {s:SS} (h:fineSE m s=0):sysOK m=true∧specOK s=true∧m.aC=s.aC:=by
 unfold fineSE at h
 split at h
 ·next g1=>
  split at h
  ·next g2=>
   split at h
   ·next g3=>exact⟨g1,g2,g3⟩
   ·exact absurd h (by decide)
  ·exact absurd h (by decide)
 ·exact absurd h (by decide)
abbrev verJ (v:VJ):AV:=agg [bl v.holds,sl 2 pE v.pairs,ints v.word,int v.state]
structure SatOK (m:SSys) (s:SS) (v:VJ):Prop where
 ok:fineSE m s=0→JudgeOK m s v
 no:fineSE m s≠0→v=⟨false,[],[],0⟩
theorem sat_bd {m:SSys} {t:SS} (hm:okSys m) (ht:oK t) {q:List WalkM.Mt} (h:QJ m t q):∀p∈q.map pairOf,bdP p:=by
 intro p hp
 obtain⟨x,hx,rfl⟩:=List.mem_map.1 hp
 have:=h.bd x hx
 have h1:=hm.few1
 have h2:=ht.few1
 unfold bdP pairOf
 dsimp only
 omega
namespace T
theorem zvb4:∀w F,∃u,(zeroValue 4).run Tryz.prog w= .ok u w∧(blV false).p w F u:=zeroV_of (v:= .bool false) kR _ (fun _ _=>eqv_rfl)
theorem map176:MapT Tryz.prog 176 84 4 pairV pairD:=mapT_arr Tryz.underlying176 Tryz.underlying84 kR (by decide+kernel) kR kR ⟨Tryz.underlying3,by kernel_rfl⟩ kR
theorem sl181:IsSlice Tryz.prog 181 180 4:=isSlice_of kR
theorem fld180_0:FieldAt Tryz.prog 180 0 0:=fieldAt_of kR
theorem fld178_0:FieldAt Tryz.prog 178 0 0:=fieldAt_of kR
theorem fld178_1:FieldAt Tryz.prog 178 1 1:=fieldAt_of kR
theorem ent173:Ent Tryz.prog 173:=ent_of kR
theorem ent138:Ent Tryz.prog 138:=ent_of kR
theorem z69:ZeroIs Tryz.prog 69 [.bool false,.slice none 0 0,.slice none 0 0,.int .i64 0]:=zeroIs_of kR
theorem st178:StructT Tryz.prog 178 [(0,1),(1,1)] [.int .i64 0,.int .i64 0]:=structT_of kR kR
theorem st180:StructT Tryz.prog 180 [(0,2),(2,2)] [.int .i64 0,.int .i64 0,.int .i64 0,.int .i64 0]:=structT_of kR kR
theorem mk181:MakeT Tryz.prog 181 180 4 32 [.int .i64 0,.int .i64 0,.int .i64 0,.int .i64 0]:=makeT_of kR kR
theorem fld180_1:FieldAt Tryz.prog 180 1 2:=fieldAt_of kR
theorem ent85:Ent Tryz.prog 85:=ent_of kR
theorem ent142:Ent Tryz.prog 142:=ent_of kR
theorem st69:StructT Tryz.prog 69 [(0,1),(1,1),(2,1),(3,1)] [.bool false,.slice none 0 0,.slice none 0 0,.int .i64 0]:=structT_of kR kR
theorem agg69:IsAgg Tryz.prog 69 4:=isAgg_of kR
theorem agg180:IsAgg Tryz.prog 180 4:=isAgg_of kR
theorem z180:ZeroIs Tryz.prog 180 [.int .i64 0,.int .i64 0,.int .i64 0,.int .i64 0]:=zeroIs_of kR
theorem fld69_1:FieldAt Tryz.prog 69 1 1:=fieldAt_of kR
theorem ent143:Ent Tryz.prog 143:=ent_of kR
theorem ent83:Ent Tryz.prog 83:=ent_of kR
theorem ent95:Ent Tryz.prog 95:=ent_of kR
end T
namespace satj
theorem word_ok (q:List WalkM.Mt) (hb:BackOK q) (i:Nat) (hi:i<q.length) (hq:q.length≤1000000000:=by omega):
 Fn0 Tryz.prog 142 [sl 4 metJ q,int (i:Int)] (ints (wordTo q i)):=by
 refine fnI Tryz.func142 rfl rfl (fun w0 F0=> ?_)
 refine fcC (slenI 0 J) (fun hm0=> ?_)
 refine sq (rg (ag (nl (th (sq (rg (nw 5 3 1 nE (ag (rtg (key:=5) 5 J (nl (th (sq (bk ?_)))))))))))))
 have hI0_0:0≤(i:Int)∧(i:Int)<(q.length:Int)∧([]:List Int)++upF q (i+1) (i:Int).toNat=upF q (i+1) i∧(i:Int).toNat<(i+1)∧([]:List Int).length+(i:Int).toNat≤i:=by
  exact⟨O,O,by rw[Int.toNat_natCast];rfl,O,by simp⟩
 refine lp (κ:=Nat × Int × Value × (List Int)) (fun p=> [(0,sl 4 metJ q),(1,int p.2.1),(4,eqv (.slice none 0 0)),(5,osl 5 p.2.2.1)]) (fun p=> [(5,own p.2.2.1 3 1 nE p.2.2.2)]) (fun p=>0≤p.2.1∧p.2.1<(q.length:Int)∧p.2.2.2++upF q p.1 p.2.1.toNat=upF q (i+1) i∧p.2.1.toNat<p.1∧p.2.2.2.length+p.2.1.toNat≤i) (fun p=>p.2.1.toNat) ⟨i+1,(i:Int),(.slice none 0 0),([]:List Int)⟩ hI0_0 ⟨id,id,id,id,tV⟩ ⟨rI,tV⟩ ?_
 intro⟨n,j,v5,out⟩ hG0
 obtain⟨hj0,hjl,hou,hjn,hol⟩:0≤j∧j<(q.length:Int)∧out++upF q n j.toNat=upF q (i+1) i∧j.toNat<n∧out.length+j.toNat≤i:=hG0
 show Ct _ _ _ _ [(0,sl 4 metJ q),(1,int j),(4,eqv (.slice none 0 0)),(5,osl 5 v5)] [(5,own v5 3 1 nE out)] _
 have hbk:=hb j.toNat O
 refine sq (sq (rg (mv (mv (iF J J T.sl181 O gB (fF J T.fld180_0 (fF J T.fld178_0 (lF J J T.one3 (bi J J b_geq (nl (th ?_)))))))))))
 refine cd J (fun hc0=> ?_) (fun hc0=> ?_)
 ·try simp at hc0
  refine sk (th (sq (bk (rg (mv (mv (mv (iF J J T.sl181 O gB (fF J T.fld180_0 (fF J T.fld178_1 (lF J J T.one3 (bsE (enc:=nE) (xs:= [(ix q j.toNat).action]) (css:= [[int (ix q j.toNat).action]]) T.mk36 ⟨J,J,p1 (φ:=int (ix q j.toNat).action) J,tV⟩ J J J J (ap (key:=5) (zs:= [(ix q j.toNat).action]) osl_eq J J J T.mk36 (by unfold maxL at*;simp;omega) (by unfold maxL at*;simp;omega) fun v27=>(ag (nl (eb (th (rg (mv (mv (iF J J T.sl181 O gB (fF J T.fld180_0 (fF J T.fld178_0 (lF J J T.one3 (ag (nl ?_))))))))))))))))))))))))))
  have hN0:0≤(ix q j.toNat).before∧(ix q j.toNat).before<(q.length:Int)∧(out++ [(ix q j.toNat).action])++upF q (n- 1) (ix q j.toNat).before.toNat=upF q (i+1) i∧(ix q j.toNat).before.toNat<(n- 1)∧(out++ [(ix q j.toNat).action]).length+(ix q j.toNat).before.toNat≤i:=by
   have hbk2:=hbk hc0
   exact⟨hc0,O,upF_up hou hjn hc0,O,by simp;omega⟩
  exact ln (⟨n- 1,(ix q j.toNat).before,v27,out++ [(ix q j.toNat).action]⟩:Nat × Int × Value × (List Int)) hN0 (by have hbk2:=hbk hc0;show(ix q j.toNat).before.toNat<j.toNat;omega) ⟨id,id,id,id,tV⟩ ⟨rI,tV⟩
 ·try simp at hc0
  refine ex (xt_ (xt_ (xb (th (sq (rg (mv (cal (Hi:= [(5,own v5 3 1 nE out)]) (φs:= [osl 5 v5]) ⟨J,tV⟩ (judg.Reverse_ok v5 out O) T.ent173 ⟨rI,tV⟩ fun _ _=>(nl (th (sq (rg (mv (ag (nl (th (rt ?_)))))))))))))))))
  refine fzA 5 4 rfl rfl ?_
  have hr0:out.reverse=(wordTo q i):=by
   rw[upF_top hou hjn O];rfl
  exact rE () [.tmp 4] J [sl 1 nE out.reverse] ⟨.tmp J,tV⟩ (cA1 (fun x0=>rV [sl 1 nE x0]) hr0) trivial eX
theorem Fine_ok (m:SSys) (s:SS) (hs:smallSpec s):
 Fn0 Tryz.prog 83 [sys m,spec s] (int (fineSE m s)):=by
 refine fnI Tryz.func83 rfl rfl (fun w0 F0=> ?_)
 refine fcC (inhS 0 J) (fun hS0=> ?_)
 obtain⟨hma0,hms0,hme0⟩:=sys_lens hS0
 refine fcC (inhS 1 J) (fun hS1=> ?_)
 obtain⟨hsa1,hss1,hse1⟩:=sLn hS1
 refine sq (rg (bx (key:=2) (cs:= [sl 1 rE_ m.aC,sl 1 gE m.sT]) J fun b2=>(bx (key:=3) (cs:= [sl 1 rE_ s.aC,sl 2 sE s.sT]) J fun b3=>(ag (nl (th (sq (bk (sq (rg (lPA J J T.agg43 J (cal0 (φs:= [agg [sl 1 rE_ m.aC,sl 1 gE m.sT]]) (φ:=bl (sysOK m)) ⟨J,tV⟩ (sysw.Valid_ok m) T.ent138 (no J (ag (nl (th ?_))))))))))))))))
 refine cd J (fun hc0=> ?_) (fun hc0=> ?_)
 ·try simp at hc0
  refine sq (rg (ag (nl (th (rt (rb (rt_ ?_)))))))
  have hr0:(20:Int)=(fineSE m s):=by
   unfold fineSE;rw[if_neg (by simp[hc0])]
  exact rE () [.tmp 4] J [int 20] ⟨.tmp J,tV⟩ (cA1 (fun x0=>rV [int x0]) hr0) trivial eX
 ·try simp at hc0
  refine sq (rg (lPA J J T.agg25 J (cal0 (φs:= [agg [sl 1 rE_ s.aC,sl 2 sE s.sT]]) (φ:=bl (specOK s)) ⟨J,tV⟩ (prog2.Valid_ok s aS) T.ent111 (no J (ag (nl (th ?_)))))))
  refine cd J (fun hc1=> ?_) (fun hc1=> ?_)
  ·try simp at hc1
   refine sq (rg (ag (nl (th (rt (rb (rt_ ?_)))))))
   have hr0:(30:Int)=(fineSE m s):=by
    unfold fineSE;rw[if_pos (by simpa using hc0),if_neg (by simp[hc1])]
   exact rE () [.tmp 4] J [int 30] ⟨.tmp J,tV⟩ (cA1 (fun x0=>rV [int x0]) hr0) trivial eX
  ·try simp at hc1
   refine sq (rg (fP J T.fld43_0 (lP J J J T.one22 (fP J T.fld25_0 (lP J J J T.one22 (cal0 (φs:= [sl 1 rE_ m.aC,sl 1 rE_ s.aC]) (φ:=bl (decide (m.aC=s.aC))) ⟨J,J,tV⟩ (prog.sEqualstrE_ok _ _) T.ent112 (no J (ag (nl (th ?_))))))))))
   refine cd J (fun hc2=> ?_) (fun hc2=> ?_)
   ·try simp at hc2
    refine sq (rg (ag (nl (th (rt (rb (rt_ ?_)))))))
    have hr0:(10:Int)=(fineSE m s):=by
     unfold fineSE;rw[if_pos (by simpa using hc0),if_pos (by simpa using hc1),if_neg hc2]
    exact rE () [.tmp 4] J [int 10] ⟨.tmp J,tV⟩ (cA1 (fun x0=>rV [int x0]) hr0) trivial eX
   ·try simp at hc2
    refine sk (eb (th (sq (rg (ag (nl (th (rt ?_))))))))
    have hr0:(0:Int)=(fineSE m s):=by
     unfold fineSE;rw[if_pos (by simpa using hc0),if_pos (by simpa using hc1),if_pos hc2]
    exact rE () [.tmp 4] J [int 0] ⟨.tmp J,tV⟩ (cA1 (fun x0=>rV [int x0]) hr0) trivial eX
theorem Judge_ok (m:SSys) (hm:okSys m) (s:SS) (hs:oK s):
 AL.Fn Tryz.prog 95 [sys m,spec s] [] (ι:= { v:VJ//JudgeOK m s v }) (fun _ i=>verJ i.1) (fun _=> []):=by
 refine fnI Tryz.func95 rfl rfl (fun w0 F0=> ?_)
 have f1:=hm.few1;have f2:=hs.few1;have f3:=hs.n8;have f4:=hm.n8;have g0:=hm.few0;have g1:=hs.few0;have hmm:m.sT.length*s.sT.length≤10000*10000:=Nat.mul_le_mul f1 f2
 refine fcC (inhS 0 J) (fun hS0=> ?_)
 obtain⟨hma0,hms0,hme0⟩:=sys_lens hS0
 refine fcC (inhS 1 J) (fun hS1=> ?_)
 obtain⟨hsa1,hss1,hse1⟩:=sLn hS1
 refine sq (rg (bx (key:=2) (cs:= [sl 1 rE_ m.aC,sl 1 gE m.sT]) J fun b2=>(bx (key:=3) (cs:= [sl 1 rE_ s.aC,sl 2 sE s.sT]) J fun b3=>(al (key:=4) T.z69 (eC (eC (eC (eC eZ)))) fun b4=>(nl (th (sq (rg (mkm (key:=16) (kE:=pairV) (dom:=pairD) (vE:=blV) fun b16=>(bd (css:= [(0,_),(1,_)]) T.st84 (eC (eC eZ)) ⟨J,J,p1 (φ:=int 0) J,⟨J,J,p1 (φ:=int 0) J,tV⟩⟩ (AL.insert (q:=(0,0)) (u:=true) J J agg_pair J T.map176 ⟨⟨O,O⟩,⟨O,O⟩⟩ (mv (ag (nl (th (sq (rg (bd (css:= [(0,_)]) T.st178 (eC (eC eZ)) ⟨J,J,p1 (φ:=int (-1)) J,tV⟩ (bd (css:= [(0,_)]) T.st180 (eC (eC (eC (eC eZ)))) ⟨J,J,pA (cs:= [int (-1),int 0]) J,tV⟩ (bsO 21 (enc:=metJ) (xs:= [⟨0,0,(-1),0⟩]) (css:= [[int (-1),int 0,int 0,int 0]]) T.mk181 ⟨J,J,pA (cs:= [int (-1),int 0,int 0,int 0]) J,tV⟩ J J J J fun v21=>(ag (nl (th (sq (sq (rg (ag (nl (th (bk ?_))))))))))))))))))))))))))))))
 have hI0_0:QJ m s ([⟨0,0,(-1),0⟩]:List WalkM.Mt)∧smap (mset ([]:List ((Int × Int) × Bool)) (0,0) true) ([⟨0,0,(-1),0⟩]:List WalkM.Mt)∧0≤([⟨0,0,(-1),0⟩]:List WalkM.Mt).length∧∀k,k<0→DoneJ m s ([⟨0,0,(-1),0⟩]:List WalkM.Mt) k:=by
  exact⟨qj_zero hm hs,smap_zero,by simp,fun k hk=>absurd hk O⟩
 refine lp (κ:=Nat × Value × (List WalkM.Mt) × (List ((Int × Int) × Bool))) (fun p=> [(2,ptr 2 b2 0),(3,ptr 3 b3 0),(4,ptr 4 b4 0),(5,mpv 16 b16),(6,osl 21 p.2.1),(7,int (p.1:Int))]) (fun p=> [(2,cell b2 [sl 1 rE_ m.aC,sl 1 gE m.sT]),(3,cell b3 [sl 1 rE_ s.aC,sl 2 sE s.sT]),(4,cell b4 [bl false,eqv (.slice none 0 0),eqv (.slice none 0 0),int 0]),(16,mp b16 pairV pairD blV p.2.2.2),(21,own p.2.1 180 4 metJ p.2.2.1)]) (fun p=>QJ m s p.2.2.1∧smap p.2.2.2 p.2.2.1∧p.1≤p.2.2.1.length∧∀k,k<p.1→DoneJ m s p.2.2.1 k) (fun p=>m.sT.length*s.sT.length- p.1) ⟨0,v21,([⟨0,0,(-1),0⟩]:List WalkM.Mt),mset ([]:List ((Int × Int) × Bool)) (0,0) true⟩ hI0_0 ⟨id,id,id,id,id,id,tV⟩ ⟨rI,rI,rI,rI,rI,tV⟩ ?_
 intro⟨i,v,q,mm⟩ hG0
 obtain⟨hq,hsm,hil,hdone⟩:QJ m s q∧smap mm q∧i≤q.length∧∀k,k<i→DoneJ m s q k:=hG0
 show Ct _ _ _ _ [(2,ptr 2 b2 0),(3,ptr 3 b3 0),(4,ptr 4 b4 0),(5,mpv 16 b16),(6,osl 21 v),(7,int (i:Int))] [(2,cell b2 [sl 1 rE_ m.aC,sl 1 gE m.sT]),(3,cell b3 [sl 1 rE_ s.aC,sl 2 sE s.sT]),(4,cell b4 [bl false,eqv (.slice none 0 0),eqv (.slice none 0 0),int 0]),(16,mp b16 pairV pairD blV mm),(21,own v 180 4 metJ q)] _
 have hql:=qj_len hq
 refine sq (sq (rg (mv (mv (lnO J J T.sl181 (bi J J b_lss (nl (th ?_))))))))
 refine cd J (fun hc0=> ?_) (fun hc0=> ?_)
 ·try simp at hc0
  have hbd:=hq.bd _ (ix_memS hc0)
  have hsy:=hs.st (ix q i).t.toNat O
  have hyl:=hsy.len
  have hoff:∀e∈(ix m.sT (ix q i).s.toNat),0≤e.1∧e.1<8:=fun e he=>by have:=hm.ed (ix q i).s.toNat O e he;omega
  refine sk (th (sq (bk (sq (rg (mv (mv (iO J J J T.sl181 O O (fO J T.fld180_1 (lOA J J gB T.agg84 (by decide) (al (key:=8) T.z84 (eC (eC eZ)) fun b8=>(sPA (cs':= [int (ix q i).s,int (ix q i).t]) J J J T.agg84 J J (nl (th (sq (rg (fP J T.fld25_1 (lP J J J T.one23 (iPA J J T.arr84 T.one3 J (lP J J J T.one3 (iF J J T.sl23 O gB (lFA J T.agg81 (Nat.le_of_ble_eq_true J) (al (key:=9) T.z81 (eC (eC eZ)) fun b9=>(sPA (cs':= [sl 1 nE (ix s.sT (ix q i).t.toNat).aP,sl 1 nE (ix s.sT (ix q i).t.toNat).next]) J J J T.agg81 J J (nl (th (sq (sq (dr (nh:=10) [0,0,2,0,8,30,62,126,255,511] T.mixed kR ?_)))))))))))))))))))))))))))))
  refine st_ J (fun _ _ _ gq kq=>lPA (gq.1.trans J) J T.agg81 J kq) ?_
  refine st_ J (fun _ _ _ gq kq=>fP (gq.1.trans J) T.fld43_1 kq) ?_
  refine st_ J (fun _ _ _ gq kq=>lP (gq.1.trans J) J J T.one41 kq) ?_
  refine st_ J (fun _ _ _ gq kq=>iPA (gq.1.trans J) J T.arr84 T.one3 J kq) ?_
  refine st_ J (fun _ _ _ gq kq=>lP (gq.1.trans J) J J T.one3 kq) ?_
  refine st_ J (fun _ _ _ gq kq=>iF (gq.1.trans J) (gq.2.1.trans J) T.sl41 O gB kq) ?_
  refine st_ J (fun _ _ _ gq kq=>lF (gq.1.trans J) J T.one103 kq) ?_
  refine st_ J (fun _ _ _ gq kq=>cal0 (φs:= [sl 2 pE (ix m.sT (ix q i).s.toNat)]) (φ:=int (offE (ix m.sT (ix q i).s.toNat))) ⟨(gq.1.trans J),tV⟩ (sysw.Offers_ok (ix m.sT (ix q i).s.toNat) aS) T.ent85 kq) ?_
  refine st_ J (fun _ _ _ gq kq=>cal0 (φs:= [agg [sl 1 nE (ix s.sT (ix q i).t.toNat).aP,sl 1 nE (ix s.sT (ix q i).t.toNat).next],int (offE (ix m.sT (ix q i).s.toNat))]) (φ:=bl (decide ((offE (ix m.sT (ix q i).s.toNat))∈(ix s.sT (ix q i).t.toNat).aP))) ⟨(gq.1.trans J),(gq.2.1.trans J),tV⟩ (search.Accepts_ok (ix s.sT (ix q i).t.toNat) (hs.st _ O).rise (offE (ix m.sT (ix q i).s.toNat))) T.ent126 kq) ?_
  refine st_ J (fun _ _ _ gq kq=>no (gq.1.trans J) kq) ?_
  refine pn (nl (th ?_))
  refine cd J (fun hc1=> ?_) (fun hc1=> ?_)
  ·try simp at hc1
   have hnacc:offM m (ix q i).s.toNat∉acc s (ix q i).t.toNat:=by simpa using hc1
   refine sq (fzC 21 6 J J (dr (nh:=6) [0,0,3,0,8,31,63] T.mixed kR ?_))
   refine st_ J (fun _ _ _ gq kq=>mv' (gq.1.trans J) kq) ?_
   refine st_ J (fun _ _ _ gq kq=>mv' (gq.1.trans J) kq) ?_
   refine st_ J (fun _ _ _ gq kq=>cal0 (φs:= [sl 4 metJ q,int (i:Int)]) (φ:=sl 1 nE (wordTo q i)) ⟨(gq.1.trans J),(gq.2.1.trans J),tV⟩ (satj.word_ok q (qj_back hq) i O) T.ent142 kq) ?_
   refine st_ J (fun _ _ _ gq kq=>iPA (gq.1.trans J) J T.arr84 T.one3 J kq) ?_
   refine st_ J (fun _ _ _ gq kq=>lP (gq.1.trans J) J J T.one3 kq) ?_
   refine st_ J (fun _ _ _ gq kq=>bd (css:= [(2,_),(3,_)]) T.st69 (eC (eC (eC (eC eZ)))) ⟨J,J,p1 (φ:=sl 1 nE (wordTo q i)) (by exact(gq.1.trans J)),⟨J,J,p1 (φ:=int (ix q i).s) (by exact(gq.2.1.trans J)),tV⟩⟩ kq) ?_
   refine pn (sPA (cs':= [bl false,eqv (.slice none 0 0),sl 1 nE (wordTo q i),int (ix q i).s]) J J J T.agg69 J J (nl (th (rt (rt_ (rb (rt_ (rt_ (rb (rt_ ?_))))))))))
   refine kncA 4 1 (sl 2 pE []) rfl rfl slnil ?_
   exact rE ⟨⟨false,[],wordTo q i,(ix q i).s⟩,⟨fun h=>(nomatch (show false=true from h)),fun _=>⟨sat_no hq hc0 hnacc,J,q,i,hq,hc0,J,J,hdone,hnacc⟩⟩⟩ [.cell 4 69] J [agg [bl false,sl 2 pE [],sl 1 nE (wordTo q i),int (ix q i).s]] ⟨.agg J J T.agg69 J J,tV⟩ J trivial eX
  ·try simp at hc1
   have hacc:offM m (ix q i).s.toNat∈acc s (ix q i).t.toNat:=by simpa using hc1
   refine sk (th (sq (rg (fP J T.fld43_1 (lP J J J T.one41 (iPA J J T.arr84 T.one3 J (lP J J J T.one3 (iF J J T.sl41 O gB (lF J J T.one103 (fc (slenI 60 J) fun hm60=>(lnF J T.sl103 (mv (nl (th (bk ?_)))))))))))))))
   have hI1_0:0≤(ix m.sT (ix q i).s.toNat).length:=by
    first|omega|simp
   have hI1_1:MidJ m s q i 0 q mm:=by
    exact midj_zero hq hsm hdone
   refine lp (κ:=Nat × Value × (List WalkM.Mt) × (List ((Int × Int) × Bool))) (fun p=> [(2,ptr 2 b2 0),(3,ptr 3 b3 0),(4,ptr 4 b4 0),(5,mpv 16 b16),(6,osl 21 p.2.1),(7,int (i:Int)),(9,ptr 9 b9 0),(60,sl 2 pE (ix m.sT (ix q i).s.toNat)),(61,int ((ix m.sT (ix q i).s.toNat).length:Int)),(62,int (p.1:Int))]) (fun p=> [(2,cell b2 [sl 1 rE_ m.aC,sl 1 gE m.sT]),(3,cell b3 [sl 1 rE_ s.aC,sl 2 sE s.sT]),(4,cell b4 [bl false,eqv (.slice none 0 0),eqv (.slice none 0 0),int 0]),(8,cell b8 [int (ix q i).s,int (ix q i).t]),(9,cell b9 [sl 1 nE (ix s.sT (ix q i).t.toNat).aP,sl 1 nE (ix s.sT (ix q i).t.toNat).next]),(16,mp b16 pairV pairD blV p.2.2.2),(21,own p.2.1 180 4 metJ p.2.2.1)]) (fun p=>(p.1≤(ix m.sT (ix q i).s.toNat).length)∧(MidJ m s q i p.1 p.2.2.1 p.2.2.2)) (fun p=>(ix m.sT (ix q i).s.toNat).length- p.1) ⟨0,v,q,mm⟩ ⟨hI1_0,hI1_1⟩ ⟨id,id,id,id,id,id,id,id,id,id,tV⟩ ⟨rI,rI,rI,rI,rI,rI,rI,tV⟩ ?_
   intro⟨k1,v2,q2,mm2⟩ hG1
   obtain⟨hk1,hI1⟩:(k1≤(ix m.sT (ix q i).s.toNat).length)∧(MidJ m s q i k1 q2 mm2):=hG1
   show Ct _ _ _ _ [(2,ptr 2 b2 0),(3,ptr 3 b3 0),(4,ptr 4 b4 0),(5,mpv 16 b16),(6,osl 21 v2),(7,int (i:Int)),(9,ptr 9 b9 0),(60,sl 2 pE (ix m.sT (ix q i).s.toNat)),(61,int ((ix m.sT (ix q i).s.toNat).length:Int)),(62,int (k1:Int))] [(2,cell b2 [sl 1 rE_ m.aC,sl 1 gE m.sT]),(3,cell b3 [sl 1 rE_ s.aC,sl 2 sE s.sT]),(4,cell b4 [bl false,eqv (.slice none 0 0),eqv (.slice none 0 0),int 0]),(8,cell b8 [int (ix q i).s,int (ix q i).t]),(9,cell b9 [sl 1 nE (ix s.sT (ix q i).t.toNat).aP,sl 1 nE (ix s.sT (ix q i).t.toNat).next]),(16,mp b16 pairV pairD blV mm2),(21,own v2 180 4 metJ q2)] _
   have hq2l:=qj_len hI1.qi
   refine sq (rg (bi J J b_lss (nl (th (sq ?_)))))
   refine cd J (fun hc2=> ?_) (fun hc2=> ?_)
   ·try simp at hc2
    have hek:=hm.ed (ix q i).s.toNat O _ (ix_memS hc2)
    have hgo:=edge_go hm hs (x:=(ix q i).s.toNat) (y:=(ix q i).t.toNat) O O hacc (ix_memS hc2)
    obtain⟨hgo1,hgo2,hgo3⟩:=hgo
    dsimp only [nxt,edg] at hgo1 hgo2 hgo3 hek
    refine sk (th (sq (bk (sq (rg (iF J J T.sl103 O gB (lFA J T.agg105 (Nat.le_of_ble_eq_true J) (al (key:=11) T.z105 (eC (eC eZ)) fun b11=>(sPA (cs':= [int ((ix (ix m.sT (ix q i).s.toNat) k1).1),int ((ix (ix m.sT (ix q i).s.toNat) k1).2)]) J J J T.agg105 J J (nl (th (sq ?_))))))))))))
    refine drH (nh:=11) [0,1,0,4,0,16,60,124,255,0,1023] [(none,[]),(none,[11]),(none,[]),(none,[9]),(none,[]),(none,[11]),(none,[]),(none,[]),(none,[]),(some 12,[]),(some 12,[12])] T.mixed kR kR ?_
    refine stv (d:=66) (fun β0=>ptr 11 b11 1) [] J (fun β β' hb=>J) (fun β0 _ _ _ _ gq gh kq=>fP (gq.1.trans J) T.fld105_1 kq) ?_
    refine stv (d:=67) (fun β0=>int ((ix (ix m.sT (ix q i).s.toNat) k1).2)) [11] J (fun β β' hb=>J) (fun β0 _ _ _ _ gq gh kq=>lP (gq.1.trans J) (gh.1.trans J) J T.one3 kq) ?_
    refine stv (d:=68) (fun β0=>ptr 9 b9 1) [] J (fun β β' hb=>J) (fun β0 _ _ _ _ gq gh kq=>fP (gq.1.trans J) T.fld81_1 kq) ?_
    refine stv (d:=69) (fun β0=>sl 1 nE (ix s.sT (ix q i).t.toNat).next) [9] J (fun β β' hb=>J) (fun β0 _ _ _ _ gq gh kq=>lP (gq.1.trans J) (gh.1.trans J) J T.one36 kq) ?_
    refine stv (d:=70) (fun β0=>ptr 11 b11 0) [] J (fun β β' hb=>J) (fun β0 _ _ _ _ gq gh kq=>fP (gq.1.trans J) T.fld105_0 kq) ?_
    refine stv (d:=71) (fun β0=>int ((ix (ix m.sT (ix q i).s.toNat) k1).1)) [11] J (fun β β' hb=>J) (fun β0 _ _ _ _ gq gh kq=>lP (gq.1.trans J) (gh.1.trans J) J T.one3 kq) ?_
    refine stv (d:=72) (fun β0=>fp [int (ix (ix s.sT (ix q i).t.toNat).next ((ix (ix m.sT (ix q i).s.toNat) k1).1).toNat)]) [] J (fun β β' hb=>J) (fun β0 _ _ _ _ gq gh kq=>iF (gq.1.trans J) (gq.2.1.trans J) T.sl36 O gB kq) ?_
    refine stv (d:=73) (fun β0=>int (ix (ix s.sT (ix q i).t.toNat).next ((ix (ix m.sT (ix q i).s.toNat) k1).1).toNat)) [] J (fun β β' hb=>J) (fun β0 _ _ _ _ gq gh kq=>lF (gq.1.trans J) J T.one3 kq) ?_
    refine stv (d:=74) (fun β0=>agg [int ((ix (ix m.sT (ix q i).s.toNat) k1).2),int (ix (ix s.sT (ix q i).t.toNat).next ((ix (ix m.sT (ix q i).s.toNat) k1).1).toNat)]) [] J (fun β β' hb=>J) (fun β0 _ _ _ _ gq gh kq=>bd (css:= [(0,_),(1,_)]) T.st84 (eC (eC eZ)) ⟨J,J,p1 (φ:=int ((ix (ix m.sT (ix q i).s.toNat) k1).2)) (by exact(gq.1.trans J)),⟨J,J,p1 (φ:=int (ix (ix s.sT (ix q i).t.toNat).next ((ix (ix m.sT (ix q i).s.toNat) k1).1).toNat)) (by exact(gq.2.1.trans J)),tV⟩⟩ kq) ?_
    refine sta 12 T.z84 (eC (eC eZ)) ?_
    refine stw 12 (fun β0=>cell (gbk (β0 9)) [int ((ix (ix m.sT (ix q i).s.toNat) k1).2),int (ix (ix s.sT (ix q i).t.toNat).next ((ix (ix m.sT (ix q i).s.toNat) k1).1).toNat)]) [12] J (fun β β' hb=>by first|rw[hb 9 J]|(dsimp only;rw[hb 9 J])) (fun β0 _ _ _ _ gq gh kq=>sPA (cs':= [int ((ix (ix m.sT (ix q i).s.toNat) k1).2),int (ix (ix s.sT (ix q i).t.toNat).next ((ix (ix m.sT (ix q i).s.toNat) k1).1).toNat)]) (gq.1.trans J) (gh.1.trans J) (gq.2.1.trans J) T.agg84 J J kq) ?_
    refine pnH fun β0=>(nl (th (sq (rg (mv (lPA J J T.agg84 J (lookup (z:=false) (q:=((ix (ix m.sT (ix q i).s.toNat) k1).2,ix (ix s.sT (ix q i).t.toNat).next ((ix (ix m.sT (ix q i).s.toNat) k1).1).toNat)) J J agg_pair T.map176 ⟨⟨O,O⟩,⟨O,O⟩⟩ T.zvb4 (no J (nl (th ?_))))))))))
    refine cd J (fun hc3=> ?_) (fun hc3=> ?_)
    ·try simp at hc3
     refine sq (rg (mv (lPA J J T.agg84 J (mapUpdate (q:=((ix (ix m.sT (ix q i).s.toNat) k1).2,ix (ix s.sT (ix q i).t.toNat).next ((ix (ix m.sT (ix q i).s.toNat) k1).1).toNat)) (u:=true) J J agg_pair J T.map176 ⟨⟨O,O⟩,⟨O,O⟩⟩ (nl (th (rg (mv (mv (fP J T.fld105_0 (lP J J J T.one3 (bd (css:= [(0,_),(1,_)]) T.st178 (eC (eC eZ)) ⟨J,J,p1 (φ:=int (i:Int)) J,⟨J,J,p1 (φ:=int ((ix (ix m.sT (ix q i).s.toNat) k1).1)) J,tV⟩⟩ (lPA J J T.agg84 J (bd (css:= [(0,_),(2,_)]) T.st180 (eC (eC (eC (eC eZ)))) ⟨J,J,pA (cs:= [int (i:Int),int ((ix (ix m.sT (ix q i).s.toNat) k1).1)]) J,⟨J,J,pA (cs:= [int ((ix (ix m.sT (ix q i).s.toNat) k1).2),int (ix (ix s.sT (ix q i).t.toNat).next ((ix (ix m.sT (ix q i).s.toNat) k1).1).toNat)]) J,tV⟩⟩ (bsE (enc:=metJ) (xs:= [⟨((ix (ix m.sT (ix q i).s.toNat) k1).2),(ix (ix s.sT (ix q i).t.toNat).next ((ix (ix m.sT (ix q i).s.toNat) k1).1).toNat),(i:Int),((ix (ix m.sT (ix q i).s.toNat) k1).1)⟩]) (css:= [[int (i:Int),int ((ix (ix m.sT (ix q i).s.toNat) k1).1),int ((ix (ix m.sT (ix q i).s.toNat) k1).2),int (ix (ix s.sT (ix q i).t.toNat).next ((ix (ix m.sT (ix q i).s.toNat) k1).1).toNat)]]) T.mk181 ⟨J,J,pA (cs:= [int (i:Int),int ((ix (ix m.sT (ix q i).s.toNat) k1).1),int ((ix (ix m.sT (ix q i).s.toNat) k1).2),int (ix (ix s.sT (ix q i).t.toNat).next ((ix (ix m.sT (ix q i).s.toNat) k1).1).toNat)]) J,tV⟩ J J J J (ap (key:=21) (zs:= [⟨((ix (ix m.sT (ix q i).s.toNat) k1).2),(ix (ix s.sT (ix q i).t.toNat).next ((ix (ix m.sT (ix q i).s.toNat) k1).1).toNat),(i:Int),((ix (ix m.sT (ix q i).s.toNat) k1).1)⟩]) osl_eq J J J T.mk181 (by unfold maxL at*;simp;omega) (by unfold maxL at*;simp;omega) fun v89=>(ag (nl (eb (th (rg (bi J J (b_add i6) (mv (nl ?_))))))))))))))))))))))))
     have hN0:(k1+1)≤(ix m.sT (ix q i).s.toNat).length:=by
      first|omega|simp_all
     have hN1:MidJ m s q i (k1+1) (q2++ [⟨((ix (ix m.sT (ix q i).s.toNat) k1).2),(ix (ix s.sT (ix q i).t.toNat).next ((ix (ix m.sT (ix q i).s.toNat) k1).1).toNat),(i:Int),((ix (ix m.sT (ix q i).s.toNat) k1).1)⟩]) (mset mm2 ((ix (ix m.sT (ix q i).s.toNat) k1).2,ix (ix s.sT (ix q i).t.toNat).next ((ix (ix m.sT (ix q i).s.toNat) k1).1).toNat) true):=by
      exact midj_push hm hs hI1 hc0 hacc hc2 rfl rfl (by simpa using hc3)
     exact ln (⟨k1+1,v89,q2++ [⟨((ix (ix m.sT (ix q i).s.toNat) k1).2),(ix (ix s.sT (ix q i).t.toNat).next ((ix (ix m.sT (ix q i).s.toNat) k1).1).toNat),(i:Int),((ix (ix m.sT (ix q i).s.toNat) k1).1)⟩],mset mm2 ((ix (ix m.sT (ix q i).s.toNat) k1).2,ix (ix s.sT (ix q i).t.toNat).next ((ix (ix m.sT (ix q i).s.toNat) k1).1).toNat) true⟩:Nat × Value × (List WalkM.Mt) × (List ((Int × Int) × Bool))) ⟨hN0,hN1⟩ dO ⟨id,id,id,id,id,id,id,id,id,id,tV⟩ ⟨rI,rI,rI,rI,rI,rI,rI,tV⟩
    ·try simp at hc3
     refine sk (eb (th (rg (bi J J (b_add i6) (mv (nl ?_))))))
     have hN0:(k1+1)≤(ix m.sT (ix q i).s.toNat).length:=by
      first|omega|simp_all
     have hN1:MidJ m s q i (k1+1) q2 mm2:=by
      exact midj_skip hI1 hc2 rfl rfl (by simpa using hc3)
     exact ln (⟨k1+1,v2,q2,mm2⟩:Nat × Value × (List WalkM.Mt) × (List ((Int × Int) × Bool))) ⟨hN0,hN1⟩ dO ⟨id,id,id,id,id,id,id,id,id,id,tV⟩ ⟨rI,rI,rI,rI,rI,rI,rI,tV⟩
   ·try simp at hc2
    refine ex (xt_ (xt_ (xb (eb (th (rg (mv (bi J J (b_add i6) (ag (nl ?_))))))))))
    have hN0:QJ m s q2∧smap mm2 q2∧(i+1)≤q2.length∧∀k,k<(i+1)→DoneJ m s q2 k:=by
     exact midj_end hI1 hc0 hacc O
    exact ln (⟨i+1,v2,q2,mm2⟩:Nat × Value × (List WalkM.Mt) × (List ((Int × Int) × Bool))) hN0 dO ⟨id,id,id,id,id,id,tV⟩ ⟨rI,rI,rI,rI,rI,tV⟩
 ·try simp at hc0
  refine ex (xt_ (xt_ (xb (th (sq (rg (bd (css:= [(0,_)]) T.st69 (eC (eC (eC (eC eZ)))) ⟨J,J,p1 (φ:=bl true) J,tV⟩ (al (key:=13) T.z69 (eC (eC (eC (eC eZ)))) fun b13=>(sPA (cs':= [bl true,eqv (.slice none 0 0),eqv (.slice none 0 0),int 0]) J J J T.agg69 J J (nl (th (sq (sq (rg (mv (lnO J J T.sl181 (mv (nl (th (bk ?_))))))))))))))))))))
  refine nwC 130 84 2 pE (kncC 13 1 (osl 130 (.slice none 0 0)) rfl rfl eq_osl ?_)
  have hI2_0:0≤q.length:=by
   first|omega|simp
  have hI2_1:([]:List (Int × Int))=(q.take 0).map pairOf:=by
   rfl
  refine lp (κ:=Nat × Value × (List (Int × Int))) (fun p=> [(4,ptr 4 b4 0),(13,ptr 13 b13 0),(92,osl 21 v),(93,int (q.length:Int)),(94,int (p.1:Int))]) (fun p=> [(2,cell b2 [sl 1 rE_ m.aC,sl 1 gE m.sT]),(3,cell b3 [sl 1 rE_ s.aC,sl 2 sE s.sT]),(4,cell b4 [bl false,eqv (.slice none 0 0),eqv (.slice none 0 0),int 0]),(13,cell b13 [bl true,osl 130 p.2.1,eqv (.slice none 0 0),int 0]),(16,mp b16 pairV pairD blV mm),(21,own v 180 4 metJ q),(130,own p.2.1 84 2 pE p.2.2)]) (fun p=>(p.1≤q.length)∧(p.2.2=(q.take p.1).map pairOf)) (fun p=>q.length- p.1) ⟨0,(.slice none 0 0),([]:List (Int × Int))⟩ ⟨hI2_0,hI2_1⟩ ⟨id,id,id,id,id,tV⟩ ⟨rI,rI,rI,rI,rI,rI,rI,tV⟩ ?_
  intro⟨k2,vp,prs⟩ hG2
  obtain⟨hk2,hI2⟩:(k2≤q.length)∧(prs=(q.take k2).map pairOf):=hG2
  show Ct _ _ _ _ [(4,ptr 4 b4 0),(13,ptr 13 b13 0),(92,osl 21 v),(93,int (q.length:Int)),(94,int (k2:Int))] [(2,cell b2 [sl 1 rE_ m.aC,sl 1 gE m.sT]),(3,cell b3 [sl 1 rE_ s.aC,sl 2 sE s.sT]),(4,cell b4 [bl false,eqv (.slice none 0 0),eqv (.slice none 0 0),int 0]),(13,cell b13 [bl true,osl 130 vp,eqv (.slice none 0 0),int 0]),(16,mp b16 pairV pairD blV mm),(21,own v 180 4 metJ q),(130,own vp 84 2 pE prs)] _
  have hpl:prs.length≤k2:=by rw[hI2];simp;omega
  refine sq (rg (bi J J b_lss (nl (th (sq ?_)))))
  refine cd J (fun hc4=> ?_) (fun hc4=> ?_)
  ·try simp at hc4
   refine sk (th (sq (bk (sq (rg (iO J J J T.sl181 O O (lOA J J gB T.agg180 (by decide) (al (key:=15) T.z180 (eC (eC (eC (eC eZ)))) fun b15=>(sPA (cs':= [int (ix q k2).before,int (ix q k2).action,int (ix q k2).s,int (ix q k2).t]) J J J T.agg180 J J (nl (th (rg (fP J T.fld69_1 (lP J J J T.one67 (fP J T.fld180_1 (lPA J J T.agg84 J (bs (css:= [[int (ix q k2).s,int (ix q k2).t]]) T.mk67 ⟨J,J,pA (cs:= [int (ix q k2).s,int (ix q k2).t]) J,tV⟩ J J J (ap (key:=130) (zs:= [((ix q k2).s,(ix q k2).t)]) osl_eq J J J T.mk67 (by unfold maxL at*;simp;omega) (by unfold maxL at*;simp;omega) fun v103=>(fP J T.fld69_1 (storePO J J J J T.one67 J (nl (eb (th (rg (bi J J (b_add i6) (mv (nl ?_)))))))))))))))))))))))))))
   have hN0:(k2+1)≤q.length:=by
    first|omega|simp_all
   have hN1:(prs++ [((ix q k2).s,(ix q k2).t)])=(q.take (k2+1)).map pairOf:=by
    rw[hI2,take_s hc4,List.map_append];rfl
   exact ln (⟨k2+1,v103,prs++ [((ix q k2).s,(ix q k2).t)]⟩:Nat × Value × (List (Int × Int))) ⟨hN0,hN1⟩ dO ⟨id,id,id,id,id,tV⟩ ⟨rI,rI,rI,rI,rI,rI,rI,tV⟩
  ·try simp at hc4
   refine ex (xt_ (xt_ (xb (th (sq (rg (fP J T.fld69_1 (lP J J J T.one67 ?_))))))))
   have hbp:∀p∈prs,bdP p:=by rw[hI2,show k2=q.length by omega,List.take_length];exact sat_bd hm hs hq
   refine cal (Hi:= [(130,own vp 84 2 pE prs)]) (φs:= [osl 5 vp,eqv (.func (.func 144) #[] #[])]) ⟨osl_is.trans osl_is.symm,rfl,tV⟩ (rekeyIO 5 130 (sortE.SortcmpJ_ok vp prs aS)) T.ent143 ⟨rI,tV⟩ fun _ _=>(nl (th (sq (rg (fzc 13 130 1 rfl rfl rfl rfl (lPA rfl rfl T.agg69 rfl (sPA (cs':= [bl true,sl 2 pE (sortP prs),eqv (.slice none 0 0),int 0]) rfl rfl rfl T.agg69 rfl rfl (nl (th (rt ?_))))))))))
   refine kncA 4 2 (sl 1 nE []) rfl rfl slnil ?_
   exact rE ⟨⟨true,sortP prs,[],0⟩,⟨fun _=>⟨sat_yes hm hs hq (fun k hk=>hdone k O),J,J,q,hq,fun k hk=>hdone k O,by rw[hI2,show k2=q.length by omega,List.take_length]⟩,fun h=>(nomatch (show true=false from h))⟩⟩ [.cell 4 69] J [agg [bl true,sl 2 pE (sortP prs),sl 1 nE [],int 0]] ⟨.agg J J T.agg69 J J,tV⟩ J trivial eX
theorem Satisfies_ok (m:SSys) (s:SS) (hsm:smallSpec s):
 AL.Fn Tryz.prog 42 [sys m,spec s] [] (ι:= { v:VJ//SatOK m s v }) (fun _ i=>tup [verJ i.1,int (fineSE m s)]) (fun _=> []):=by
 refine fnI Tryz.func42 rfl rfl (fun w0 F0=> ?_)
 refine fcC (inhS 0 J) (fun hS0=> ?_)
 obtain⟨hma0,hms0,hme0⟩:=sys_lens hS0
 refine fcC (inhS 1 J) (fun hS1=> ?_)
 obtain⟨hsa1,hss1,hse1⟩:=sLn hS1
 refine sq (rg (bx (key:=2) (cs:= [sl 1 rE_ m.aC,sl 1 gE m.sT]) J fun b2=>(bx (key:=3) (cs:= [sl 1 rE_ s.aC,sl 2 sE s.sT]) J fun b3=>(al (key:=4) T.z69 (eC (eC (eC (eC eZ)))) fun b4=>(ag (nl (th (sq (sq (rg (lPA J J T.agg43 J (lPA J J T.agg25 J (cal0 (φs:= [agg [sl 1 rE_ m.aC,sl 1 gE m.sT],agg [sl 1 rE_ s.aC,sl 2 sE s.sT]]) (φ:=int (fineSE m s)) ⟨J,J,tV⟩ (satj.Fine_ok m s aS) T.ent83 (ag (nl (th (sq (rg (mv (bi J J b_neq (nl (th ?_))))))))))))))))))))))
 refine cd J (fun hc0=> ?_) (fun hc0=> ?_)
 ·try simp at hc0
  refine sq (rg (bd (css:= []) T.st69 (eC (eC (eC (eC eZ)))) trivial (mv (sPA (cs':= [bl false,eqv (.slice none 0 0),eqv (.slice none 0 0),int 0]) J J J T.agg69 J J (ag (nl (th (rt (rt_ ?_)))))))))
  refine kncA 4 1 (sl 2 pE []) rfl rfl slnil ?_
  refine kncA 4 2 (sl 1 nE []) rfl rfl slnil ?_
  exact rE ⟨⟨false,[],[],0⟩,⟨fun h=>absurd h hc0,fun _=>J⟩⟩ [.cell 4 69,.tmp 5] J [agg [bl false,sl 2 pE [],sl 1 nE [],int 0],int (fineSE m s)] ⟨.agg J J T.agg69 J J,.tmp J,tV⟩ J trivial eX
 ·try simp at hc0
  obtain⟨hmv,hsv,hac⟩:=fineSE_ok hc0
  have hm:=sysOK_ok hmv
  have hs:=okSpec_of hsv
  refine sk (th (sq (rg (lPA J J T.agg43 J (lPA J J T.agg25 J (cl (satj.Judge_ok m aS s aS) T.ent95 trivial fun N16 i16=>(sPA (cs':= [bl i16.1.holds,sl 2 pE i16.1.pairs,sl 1 nE i16.1.word,int i16.1.state]) J J J T.agg69 J J (ag (nl (th (rt ?_)))))))))))
  have hr0:(0:Int)=(fineSE m s):=by
   exact hc0.symm
  exact rE ⟨i16.1,⟨fun _=>i16.2,fun h=>absurd hc0 h⟩⟩ [.cell 4 69,.tmp 5] J [agg [bl i16.1.holds,sl 2 pE i16.1.pairs,sl 1 nE i16.1.word,int i16.1.state],int 0] ⟨.agg J J T.agg69 J J,.tmp J,tV⟩ (cA1 (fun x0=>rV [agg [bl i16.1.holds,sl 2 pE i16.1.pairs,sl 1 nE i16.1.word,int i16.1.state],int x0]) hr0) trivial eX
end satj
end
section
namespace BesM
open ref01 ref03 ref04 ref06 Part Rungs LeftM TrimM RoundM MergeM BisM BisM4 BisM5 Keys WalkM WitM JudgM LevM divr divs divd dive divf divv judg sysw satj ChsM BisS TrimI QuoM FailM DivM RefM GenW CompM CompP prodp
abbrev Sd:=List Int × Int
def offL (m:SSys) (l:List Int):List Int:=l.map fun x=>offM m x.toNat
def sA (m:SSys) (t:SS) (p:Sd):List Int:=crossL (offL m p.1) (acc t p.2.toNat)
def sN (m:SSys) (t:SS) (p:Sd) (a:Nat):Sd:=(nextM m p.1 (a:Int),ix (nxt t p.2.toNat) a)
structure sOk (m:SSys) (t:SS) (p:Sd):Prop where
 rise:p.1.Pairwise (· < ·)
 bd:∀x∈p.1,0≤x∧x<(m.sT.length:Int)
 x0:0≤p.2
 x1:p.2<(t.sT.length:Int)
def skey (p:Sd):ByteArray:=keyB p.2 p.1
theorem off_bd {m:SSys} (hm:okSys m) {l:List Int} (h:∀x∈l,0≤x∧x<(m.sT.length:Int)):∀u∈offL m l,0≤u∧u<256:=fun u hu=>by
 obtain⟨x,hx,rfl⟩:=List.mem_map.1 hu
 have:=h x hx
 exact offM_bd hm O
theorem sA_mem {m:SSys} {t:SS} (hm:okSys m) {p:Sd} (hp:sOk m t p) {u:Int}:u∈sA m t p↔∃x∈offL m p.1,∃y∈acc t p.2.toNat,andI x y=u:=cross_mem (off_bd hm hp.bd)
theorem next_rise (m:SSys) (l:List Int) (a:Int):(nextM m l a).Pairwise (· < ·):=by
 unfold nextM
 rw[List.pairwise_map]
 refine List.Pairwise.imp ?_ ((List.pairwise_lt_range (n:=m.sT.length)).filter _)
 intro a b h;omega
theorem next_bd (m:SSys) (l:List Int) (a:Int):∀x∈nextM m l a,0≤x∧x<(m.sT.length:Int):=fun x hx=>by
 obtain⟨k,rfl,hk,_⟩:=next_mem.1 hx
 omega
theorem sN_go {m:SSys} {t:SS} (hm:okSys m) (ht:oK t) {p:Sd} (hp:sOk m t p) {a:Nat} (h:has (orAll (sA m t p)) (a:Int)=true):a<t.aC.length∧sOk m t (sN m t p a):=by
 obtain⟨u,hu,hh⟩:=(orAll_has _ _).1 h
 obtain⟨x,hx,y,hy,rfl⟩:=(sA_mem hm hp).1 hu
 rw[QuoM.has_and,Bool.and_eq_true] at hh
 have h1:=hp.x0
 have h2:=hp.x1
 have g:=or_go ht (x:=p.2.toNat) O ((orAll_has _ _).2 ⟨y,hy,hh.2⟩)
 exact⟨g.1,next_rise _ _ _,next_bd _ _ _,g.2.1,g.2.2⟩
theorem skey_inj {m:SSys} {t:SS} {p q:Sd} (hp:sOk m t p) (hq:sOk m t q) (h:skey p=skey q):p=q:=by
 have:=keyB_inj hp.x0 hq.x0 (fun x hx=>(hp.bd x hx).1) (fun x hx=>(hq.bd x hx).1) h
 exact Prod.ext this.2 this.1
def incL:Nat→List (List Int)
 |0=> [[]]
 |n+1=>incL n++(incL n).map (· ++ [(n:Int)])
theorem inc_len:∀n,(incL n).length=2^n
 |0=>rfl
 |n+1=>by
  show(incL n++(incL n).map _).length=_
  rw[List.length_append,List.length_map,inc_len n,Nat.pow_succ];omega
theorem inc_mem:∀(n:Nat) (l:List Int),l.Pairwise (· < ·)→(∀x∈l,0≤x∧x<(n:Int))→l∈incL n
 |0,l,_,hb=>by
  match l with
  | []=>exact List.mem_singleton.2 rfl
  |x::l=>have:=hb x (by simp);omega
 |n+1,l,hr,hb=>by
  show l∈incL n++(incL n).map _
  rcases List.eq_nil_or_concat l with rfl|⟨q,y,rfl⟩
  ·exact List.mem_append.2 (.inl (inc_mem n [] List.Pairwise.nil (fun x hx=>by cases hx)))
  ·rw[List.concat_eq_append] at hr hb ⊢
   obtain⟨h1,_,h3⟩:=List.pairwise_append.1 hr
   have hy:=hb y (by simp)
   by_cases e:y=(n:Int)
   ·subst e
    exact List.mem_append.2 (.inr (List.mem_map.2 ⟨q,inc_mem n q h1 (fun x hx=>⟨(hb x (by simp[hx])).1,h3 x hx _ (by simp)⟩),rfl⟩))
   ·refine List.mem_append.2 (.inl (inc_mem n _ hr (fun x hx=>⟨(hb x hx).1,?_⟩)))
    rcases List.mem_append.1 hx with g|g
    ·have:=h3 x g y (by simp);omega
    ·rw[List.mem_singleton.1 g];omega
theorem s_few (n t:Nat) (l:List Sd) (hnd:l.Nodup) (hb:∀p∈l,p.1.Pairwise (· < ·)∧(∀x∈p.1,0≤x∧x<(n:Int))∧0≤p.2∧p.2<(t:Int)):l.length≤2^n*t:=by
 have hs:l ⊆ (incL n).flatMap fun s=>(List.range t).map fun(x:Nat)=>((s,(x:Int)):Sd):=fun p hp=>by
  obtain⟨h1,h2,h3,h4⟩:=hb p hp
  refine List.mem_flatMap.2 ⟨p.1,inc_mem n p.1 h1 h2,List.mem_map.2 ⟨p.2.toNat,List.mem_range.2 O,?_⟩⟩
  exact Prod.ext rfl (by show((p.2.toNat:Nat):Int)=p.2;omega)
 have hl:=List.Nodup.length_le_of_subset hnd hs
 have e:∀q:List (List Int),(q.flatMap fun s=>(List.range t).map fun(x:Nat)=>((s,(x:Int)):Sd)).length=q.length*t:=by
  intro q
  induction q with
  |nil=>simp
  |cons s q ih=>rw[List.flatMap_cons,List.length_append,ih,List.length_map,List.length_range,List.length_cons,Nat.add_mul];omega
 rw[e,inc_len] at hl
 exact hl
theorem s_GS {m:SSys} {t:SS} (hm:okSys m) (ht:oK t) (hal:m.aC.length=t.aC.length):GS (sA m t) (sN m t) (sOk m t) skey m.aC.length (2^m.sT.length*t.sT.length) where
 inj:=fun p q hp hq h=>skey_inj hp hq h
 acts:=fun p hp a h=>by
  obtain⟨b,rfl,_,hb⟩:=listOf_mem.1 h
  rw[Int.toNat_natCast]
  exact(sN_go hm ht hp hb).2
 few:=fun l hn h=>s_few _ _ l hn fun p hp=>⟨(h p hp).rise,(h p hp).bd,(h p hp).x0,(h p hp).x1⟩
 hasn:=fun p hp a h=>by rw[hal];exact(sN_go hm ht hp h).1
 n8:=hm.n8
theorem s_zero {m:SSys} {t:SS} (hm:okSys m) (ht:oK t):sOk m t ([0],0):=by
 have f1:=hm.few0
 have f2:=ht.few0
 exact⟨List.pairwise_singleton _ _,fun x hx=>by rw[List.mem_singleton.1 (show x∈[(0:Int)] from hx)];omega,by simp,by show(0:Int)<_;omega⟩
def sL (m:SSys) (t:SS):List Sd:=runL (sA m t) (sN m t) (2^m.sT.length*t.sT.length) 0 [([0],0)]
def sD (m:SSys) (t:SS):SS:=⟨m.aC,(sL m t).map (ofL (sA m t) (sN m t) m.aC.length (sL m t))⟩
theorem s_walk {m:SSys} {t:SS} (hm:okSys m) (ht:oK t) (hal:m.aC.length=t.aC.length):Walk (sA m t) (sN m t) (sOk m t) ([0],0) (sL m t).length (sL m t):=walk_G (s_GS hm ht hal) (s_zero hm ht)
theorem s_numb {m:SSys} {t:SS} (hm:okSys m) (ht:oK t) (hal:m.aC.length=t.aC.length):Numb (sA m t) (sN m t) m.aC.length ([0],0) (sL m t) (sD m t):=numb_G (s_GS hm ht hal) (s_walk hm ht hal) _
structure NumS (m:SSys) (t:SS) (l:List Sd) (D:SS):Prop where
 numb:Numb (sA m t) (sN m t) m.aC.length ([0],0) l D
 ok:∀p∈l,sOk m t p
 acts:D.aC=m.aC
theorem nums_ok {m:SSys} {t:SS} (hm:okSys m) (ht:oK t) (ha:m.aC.length=t.aC.length) {l:List Sd} {D:SS} (h:NumS m t l D) (hl:l.length≤10000):oK D:=
 numb_ok h.numb (by rw[h.acts];exact hm.acts) (by rw[h.acts]) hl (fun p _ u hu=>cross_sub hu) (fun p hp a g=>by rw[ha];exact(sN_go hm ht (h.ok p hp) g).1) (fun p _=>pw_rising (cross_rise _ _))
noncomputable def besS (m:SSys) (t:SS):SS × Int:=
 if fineSE m t=0 then
  (if ix (hOl t) 0=true then(nothing t.aC,0)
   else if (sL m (tR t).1).length≤500 then((tR (sD m (tR t).1)).1,0) else(⟨[],[]⟩,2))
 else(⟨[],[]⟩,fineSE m t)
structure RefS (m:SSys) (t D:SS):Prop where
 hol:ix (hOl t) 0=true→D=nothing t.aC
 num:ix (hOl t) 0=false→∃l,NumS m (tR t).1 l D∧l.length≤2^m.sT.length*t.sT.length
theorem fineS_ok {m:SSys} {t:SS} (h:fineSE m t=0):sysOK m=true∧specOK t=true∧m.aC=t.aC:=by
 unfold fineSE at h
 split at h
 ·next h1=>
  split at h
  ·next h2=>
   split at h
   ·next h3=>exact⟨h1,h2,h3⟩
   ·cases h
  ·cases h
 ·cases h
end BesM
end
end Go.Proofs.YtcjemmihcplgdaaGreatDoor
