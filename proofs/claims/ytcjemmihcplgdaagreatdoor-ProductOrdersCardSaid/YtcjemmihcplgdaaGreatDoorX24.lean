/- The walks of the functions and the plain laws. Own texts of this claim, packed: Zddivp, Zdprodm, ZdFitM, ZdPartM, ZdCompP, ZdEncM, Zdprodp, ZdForkM, Zdprodk, ZdSevM, Zdprods, ZdLawS, ZdLawT, Zdsatj, ZdBesM. -/
import Derived.Test.YtcjemmihcplgdaaGreatDoorX15
import Derived.Test.YtcjemmihcplgdaaGreatDoorX16
import Derived.Test.YtcjemmihcplgdaaGreatDoorX23
import Derived.Test.YtcjemmihcplgdaaGreatDoorX22
import Derived.Test.YtcjemmihcplgdaaGreatDoorX18
import Derived.Test.YtcjemmihcplgdaaGreatDoorX21
import Derived.Test.YtcjemmihcplgdaaGreatDoorX19
import Derived.Test.YtcjemmihcplgdaaGreatDoorX11
import Derived.Test.YtcjemmihcplgdaaGreatDoorX07
import Derived.Test.YtcjemmihcplgdaaGreatDoorX08
import Derived.Test.YtcjemmihcplgdaaGreatDoorX13
set_option linter.all false
namespace Go.Proofs.YtcjemmihcplgdaaGreatDoor
open AL Go
set_option maxRecDepth 100000
section
open ref01 ref03 ref04 ref06 prog prog2 prog3 prog6 Part Rungs LeftM QuoM
namespace divp
end divp
end
section
open ref01 ref03 ref04 ref06 prog prog2 prog3 prog4 prog5 prog6 prog7 prog8 prog9 prog13 starts Part Rungs LeftM TrimM Itoa Keys RoundM MergeM BisM BisM4 BisM5 WalkM StepM WitM JudgM JudgM2 refw judg wit refj sysw divr divs divd dive divg divw divv LevM LevM2 ChsM TrimI QuoM FailM DivM RefM GenW CompM CrossM prodc divp
namespace prodm
end prodm
end
section
namespace FitM
open ref01 ref03 ref04 ref06 prog15 starts Part Rungs LeftM TrimM RoundM MergeM BisM BisM4 BisM5 BisM6 WalkM StepM WitM JudgM LevM LevM2 divr divs divd dive divg divw divv refj sysw ChsM BisS TrimI ValidM WitSat WitVal QuoM FailM DivM
structure XJ (x:aI) (t s:SS) (v:Bool × aI):Prop where
 yes:v.1=true→v.2=⟨[],[]⟩∧(ix (hOl s) 0=true∨Rs x t (tR s).1)
 no:v.1=false→ix (hOl s) 0=false∧∃q i u,QF x t (tS s) q∧i<q.length∧u∈acc (tS s) (ix q i).s.toNat∧bV (cJ x (ix q i).x.toNat) u∉acc t (ix q i).t.toNat∧lX (tS s) (bS (tS s) (Rt q i) u) v.2
def VI (m n:aI) (t:SS) (p:T3):Prop:=bV (cJ m p.1.toNat) (cJ n p.2.1.toNat)∉acc t p.2.2.toNat
inductive HI (m n:aI) (t:SS):T3→Prop
 |zero:HI m n t (0,0,0)
 |step {p:T3} {d e:PP}:HI m n t p→¬VI m n t p→d∈edg m p.1.toNat→e∈edg n p.2.1.toNat→d.1=e.1→HI m n t (d.2,e.2,ix (nxt t p.2.2.toNat) d.1.toNat)
section
variable {x:aI} {t T:SS} {q:List M5} {i:Nat} {u:Int} {m:aI}
theorem NI (T:SS) (w:List Int) (u:Int):(eM T (bS T w u)).1=0:=by
 unfold eM
 rw[if_pos (by rw[oG];omega)]
 rcases Nat.eq_zero_or_pos w.length with e|e
 ·have h:=xY (T:=T) (w:=w) (u:=u)
  rw[e] at h
  rw[h];exact vZ T w
 ·rw[Be e]
  show xAt T w 0=0
  exact vZ T w
end
end FitM
end
section
namespace PartM
open ref01 ref03 ref04 ref06 prog15 starts Part Rungs LeftM TrimM RoundM MergeM BisM BisM4 BisM5 BisM6 WalkM StepM WitM JudgM JudgM2 divr divs divd dive divg divw divv refj sysw ChsM BisS TrimI ValidM WitSat WitVal FailM FitM
open QuoM (uR qA qN bes)
theorem Tl {T:SS} {w:List Int} {u:Int} {p:PP} (h:p∈bS T w u):(p.2=u)∨∃j,j<w.length∧p.2=rT (ix T.sT p.1.toNat) (ix w j):=by
 unfold bS at h
 rcases List.mem_append.1 h with g|g
 ·obtain⟨j,hj,rfl⟩:=List.mem_map.1 g
  exact .inr ⟨j,List.mem_range.1 hj,rfl⟩
 ·rw[List.mem_singleton.1 g];exact .inl rfl
theorem Qe {m:aI} {s:SS} (hs:oK s) (h:lT m (tR s).1):lT m s:=by
 unfold lT at h ⊢
 rw[uF (bC hs) (yB m)] at h
 rw[uF hs (yB m)]
 exact Ji h (wJ hs)
end PartM
end
section
namespace CompP
open ref01 ref03 ref04 ref06 prog15 starts Part Rungs LeftM TrimM RoundM MergeM BisM BisM4 BisM5 BisM6 WalkM StepM WitM JudgM JudgM2 divr divs divd dive divg divw divv refj sysw ChsM BisS TrimI ValidM WitSat WitVal FailM FitM PartM QuoM DivM RefM GenW CompM judg
open LevM (Bn)
theorem DI {T:SS} (hT:oK T) (hU:Bn T):∀(w:List Int),(∀k,k<w.length→0≤ix w k∧ix w k<(T.aC.length:Int))→0≤goS T w→Runs T w (goS T w).toNat:=by
 intro w
 refine sX (p:=fun w=>(∀k,k<w.length→0≤ix w k∧ix w k<(T.aC.length:Int))→0≤goS T w→Runs T w (goS T w).toNat) ?_ (fun w a ih=> ?_) w
 ·intro _ _;exact .nil
 ·intro hw h0
  rw[Bc] at h0 ⊢
  have hx0:0≤goS T w:=by
   refine Classical.byContradiction fun hn=> ?_
   unfold stepS at h0
   rw[if_pos O] at h0
   omega
  have ha:=hw w.length (by simp)
  rw[show ix (w++ [a]) w.length=a from Gx] at ha
  have hr:=ih (fun k hk=>by have:=hw k (by simp;omega);rwa [Gw hk] at this) hx0
  have hlt:=hr.lt hT
  obtain⟨b,rfl⟩:∃b:Nat,a=(b:Int):=⟨a.toNat,O⟩
  rw[qU hx0] at h0 ⊢
  exact .snoc hr ((hU _ hlt b O).1 h0)
theorem DJ {D:SS} (hne:∀x,x<D.sT.length→0<(acc D x).length) {x:Nat} (hx:x<D.sT.length):ix (hOl D) x=false:=by
 cases e:ix (hOl D) x with
 |false=>rfl
 |true=>
  have hH:=(iK hx).1 e
  exfalso
  refine hH (fun _=>False) (fun y hy hc=> ?_)
  obtain⟨_,_,_,_,h⟩:=hc 0 (hne y hy)
  exact h
theorem Qf {D:SS} (hD:oK D) (hne:∀x,x<D.sT.length→0<(acc D x).length) {x:Nat} (hx:x<D.sT.length):keep D x=acc D x:=by
 rw[jL (DJ hne hx)]
 refine List.filter_eq_self.2 fun u hu=> ?_
 rw[Bool.not_eq_true']
 cases hf:falls (ix D.sT x) u (hOl D) with
 |false=>rfl
 |true=>
  obtain⟨a,ha,h0,_,hv⟩:=iI.1 hf
  have hb:=((hD.st x hx).nx a (by have:=(hD.st x hx).len;omega)).2
  rw[DJ hne O] at hv;cases hv
section
variable {S T:SS}
inductive Lf (S T:SS):List Int→PP→Prop
 |nil:Lf S T [] (0,0)
 |snoc {w:List Int} {p:PP} {a:Nat}:Lf S T w p→has (aT (cA S T p)) (a:Int)=true→Lf S T (w++ [(a:Int)]) (cN S T p a)
end
def uH (s t:SS) (w:List Int) (u:Int):Prop:=¬eO s t∧0≤goS (tR s).1 w∧0≤goS (tR t).1 w∧∃x∈acc (tR s).1 (goS (tR s).1 w).toNat,∃y∈acc (tR t).1 (goS (tR t).1 w).toNat,bV x y=u
theorem DK {s:SS} (hs:oK s) (h0:ix (hOl s) 0=false):∀x,x<(tR s).1.sT.length→0<(acc (tR s).1 x).length:=by
 rw[bX h0]
 exact fun x hx=>KM hs h0 hx
theorem Bu {s t:SS} (h:¬eO s t):ix (hOl s) 0=false∧ix (hOl t) 0=false:=by
 unfold eO at h
 constructor
 ·cases e:ix (hOl s) 0 with
  |false=>rfl
  |true=>exact absurd (.inl e) h
 ·cases e:ix (hOl t) 0 with
  |false=>rfl
  |true=>exact absurd (.inr e) h
def fM (m:aI) (l:List Int) (a:Int):List Int:=((List.range m.sT.length).filter fun(x:Nat)=>l.any fun y=>(edg m y.toNat).any fun e=>decide (e.1=a)&&decide (e.2=(x:Int))).map fun(x:Nat)=>(x:Int)
def bE (m:aI) (w:List Int):List Int:=w.foldl (fM m) [0]
theorem qO (m:aI) (w:List Int) (a:Int):bE m (w++ [a])=fM m (bE m w) a:=by unfold bE;rw[List.foldl_append];rfl
theorem tL {m:aI} {l:List Int} {a:Int} {x:Int}:x∈fM m l a↔∃k:Nat,x=(k:Int)∧k<m.sT.length∧∃y∈l,∃e∈edg m y.toNat,e.1=a∧e.2=(k:Int):=by
 unfold fM
 rw[List.mem_map]
 constructor
 ·rintro⟨k,hk,rfl⟩
  obtain⟨h1,h2⟩:=List.mem_filter.1 hk
  obtain⟨y,hy,h3⟩:=List.any_eq_true.1 h2
  obtain⟨e,he,h4⟩:=List.any_eq_true.1 h3
  simp only [Bool.and_eq_true,decide_eq_true_eq] at h4
  exact⟨k,rfl,List.mem_range.1 h1,y,hy,e,he,h4.1,h4.2⟩
 ·rintro⟨k,rfl,hk,y,hy,e,he,h1,h2⟩
  exact⟨k,List.mem_filter.2 ⟨List.mem_range.2 hk,List.any_eq_true.2 ⟨y,hy,List.any_eq_true.2 ⟨e,he,by simp[h1,h2]⟩⟩⟩,rfl⟩
theorem Bv {m:aI} (hm:0<m.sT.length) (w:List Int):∀x∈bE m w,0≤x∧x<(m.sT.length:Int):=by
 refine sX (p:=fun w=> ∀x∈bE m w,0≤x∧x<(m.sT.length:Int)) ?_ (fun w a ih=> ?_) w
 ·intro x hx
  rw[List.mem_singleton.1 (show x∈[(0:Int)] from hx)];omega
 ·intro x hx
  rw[qO] at hx
  obtain⟨k,rfl,hk,_⟩:=tL.1 hx
  omega
theorem NJ {T:SS} (hT:oK T) {w:List Int} {u:Int} (hal:uE T w) (hu:u∈acc T (goS T w).toNat) (hw:jF T (bS T w u)) {m:aI} (hm:lX T (bS T w u) m):∃x∈bE m w,cJ m x.toNat=u:=by
 obtain⟨ss,q,mm,hs,h,_⟩:=hm
 have hml:=Rq h
 have hpl:=oG T w u
 have hmem:=qV hT hal hu
 have h1:∀j,j≤w.length→(ix (bS T w u) j).1=xAt T w j:=fun j hj=>by
  by_cases e:j<w.length
  ·rw[Be e];rfl
  ·have:j=w.length:=by omega
   subst this;rw[xY]
 have hinS:∀j,j≤w.length→(ix (bS T w u) j).2∈ix ss (ix (bS T w u) j).1.toNat:=fun j hj=>by
  have hb:=hmem _ (aZ (l:=bS T w u) (i:=j) O)
  refine(hs.mem _ O _).2 (.inr ?_)
  have e:(((ix (bS T w u) j).1.toNat:Nat):Int)=(ix (bS T w u) j).1:=by omega
  rw[e];exact aZ O
 have key:∀j,j≤w.length→ix (bS T w u) j∈q∧((q.idxOf (ix (bS T w u) j):Nat):Int)∈bE m (w.take j):=by
  intro j
  induction j with
  |zero=>
   intro _
   have e2:ix q 0=ix (bS T w u) 0:=by
    rw[h.wq.hd]
    unfold eM
    rw[if_pos O]
   have hin:ix q 0∈q:=aZ h.wq.ne
   rw[←e2]
   refine⟨hin,?_⟩
   have g1:=List.idxOf_lt_length_of_mem hin
   have g2:q.idxOf (ix q 0)=0:=by
    have g3:q[q.idxOf (ix q 0)]=q[0]'h.wq.ne:=by rw[List.getElem_idxOf,aJ h.wq.ne]
    exact(List.getElem_inj h.wq.nd).1 g3
   rw[g2]
   exact List.mem_singleton.2 rfl
  |succ j ih=>
   intro hj
   have hjl:j<w.length:=by omega
   obtain⟨hin,haf⟩:=ih O
   have hi:=List.idxOf_lt_length_of_mem hin
   have hat:ix q (q.idxOf (ix (bS T w u) j))=ix (bS T w u) j:=by rw[aJ hi];exact List.getElem_idxOf hi
   obtain⟨x0,x1,a,ea,hha⟩:=hal j hjl
   have hlb:mQ (ix T.sT (xAt T w j).toNat) (a:Int)=true:=Bd hha
   have e1:ix (bS T w u) j=(xAt T w j,rT (ix T.sT (xAt T w j).toNat) (a:Int)):=by rw[Be hjl];unfold StepM.kB;rw[ea]
   have h2:has (ix (bS T w u) j).2 (a:Int)=true:=by rw[e1];exact(Dt hlb).2.2
   have hax:a<8:=by have:=jR hT O hha;have:=hT.n8;omega
   have htg:tgt T (ix (bS T w u) j) (a:Int)=(ix (bS T w u) (j+1)).1:=by
    rw[h1 (j+1) hj,Bb hjl,ea,qU x0,e1];rfl
   have hS:=hinS (j+1) hj
   have hnx:ix (bS T w u) (j+1)∈q:=by
    have:=h.dn _ hi (a:Int) (by rw[hat];exact cQ.2 ⟨a,rfl,O,h2⟩) (ix (bS T w u) (j+1)).2 (by rw[hat,htg];exact hS)
    rw[hat,htg] at this
    exact this
   have hi2:=List.idxOf_lt_length_of_mem hnx
   refine⟨hnx,?_⟩
   rw[bL hjl,qO]
   refine tL.2 ⟨_,rfl,O,_,haf,((a:Int),((q.idxOf (ix (bS T w u) (j+1)):Nat):Int)),?_,ea.symm,rfl⟩
   rw[Int.toNat_natCast]
   refine(wH h hi).2 ⟨a,rfl,O,by rw[hat];exact h2,(ix (bS T w u) (j+1)).2,by rw[hat,htg];exact hS,?_⟩
   rw[hat,htg]
 obtain⟨hin,haf⟩:=key w.length (Nat.le_refl _)
 have hi:=List.idxOf_lt_length_of_mem hin
 have hat:ix q (q.idxOf (ix (bS T w u) w.length))=ix (bS T w u) w.length:=by rw[aJ hi];exact List.getElem_idxOf hi
 rw[List.take_length] at haf
 refine⟨_,haf,?_⟩
 rw[Int.toNat_natCast,Nk hT hw hs h hi,hat,xY]
theorem EM {s:SS} (hs:oK s) (hl:s.sT.length≤500) (h0:ix (hOl s) 0=false) {w:List Int} (hw:∀k,k<w.length→0≤ix w k∧ix w k<(s.aC.length:Int)) (hwl:w.length≤1000000000) (hg:0≤goS (tR s).1 w) {u:Int} (hu:u∈acc (tR s).1 (goS (tR s).1 w).toNat) {m:aI} (hm:lX (tR s).1 (bS (tR s).1 w u) m):
 jS m s=true∧∃x∈bE m w,cJ m x.toNat=u:=by
 have ets:(tR s).1=tS s:=by rw[bX h0]
 have hT:oK (tR s).1:=bC hs
 have hU:Bn (tR s).1:=qW hs
 have hne:=DK hs h0
 have htl:=nT hs
 have hwT:∀k,k<w.length→0≤ix w k∧ix w k<((tR s).1.aC.length:Int):=fun k hk=>by rw[dV];exact hw k hk
 have hal:=(DI hT hU w hwT hg).alive hT
 have hW:jF (tR s).1 (bS (tR s).1 w u):=⟨qV hT hal hu,hne,by rw[oG];omega⟩
 refine⟨?_,NJ hT hal hu hW hm⟩
 have hsat:=Qe hs (SV hT hW (NI _ _ _) hm)
 have hact:m.aC=s.aC:=by obtain⟨_,_,_,_,_,ha⟩:=hm;rw[ha,dV]
 have hval:eV m=true:=by
  obtain⟨ss,qq,mm,hss,hWI,ha⟩:=hm
  have hin:∀y,y<(tR s).1.sT.length→(ix ss y).length≤10:=fun y hy=>by
   have hsub:∀z∈ix ss y,z∈ix (acc (tR s).1 y) 0::u::(List.range 8).map fun(a:Nat)=>rT (ix (tR s).1.sT y) (a:Int):=fun z hz=>by
    rcases(hss.mem y hy z).1 hz with g|g
    ·rw[g];exact List.mem_cons_self
    ·refine List.mem_cons_of_mem _ ?_
     rcases Tl g with g2|⟨j,hj,g2⟩
     ·have g2:z=u:=g2
      rw[g2];exact List.mem_cons_self
     ·refine List.mem_cons_of_mem _ ?_
      have g2:z=rT (ix (tR s).1.sT (y:Int).toNat) (ix w j):=g2
      rw[Int.toNat_natCast] at g2
      have hact:=Eu hT hal hj
      have h8:=hT.n8
      refine List.mem_map.2 ⟨(ix w j).toNat,List.mem_range.2 O,?_⟩
      rw[g2,Int.toNat_of_nonneg hact.1]
   have:=List.Nodup.length_le_of_subset (hss.nd y hy) hsub
   simpa using this
  have hqq:qq.length≤(tR s).1.sT.length*10:=by
   have:=pV (g:=fun(y:Nat)=>(ix ss y).map fun z=>((y:Int),z)) (c:=10) (l:=List.range (tR s).1.sT.length) (fun y hy=>by rw[List.length_map];exact hin y (List.mem_range.1 hy))
   rw[List.length_range] at this
   refine Nat.le_trans (List.Nodup.length_le_of_subset hWI.wq.nd fun p hp=> ?_) this
   obtain⟨b0,b1,b2⟩:=hWI.wq.bd p hp
   exact List.mem_flatMap.2 ⟨p.1.toNat,List.mem_range.2 O,List.mem_map.2 ⟨p.2,b2,Prod.ext (by show((p.1.toNat:Nat):Int)=p.1;omega) rfl⟩⟩
  exact Nn (K:=10) hT hW hss hWI ha hin O O
 unfold jS
 rw[hval,decide_eq_true hact,Hd.2 hsat];rfl
end CompP
end
section
namespace EncM
def encZ (z:aI × Int):Value:= .agg #[.agg (z.1.aC.map Value.string).toArray,.agg (z.1.sT.map fun l=>Value.agg (l.map fun e=>Value.agg #[.int .i64 e.1,.int .i64 e.2]).toArray).toArray,.int .i64 z.2]
theorem zJ {α β:Type} {f:α→β} (hf:∀a b,f a=f b→a=b):∀{l m:List α},l.map f=m.map f→l=m
 | [],[],_=>rfl
 | [],b::m,h=>by simp at h
 |a::l,[],h=>by simp at h
 |a::l,b::m,h=>by
  rw[List.map_cons,List.map_cons] at h
  injection h with h1 h2
  rw[hf _ _ h1,zJ hf h2]
theorem vL {l m:List Value} (h:Value.agg l.toArray=Value.agg m.toArray):l=m:=by
 injection h with h
 exact congrArg Array.toList h
theorem encZ_inj {a b:aI × Int} (h:encZ a=encZ b):a=b:=by
 obtain⟨⟨a1,a2⟩,a3⟩:=a
 obtain⟨⟨b1,b2⟩,b3⟩:=b
 have h:=vL (l:= [_,_,_]) (m:= [_,_,_]) h
 simp only [List.cons.injEq,and_true] at h
 obtain⟨h1,h2,h3⟩:=h
 have e1:a1=b1:=zJ (fun x y g=>by injection g) (vL h1)
 have e2:a2=b2:=zJ (fun x y g=>zJ (fun p q g=>by
  have g:=vL (l:= [_,_]) (m:= [_,_]) g
  simp only [List.cons.injEq,and_true,Value.int.injEq,true_and] at g
  exact Prod.ext g.1 g.2) (vL g)) (vL h2)
 have e3:a3=b3:=by injection h3
 rw[e1,e2,e3]
open Classical in
noncomputable def DL (v:Value):aI × Int:=if h:∃z,encZ z=v then Classical.choose h else default
theorem DM (z:aI × Int):DL (encZ z)=z:=by
 have h:∃y,encZ y=encZ z:=⟨z,rfl⟩
 unfold DL
 rw[dif_pos h]
 exact encZ_inj (Classical.choose_spec h)
end EncM
end
section
open ref01 ref03 ref04 ref06 prog prog2 prog3 prog4 prog5 prog6 prog7 prog8 prog9 prog13 prog15 starts Part Rungs LeftM TrimM Itoa Keys RoundM MergeM BisM BisM4 BisM5 WalkM StepM WitM JudgM JudgM2 refw judg wit refj sysw divr divs divd dive divg divw divv LevM LevM2 ChsM TrimI QuoM FailM DivM RefM GenW CompM CrossM CompP PartM EncM prodc divp prodm
theorem JJ {x y:Int} (e:x=y) {w:World} {F:Fz} {v:Value} (h:(int x).p w F v):(int y).p w F v:=by subst e;exact h
def Lg (m:aI):Value:=encZ (m,0)
noncomputable def lU (v:Value):aI:=(DL v).1
theorem HJ (m:aI):lU (Lg m)=m:=by unfold lU Lg;rw[DM]
noncomputable def kM (s t:SS) (w:List Int) (u:Int):Int:=if bN s t=0 then(if iA (s.aC.length:Int) w=true∧jB (s.aC.length:Int) u=true then 0 else 1) else bN s t
abbrev kN:aI:=⟨[],[]⟩
structure sM (s t:SS) (w:List Int) (u:Int) (z:(aI × aI) × Int):Prop where
 err:kM s t w u≠0→z=((kN,kN),kM s t w u)
 none:kM s t w u=0→¬uH s t w u→z=((kN,kN),3)
 some:kM s t w u=0→uH s t w u→z.2=0∧∃a b,a∈acc (tR s).1 (goS (tR s).1 w).toNat∧b∈acc (tR t).1 (goS (tR t).1 w).toNat∧bV a b=u∧lX (tR s).1 (bS (tR s).1 w a) z.1.1∧lX (tR t).1 (bS (tR t).1 w b) z.1.2
section
variable {s t:SS} {w:List Int} {u:Int}
theorem EN {e:Int} (h:kM s t w u=e) (he:e≠0):sM s t w u ((kN,kN),e):=⟨fun _=>by rw[h],fun g=>absurd (h.symm.trans g) he,fun g=>absurd (h.symm.trans g) he⟩
theorem CW (h:kM s t w u=0) (hn:¬uH s t w u):sM s t w u ((kN,kN),3):=⟨fun g=>absurd h g,fun _ _=>rfl,fun _ g=>absurd g hn⟩
theorem Lh (h:kM s t w u=0) (hh:¬eO s t) (h1:0≤goS (tR s).1 w) (h2:0≤goS (tR t).1 w) {a b:Int} (ha:a∈acc (tR s).1 (goS (tR s).1 w).toNat) (hb:b∈acc (tR t).1 (goS (tR t).1 w).toNat) (hab:bV a b=u) {m n:aI} (hm:lX (tR s).1 (bS (tR s).1 w a) m) (hn:lX (tR t).1 (bS (tR t).1 w b) n):sM s t w u ((m,n),0):=
 ⟨fun g=>absurd h g,fun _ g=>absurd ⟨hh,h1,h2,a,ha,b,hb,hab⟩ g,fun _ _=>⟨rfl,a,b,ha,hb,hab,hm,hn⟩⟩
theorem Tm {n:Int} (hc:(!iA n w|| !jB n u)=true):¬(iA n w=true∧jB n u=true):=fun⟨h1,h2⟩=>by rw[h1,h2] at hc;cases hc
theorem Tn {n:Int} (hc:(!iA n w|| !jB n u)=false):iA n w=true∧jB n u=true:=by
 rw[Bool.or_eq_false_iff,Bool.not_eq_false',Bool.not_eq_false'] at hc;exact hc
theorem Tp (hc:(((decide (((tR s).2.length:Int)=0)||decide (((tR t).2.length:Int)=0))|| !decide (0≤goS (tR s).1 w))|| !decide (0≤goS (tR t).1 w))=true):¬uH s t w u:=fun⟨h1,h2,h3,_⟩=>by
 rw[decide_eq_true h2,decide_eq_true h3,Bool.not_true,Bool.or_false,Bool.or_false] at hc
 exact h1 (wL.1 hc)
theorem Tq (hc:(((decide (((tR s).2.length:Int)=0)||decide (((tR t).2.length:Int)=0))|| !decide (0≤goS (tR s).1 w))|| !decide (0≤goS (tR t).1 w))=false):¬eO s t∧0≤goS (tR s).1 w∧0≤goS (tR t).1 w:=by
 rw[Bool.or_eq_false_iff,Bool.or_eq_false_iff,Bool.not_eq_false',Bool.not_eq_false',decide_eq_true_eq,decide_eq_true_eq] at hc
 refine⟨fun g=> ?_,hc.1.2,hc.2⟩
 have:=wL.2 g
 rw[this] at hc
 cases hc.1.1
theorem HK {n:Int} (h:iA n w=true):w.length≤10000:=by
 unfold iA at h
 rw[Bool.and_eq_true,decide_eq_true_eq] at h
 omega
end
theorem JK (s:SS) (hT:oK s) (want:List (Int × Int)) (hw:jF s want):AL.Fn Tryz.prog 71 [spec s,sl 2 pE want] [] (ι:= { m:aI//lX s want m }) (fun _ i=>agg [strs i.1.aC,sl 1 gE i.1.sT]) (fun _=> []):=
 VA (wit.CM s hT want hw) (fun N i {w F v} h=>cU (cs:= [fre N (strs i.1.aC),fre N (sl 1 gE i.1.sT)]) (ds:= [strs i.1.aC,sl 1 gE i.1.sT]) ⟨fun h=>bP h,fun h=>bP h,tV⟩ h)
def NyI (m:aI) (l:List Int) (a:Int) (k j x:Nat):Prop:=(∃i,i<k∧∃e∈edg m (ix l i).toNat,e.1=a∧e.2=(x:Int))∨∃i,i<j∧(ix (edg m (ix l k).toNat) i).1=a∧(ix (edg m (ix l k).toNat) i).2=(x:Int)
structure NyS (m:aI) (l:List Int) (a:Int) (k j:Nat) (b:List Bool):Prop where
 len:b.length=m.sT.length
 mem:∀x,x<m.sT.length→(ix b x=true↔NyI m l a k j x)
section
variable {m:aI} {l:List Int} {a:Int} {k j:Nat} {b:List Bool}
theorem Qg:NyS m l a 0 0 (List.replicate m.sT.length false):=by
 refine⟨by simp,fun x hx=> ?_⟩
 rw[aJ (by simpa using hx),List.getElem_replicate]
 constructor
 ·intro h;cases h
 ·rintro(⟨i,hi,_⟩|⟨i,hi,_⟩)<;>omega
theorem Qh (h:NyS m l a k (edg m (ix l k).toNat).length b):NyS m l a (k+1) 0 b:=by
 refine⟨h.len,fun x hx=>(h.mem x hx).trans ?_⟩
 constructor
 ·rintro(⟨i,hi,g⟩|⟨i,hi,g⟩)
  ·exact .inl ⟨i,O,g⟩
  ·exact .inl ⟨k,O,_,aZ hi,g⟩
 ·rintro(⟨i,hi,g⟩|⟨i,hi,_⟩)
  ·by_cases e:i=k
   ·subst e
    obtain⟨ed,he,g⟩:=g
    obtain⟨q,hq,rfl⟩:=List.getElem_of_mem he
    exact .inr ⟨q,hq,by rw[aJ hq];exact g⟩
   ·exact .inl ⟨i,O,g⟩
  ·omega
theorem Qi (h:NyS m l a k j b) (hn:(ix (edg m (ix l k).toNat) j).1≠a):NyS m l a k (j+1) b:=by
 refine⟨h.len,fun x hx=>(h.mem x hx).trans ?_⟩
 constructor
 ·rintro(g|⟨i,hi,g⟩)
  ·exact .inl g
  ·exact .inr ⟨i,O,g⟩
 ·rintro(g|⟨i,hi,g⟩)
  ·exact .inl g
  ·by_cases e:i=j
   ·subst e;exact absurd g.1 hn
   ·exact .inr ⟨i,O,g⟩
theorem Tr (h:NyS m l a k j b) (hn:(ix (edg m (ix l k).toNat) j).1=a) (h0:0≤(ix (edg m (ix l k).toNat) j).2) (h1:(ix (edg m (ix l k).toNat) j).2<(m.sT.length:Int)):NyS m l a k (j+1) (b.set (ix (edg m (ix l k).toNat) j).2.toNat true):=by
 have hl:=h.len
 refine⟨by simp[hl],fun x hx=> ?_⟩
 rw[lN O]
 by_cases e:x=(ix (edg m (ix l k).toNat) j).2.toNat
 ·rw[if_pos e]
  exact⟨fun _=> .inr ⟨j,O,hn,O⟩,fun _=>rfl⟩
 ·rw[if_neg e]
  refine(h.mem x hx).trans ?_
  constructor
  ·rintro(g|⟨i,hi,g⟩)
   ·exact .inl g
   ·exact .inr ⟨i,O,g⟩
  ·rintro(g|⟨i,hi,g⟩)
   ·exact .inl g
   ·by_cases q:i=j
    ·subst q;exact absurd g.2 O
    ·exact .inr ⟨i,O,g⟩
theorem Qj (h:NyS m l a l.length 0 b):((List.range m.sT.length).filter fun(x:Nat)=>ix b x).map (fun(x:Nat)=>(x:Int))=fM m l a:=by
 unfold fM
 congr 1
 refine List.filter_congr fun x hx=> ?_
 have hx:=List.mem_range.1 hx
 rw[Bool.eq_iff_iff,h.mem x hx,List.any_eq_true]
 constructor
 ·rintro(⟨i,hi,e,he,g1,g2⟩|⟨i,hi,_⟩)
  ·exact⟨_,aZ hi,List.any_eq_true.2 ⟨e,he,by simp[g1,g2]⟩⟩
  ·omega
 ·rintro⟨y,hy,g⟩
  obtain⟨i,hi,rfl⟩:=List.getElem_of_mem hy
  obtain⟨e,he,g2⟩:=List.any_eq_true.1 g
  simp only [Bool.and_eq_true,decide_eq_true_eq] at g2
  exact .inl ⟨i,hi,e,by rw[aJ hi];exact he,g2.1,g2.2⟩
end
theorem Qk (m:aI) (l:List Int) (a:Int):(fM m l a).length≤m.sT.length:=by
 unfold fM
 rw[List.length_map]
 exact Nat.le_trans (List.length_filter_le _ _) (by simp)
theorem yK {m:aI} (h:0<m.sT.length) (w:List Int):(bE m w).length≤m.sT.length:=by
 refine sX (p:=fun w=>(bE m w).length≤m.sT.length) ?_ (fun w a _=> ?_) w
 ·exact h
 ·rw[qO];exact Qk _ _ _
theorem after_take {m:aI} {w:List Int} {k:Nat} (hk:k<w.length):bE m (w.take (k+1))=fM m (bE m (w.take k)) (ix w k):=by rw[bL hk,qO]
def nL (m n:aI) (w:List Int) (u:Int):Bool:=(bE m w).any fun x=>(bE n w).any fun y=>decide (bV (cJ m x.toNat) (cJ n y.toNat)=u)
theorem DN {m:aI} (hm:dJ m) {x:Nat} (hx:x<m.sT.length):0≤cJ m x∧cJ m x<256:=by
 have h8:=KS hm hx
 refine⟨Gb _,OT _ fun t ht=> ?_⟩
 obtain⟨e,he,rfl⟩:=List.mem_map.1 ht
 have:=h8 e he
 have hp:2^e.1.toNat≤2^7:=Nat.pow_le_pow_right O O
 omega
namespace T
theorem WG:Ent Tryz.prog 66:=aG kR
theorem WH:Ent Tryz.prog 67:=aG kR
theorem Rz:Ent Tryz.prog 69:=aG kR
theorem WJ:Ent Tryz.prog 82:=aG kR
theorem RA:Ent Tryz.prog 73:=aG kR
end T
namespace prodp
theorem Ql (n s:Int) (h0:0≤n) (h1:n<63):
 Fn0 Tryz.prog 67 [int n,int s] (bl (jB n s)):=by
 refine fnI Tryz.func67 rfl rfl (fun w0 F0=> ?_)
 refine sq (rg (ag (nl (th (sq (rg (mv (bi J J eT (mv ?_)))))))))
 apply eH (t:=7) (pd:=12) rfl
 rotate_left
 ·intro hg0 fin
  have hg0':=hg0
  try simp at hg0'
  exact gy J J J hg0 (mv (gy J J J hg0 (mv (gy J J J hg0 (bi J J (uW O O) (gy J J J hg0 (bi J J aN (pkT J hg0 J (drp (X:= [(11,_),(10,_),(9,_),(8,_)]) ⟨J,J,J,J,tV⟩ fin)))))))))
 ·intro hg0 fin
  exact gn J J J hg0 J J (gn J J J hg0 J J (gn J J J hg0 J J (gn J J J hg0 J J (pkF J hg0 J (drp (X:= [(11,_),(10,_),(9,_),(8,_)]) ⟨J,J,J,J,tV⟩ fin)))))
 refine ag (nl (th (rt ?_)))
 have hr0:((decide (0≤s))&&(decide (s<((2^n.toNat:Nat):Int))))=(jB n s):=by
  first|rfl|simp_all|omega
 exact rE () [.tmp 4] J [bl ((decide (0≤s))&&(decide (s<((2^n.toNat:Nat):Int))))] ⟨.tmp J,tV⟩ (cA1 (fun x0=>rV [bl x0]) hr0) trivial eX
theorem Qm (s t:SS) (hsm:bK s) (htm:bK t) (w:List Int) (u:Int):
 AL.Fn Tryz.prog 22 [spec s,spec t,ints w,int u] [] (ι:= { z:(aI × aI) × Int//sM s t w u z }) (fun _ i=>tup [sys i.1.1.1,sys i.1.1.2,int i.1.2]) (fun _=> []):=by
 refine fnI Tryz.func22 rfl rfl (fun w0 F0=> ?_)
 refine fcC (bO 0 J) (fun hS0=> ?_)
 obtain⟨hsa0,hss0,hse0⟩:=sLn hS0
 refine fcC (bO 1 J) (fun hS1=> ?_)
 obtain⟨hsa1,hss1,hse1⟩:=sLn hS1
 refine fcC (aL 2 J) (fun hm2=> ?_)
 refine sq (rg (bx (key:=4) (cs:= [sl 1 rE_ s.aC,sl 2 sE s.sT]) J fun b4=>(bx (key:=5) (cs:= [sl 1 rE_ t.aC,sl 2 sE t.sT]) J fun b5=>(al (key:=8) T.z43 (eC (eC eZ)) fun b8=>(al (key:=9) T.z43 (eC (eC eZ)) fun b9=>(ag (nl (th (sq (sq (rg (lPA J J T.aD J (lPA J J T.aD J (aO (φs:= [agg [sl 1 rE_ s.aC,sl 2 sE s.sT],agg [sl 1 rE_ t.aC,sl 2 sE t.sT]]) (φ:=int (bN s t)) ⟨J,J,tV⟩ (judg.mS s t aS aS) T.Fk (ag (nl (th (sq (rg (mv (bi J J fS (nl (th ?_)))))))))))))))))))))))
 refine cd J (fun hc0=> ?_) (fun hc0=> ?_)
 ·skip
  have hfz:bN s t≠0:=by simpa using hc0
  have hpe:kM s t w u=bN s t:=by unfold kM;rw[if_neg hfz]
  refine sq (rg (bd (css:= []) T.uO (eC (eC eZ)) trivial (bd (css:= []) T.uO (eC (eC eZ)) trivial (mv (sPA (cs':= [eqv (.slice none 0 0),eqv (.slice none 0 0)]) J J J T.cD J J (sPA (cs':= [eqv (.slice none 0 0),eqv (.slice none 0 0)]) J J J T.cD J J (ag (nl (th (rt (rt_ ?_)))))))))))
  refine dE 8 0 (sl 1 rE_ []) rfl rfl bT ?_
  refine dE 8 1 (sl 1 gE []) rfl rfl bT ?_
  refine dE 9 0 (sl 1 rE_ []) rfl rfl bT ?_
  refine dE 9 1 (sl 1 gE []) rfl rfl bT ?_
  exact rE ⟨((kN,kN),bN s t),EN hpe hfz⟩ [.cell 8 43,.cell 9 43,.tmp 10] J [agg [sl 1 rE_ [],sl 1 gE []],agg [sl 1 rE_ [],sl 1 gE []],int (bN s t)] ⟨.agg J J T.cD J J,.agg J J T.cD J J,.tmp J,tV⟩ J trivial eX
 ·skip
  have hfz:bN s t=0:=by simpa using hc0
  obtain⟨hsv,htv,hst⟩:=Go.Proofs.YtcjemmihcplgdaaGreatDoor.mX hfz
  have hs:=bW hsv
  have ht:=bW htv
  have hn8:=hs.n8
  refine sk (th (sq (sq (rg (fP J T.cR (lP J J J T.cV (mv (aO (φs:= [sl 1 rE_ s.aC,sl 1 nE w]) (φ:=bl (iA (s.aC.length:Int) w)) ⟨J,J,tV⟩ (prog15.Pj s.aC w) T.WG (no J (mv ?_))))))))))
  apply gOr (t:=39) (pd:=46) rfl
  rotate_left
  ·intro hg0 fin
   have hg0':=hg0
   try simp at hg0'
   exact gy J J J hg0 (fP J T.cR (gy J J J hg0 (lP J J J T.cV (gy J J J hg0 (fc (aL 41 J) fun hm41=>(lnF J T.eS (gy J J J hg0 (mv (gy J J J hg0 (aO (φs:= [int (s.aC.length:Int),int u]) (φ:=bl (jB (s.aC.length:Int) u)) ⟨J,J,tV⟩ (prodp.Ql _ _ O O) T.WH (gy J J J hg0 (no J (pkF J hg0 J (drp (X:= [(45,_),(44,_),(43,_),(42,_),(41,_),(40,_)]) ⟨J,J,J,J,J,J,tV⟩ fin))))))))))))))
  ·intro hg0 fin
   exact gn J J J hg0 J J (gn J J J hg0 J J (gn J J J hg0 J J (gn J J J hg0 J J (gn J J J hg0 J J (gn J J J hg0 J J (pkT J hg0 J (drp (X:= [(45,_),(44,_),(43,_),(42,_),(41,_),(40,_)]) ⟨J,J,J,J,J,J,tV⟩ fin)))))))
  refine nl (th ?_)
  refine cd J (fun hc1=> ?_) (fun hc1=> ?_)
  ·skip
   have hpe:kM s t w u=1:=by unfold kM;rw[if_pos hfz,if_neg (Tm hc1)]
   refine sq (rg (bd (css:= []) T.uO (eC (eC eZ)) trivial (bd (css:= []) T.uO (eC (eC eZ)) trivial (sPA (cs':= [eqv (.slice none 0 0),eqv (.slice none 0 0)]) J J J T.cD J J (sPA (cs':= [eqv (.slice none 0 0),eqv (.slice none 0 0)]) J J J T.cD J J (ag (nl (th (rt (rt_ ?_))))))))))
   refine dE 8 0 (sl 1 rE_ []) rfl rfl bT ?_
   refine dE 8 1 (sl 1 gE []) rfl rfl bT ?_
   refine dE 9 0 (sl 1 rE_ []) rfl rfl bT ?_
   refine dE 9 1 (sl 1 gE []) rfl rfl bT ?_
   exact rE ⟨((kN,kN),1),EN hpe (by decide)⟩ [.cell 8 43,.cell 9 43,.tmp 10] J [agg [sl 1 rE_ [],sl 1 gE []],agg [sl 1 rE_ [],sl 1 gE []],int 1] ⟨.agg J J T.cD J J,.agg J J T.cD J J,.tmp J,tV⟩ J trivial eX
  ·skip
   obtain⟨hwo,hse⟩:=Tn hc1
   have hpe:kM s t w u=0:=by unfold kM;rw[if_pos hfz,if_pos ⟨hwo,hse⟩]
   have hwl:=HK hwo
   have hS:=bC hs
   have hT:=bC ht
   have hwS:iA ((tR s).1.aC.length:Int) w=true:=by rw[dV];exact hwo
   have hwT:iA ((tR t).1.aC.length:Int) w=true:=by rw[dV,←hst];exact hwo
   have hSn:=hS.n8
   have hTn:=hT.n8
   refine sk (th (sq (rg (lPA J J T.aD J (dU (φs:= [agg [sl 1 rE_ s.aC,sl 2 sE s.sT]]) (φ:=tup [agg [sl 1 rE_ ((tR s).1.aC),sl 2 sE ((tR s).1.sT)],sl 1 nE ((tR s).2)]) ⟨J,tV⟩ (prog9.jZ s aS) T.uG (fun N hN=>fun h=>qQ (cs:= [agg [fre N (sl 1 rE_ ((tR s).1.aC)),frb (ix (hOl s) 0) N (sl 2 sE ((tR s).1.sT))],sl 1 nE ((tR s).2)]) (ds:= [agg [sl 1 rE_ ((tR s).1.aC),sl 2 sE ((tR s).1.sT)],sl 1 nE ((tR s).2)]) ⟨fun h=>cU (cs:= [fre N (sl 1 rE_ ((tR s).1.aC)),frb (ix (hOl s) 0) N (sl 2 sE ((tR s).1.sT))]) (ds:= [sl 1 rE_ ((tR s).1.aC),sl 2 sE ((tR s).1.sT)]) ⟨fun h=>bP h,fun h=>oP h,tV⟩ h,fun h=>h,tV⟩ h) (mv (xt J J (xt J J (sPA (cs':= [sl 1 rE_ ((tR s).1.aC),sl 2 sE ((tR s).1.sT)]) J J J T.aD J J (ag (nl (th (sq (rg (lPA J J T.aD J (dU (φs:= [agg [sl 1 rE_ t.aC,sl 2 sE t.sT]]) (φ:=tup [agg [sl 1 rE_ ((tR t).1.aC),sl 2 sE ((tR t).1.sT)],sl 1 nE ((tR t).2)]) ⟨J,tV⟩ (prog9.jZ t aS) T.uG (fun N hN=>fun h=>qQ (cs:= [agg [fre N (sl 1 rE_ ((tR t).1.aC)),frb (ix (hOl t) 0) N (sl 2 sE ((tR t).1.sT))],sl 1 nE ((tR t).2)]) (ds:= [agg [sl 1 rE_ ((tR t).1.aC),sl 2 sE ((tR t).1.sT)],sl 1 nE ((tR t).2)]) ⟨fun h=>cU (cs:= [fre N (sl 1 rE_ ((tR t).1.aC)),frb (ix (hOl t) 0) N (sl 2 sE ((tR t).1.sT))]) (ds:= [sl 1 rE_ ((tR t).1.aC),sl 2 sE ((tR t).1.sT)]) ⟨fun h=>bP h,fun h=>oP h,tV⟩ h,fun h=>h,tV⟩ h) (mv (xt J J (xt J J (sPA (cs':= [sl 1 rE_ ((tR t).1.aC),sl 2 sE ((tR t).1.sT)]) J J J T.aD J J (ag (nl (th (sq (rg (lPA J J T.aD J (mv (aO (φs:= [agg [sl 1 rE_ ((tR s).1.aC),sl 2 sE ((tR s).1.sT)],sl 1 nE w]) (φ:=tup [int (if goS ((tR s).1) w<0 then 0 else goS ((tR s).1) w),bl (decide (0≤goS ((tR s).1) w))]) ⟨J,J,tV⟩ (prog15.Et ((tR s).1) aS w (fun _=>sJ aS)) T.Rz (mv (xt J J (xt J J (ag (ag (nl (th (sq (rg (lPA J J T.aD J (mv (aO (φs:= [agg [sl 1 rE_ ((tR t).1.aC),sl 2 sE ((tR t).1.sT)],sl 1 nE w]) (φ:=tup [int (if goS ((tR t).1) w<0 then 0 else goS ((tR t).1) w),bl (decide (0≤goS ((tR t).1) w))]) ⟨J,J,tV⟩ (prog15.Et ((tR t).1) aS w (fun _=>sJ aS)) T.Rz (mv (xt J J (xt J J (ag (ag (nl (th (sq (sq (rg (mv (fc (aL 71 J) fun hm71=>(lnF J T.aM (bi J J eF (mv ?_)))))))))))))))))))))))))))))))))))))))))))))))))))))))
   apply gOr (t:=74) (pd:=78) rfl
   rotate_left
   ·intro hg1 fin
    have hg1':=hg1
    try simp at hg1'
    exact gy J J J hg1 (mv (gy J J J hg1 (fc (aL 75 J) fun hm75=>(lnF J T.aM (gy J J J hg1 (bi J J eF (pkF J hg1 J (drp (X:= [(77,_),(76,_),(75,_)]) ⟨J,J,J,tV⟩ fin))))))))
   ·intro hg1 fin
    exact gn J J J hg1 J J (gn J J J hg1 J J (gn J J J hg1 J J (pkT J hg1 J (drp (X:= [(77,_),(76,_),(75,_)]) ⟨J,J,J,tV⟩ fin))))
   refine mv ?_
   apply gOr (t:=79) (pd:=82) rfl
   rotate_left
   ·intro hg2 fin
    have hg2':=hg2
    try simp at hg2'
    exact gy J J J hg2 (mv (gy J J J hg2 (no J (pkF J hg2 J (drp (X:= [(81,_),(80,_)]) ⟨J,J,tV⟩ fin)))))
   ·intro hg2 fin
    exact gn J J J hg2 J J (gn J J J hg2 J J (pkT J hg2 J (drp (X:= [(81,_),(80,_)]) ⟨J,J,tV⟩ fin)))
   refine mv ?_
   apply gOr (t:=83) (pd:=86) rfl
   rotate_left
   ·intro hg3 fin
    have hg3':=hg3
    try simp at hg3'
    exact gy J J J hg3 (mv (gy J J J hg3 (no J (pkF J hg3 J (drp (X:= [(85,_),(84,_)]) ⟨J,J,tV⟩ fin)))))
   ·intro hg3 fin
    exact gn J J J hg3 J J (gn J J J hg3 J J (pkT J hg3 J (drp (X:= [(85,_),(84,_)]) ⟨J,J,tV⟩ fin)))
   refine nl (th ?_)
   refine cd J (fun hc2=> ?_) (fun hc2=> ?_)
   ·skip
    have hnb:¬uH s t w u:=Tp hc2
    refine sq (rg (bd (css:= []) T.uO (eC (eC eZ)) trivial (bd (css:= []) T.uO (eC (eC eZ)) trivial (sPA (cs':= [eqv (.slice none 0 0),eqv (.slice none 0 0)]) J J J T.cD J J (sPA (cs':= [eqv (.slice none 0 0),eqv (.slice none 0 0)]) J J J T.cD J J (ag (nl (th (rt (rt_ ?_))))))))))
    refine dE 8 0 (sl 1 rE_ []) rfl rfl bT ?_
    refine dE 8 1 (sl 1 gE []) rfl rfl bT ?_
    refine dE 9 0 (sl 1 rE_ []) rfl rfl bT ?_
    refine dE 9 1 (sl 1 gE []) rfl rfl bT ?_
    exact rE ⟨((kN,kN),3),CW hpe hnb⟩ [.cell 8 43,.cell 9 43,.tmp 10] J [agg [sl 1 rE_ [],sl 1 gE []],agg [sl 1 rE_ [],sl 1 gE []],int 3] ⟨.agg J J T.cD J J,.agg J J T.cD J J,.tmp J,tV⟩ J trivial eX
   ·skip
    have hx2:=Tq (s:=s) (t:=t) (w:=w) hc2
    have hh:=hx2.1
    have hg1:=hx2.2.1
    have hg2:=hx2.2.2
    have hh1:=(Bu hh).1
    have hh2:=(Bu hh).2
    have e1:(if goS (tR s).1 w<0 then 0 else goS (tR s).1 w)=goS (tR s).1 w:=if_neg O
    have e2:(if goS (tR t).1 w<0 then 0 else goS (tR t).1 w)=goS (tR t).1 w:=if_neg O
    have r1:=DI hS (qW hs) w (fun _ h=>sJ hwS h) hg1
    have r2:=DI hT (qW ht) w (fun _ h=>sJ hwT h) hg2
    have l1:=r1.lt hS
    have l2:=r2.lt hT
    have a1:uE (tR s).1 w:=r1.alive hS
    have a2:uE (tR t).1 w:=r2.alive hT
    have hsa:=(hS.st _ l1).ac
    have hta:=(hT.st _ l2).ac
    have hs8:=(hS.st _ l1).acl
    have ht8:=(hT.st _ l2).acl
    have f1:=hS.few1
    have f2:=hT.few1
    refine knC 14 (int (goS (tR s).1 w)) rfl (fun h=>JJ e1 h) (knC 16 (int (goS (tR t).1 w)) rfl (fun h=>JJ e2 h) (sk (th (sq (sq (rg (fP rfl T.aY (lP rfl rfl rfl T.bI (mv (iF rfl rfl T.bU O gB (fF rfl T.cM (lF rfl rfl T.aV (fc (aL 94 rfl) fun hm94=>(lnF rfl T.aM (mv (nl (th (bk ?_))))))))))))))))))
    have hI0_0:0≤(ix ((tR s).1.sT) (goS (tR s).1 w).toNat).aP.length:=by
     first|omega|simp
    have hI0_1:∀j,j<0→∀y∈acc (tR t).1 (goS (tR t).1 w).toNat,bV (ix (ix (tR s).1.sT (goS (tR s).1 w).toNat).aP j) y≠u:=by
     intro j hj;omega
    refine lp (κ:=Nat) (fun p=> [(2,sl 1 nE w),(3,int u),(4,ptr 4 b4 0),(5,ptr 5 b5 0),(8,ptr 8 b8 0),(9,ptr 9 b9 0),(16,int (goS (tR t).1 w)),(94,sl 1 nE (ix ((tR s).1.sT) (goS (tR s).1 w).toNat).aP),(95,int ((ix ((tR s).1.sT) (goS (tR s).1 w).toNat).aP.length:Int)),(96,int (p:Int))]) (fun p=> [(4,cell b4 [sl 1 rE_ ((tR s).1.aC),sl 2 sE ((tR s).1.sT)]),(5,cell b5 [sl 1 rE_ ((tR t).1.aC),sl 2 sE ((tR t).1.sT)]),(8,cell b8 [eqv (.slice none 0 0),eqv (.slice none 0 0)]),(9,cell b9 [eqv (.slice none 0 0),eqv (.slice none 0 0)])]) (fun p=>(p≤(ix ((tR s).1.sT) (goS (tR s).1 w).toNat).aP.length)∧(∀j,j<p→∀y∈acc (tR t).1 (goS (tR t).1 w).toNat,bV (ix (ix (tR s).1.sT (goS (tR s).1 w).toNat).aP j) y≠u)) (fun p=>(ix ((tR s).1.sT) (goS (tR s).1 w).toNat).aP.length- p) 0 ⟨hI0_0,hI0_1⟩ ⟨id,id,id,id,id,id,id,id,id,id,tV⟩ ⟨rI,rI,rI,rI,tV⟩ ?_
    intro k hG0
    obtain⟨hk0,hI0⟩:(k≤(ix ((tR s).1.sT) (goS (tR s).1 w).toNat).aP.length)∧(∀j,j<k→∀y∈acc (tR t).1 (goS (tR t).1 w).toNat,bV (ix (ix (tR s).1.sT (goS (tR s).1 w).toNat).aP j) y≠u):=hG0
    refine sq (rg (bi J J aN (nl (th (sq ?_)))))
    refine cd J (fun hc3=> ?_) (fun hc3=> ?_)
    ·try simp at hc3
     have hak:=hsa k O
     refine sk (th (sq (bk (sq (rg (iF J J T.aM O gB (lF J J T.aF (ag (nl (th (sq (rg (fP J T.aY (lP J J J T.bI (mv (iF J J T.bU O gB (fF J T.cM (lF J J T.aV (fc (aL 105 J) fun hm105=>(lnF J T.aM (mv (nl (th (bk ?_))))))))))))))))))))))))
     have hI1_0:0≤(ix ((tR t).1.sT) (goS (tR t).1 w).toNat).aP.length:=by
      first|omega|simp
     have hI1_1:∀j,j<0→bV (ix (ix (tR s).1.sT (goS (tR s).1 w).toNat).aP k) (ix (ix (tR t).1.sT (goS (tR t).1 w).toNat).aP j)≠u:=by
      intro j hj;omega
     refine lp (κ:=Nat) (fun p=> [(2,sl 1 nE w),(3,int u),(4,ptr 4 b4 0),(5,ptr 5 b5 0),(8,ptr 8 b8 0),(9,ptr 9 b9 0),(16,int (goS (tR t).1 w)),(19,int (ix (ix ((tR s).1.sT) (goS (tR s).1 w).toNat).aP k)),(94,sl 1 nE (ix ((tR s).1.sT) (goS (tR s).1 w).toNat).aP),(95,int ((ix ((tR s).1.sT) (goS (tR s).1 w).toNat).aP.length:Int)),(96,int (k:Int)),(105,sl 1 nE (ix ((tR t).1.sT) (goS (tR t).1 w).toNat).aP),(106,int ((ix ((tR t).1.sT) (goS (tR t).1 w).toNat).aP.length:Int)),(107,int (p:Int))]) (fun p=> [(4,cell b4 [sl 1 rE_ ((tR s).1.aC),sl 2 sE ((tR s).1.sT)]),(5,cell b5 [sl 1 rE_ ((tR t).1.aC),sl 2 sE ((tR t).1.sT)]),(8,cell b8 [eqv (.slice none 0 0),eqv (.slice none 0 0)]),(9,cell b9 [eqv (.slice none 0 0),eqv (.slice none 0 0)])]) (fun p=>(p≤(ix ((tR t).1.sT) (goS (tR t).1 w).toNat).aP.length)∧(∀j,j<p→bV (ix (ix (tR s).1.sT (goS (tR s).1 w).toNat).aP k) (ix (ix (tR t).1.sT (goS (tR t).1 w).toNat).aP j)≠u)) (fun p=>(ix ((tR t).1.sT) (goS (tR t).1 w).toNat).aP.length- p) 0 ⟨hI1_0,hI1_1⟩ ⟨id,id,id,id,id,id,id,id,id,id,id,id,id,id,tV⟩ ⟨rI,rI,rI,rI,tV⟩ ?_
     intro k1 hG1
     obtain⟨hk1,hI1⟩:(k1≤(ix ((tR t).1.sT) (goS (tR t).1 w).toNat).aP.length)∧(∀j,j<k1→bV (ix (ix (tR s).1.sT (goS (tR s).1 w).toNat).aP k) (ix (ix (tR t).1.sT (goS (tR t).1 w).toNat).aP j)≠u):=hG1
     refine sq (rg (bi J J aN (nl (th (sq ?_)))))
     refine cd J (fun hc4=> ?_) (fun hc4=> ?_)
     ·try simp at hc4
      have hbk:=hta k1 O
      refine sk (th (sq (bk (sq (rg (iF J J T.aM O gB (lF J J T.aF (ag (nl (th (sq (rg (mv (mv (bi J J (FF O O O O) (mv (bi J J eF (nl (th ?_)))))))))))))))))))
      refine cd J (fun hc5=> ?_) (fun hc5=> ?_)
      ·skip
       have hau:bV (ix (ix (tR s).1.sT (goS (tR s).1 w).toNat).aP k) (ix (ix (tR t).1.sT (goS (tR t).1 w).toNat).aP k1)=u:=of_decide_eq_true hc5
       have hma:ix (ix (tR s).1.sT (goS (tR s).1 w).toNat).aP k∈acc (tR s).1 (goS (tR s).1 w).toNat:=aZ (l:=(ix (tR s).1.sT (goS (tR s).1 w).toNat).aP) O
       have hmb:ix (ix (tR t).1.sT (goS (tR t).1 w).toNat).aP k1∈acc (tR t).1 (goS (tR t).1 w).toNat:=aZ (l:=(ix (tR t).1.sT (goS (tR t).1 w).toNat).aP) O
       have hw1:jF (tR s).1 (bS (tR s).1 w (ix (ix (tR s).1.sT (goS (tR s).1 w).toNat).aP k)):=⟨qV hS a1 hma,DK hs hh1,by rw[oG];omega⟩
       have hw2:jF (tR t).1 (bS (tR t).1 w (ix (ix (tR t).1.sT (goS (tR t).1 w).toNat).aP k1)):=⟨qV hT a2 hmb,DK ht hh2,by rw[oG];omega⟩
       refine sq (rg (lPA J J T.aD J (mv (mv (aO (φs:= [agg [sl 1 rE_ ((tR s).1.aC),sl 2 sE ((tR s).1.sT)],sl 1 nE w,int (ix (ix ((tR s).1.sT) (goS (tR s).1 w).toNat).aP k)]) (φ:=tup [sl 2 pE (bS ((tR s).1) w (ix (ix ((tR s).1.sT) (goS (tR s).1 w).toNat).aP k)),bl (decide ((ix (ix ((tR s).1.sT) (goS (tR s).1 w).toNat).aP k)∈acc ((tR s).1) (goS ((tR s).1) w).toNat))]) ⟨J,J,J,tV⟩ (judg.Du ((tR s).1) aS w aS (ix (ix ((tR s).1.sT) (goS (tR s).1 w).toNat).aP k) O) T.KO (mv (xt J J (xt J J (ag (ag (nl (th (sq (rg (lPA J J T.aD J (mv (mv (aO (φs:= [agg [sl 1 rE_ ((tR t).1.aC),sl 2 sE ((tR t).1.sT)],sl 1 nE w,int (ix (ix ((tR t).1.sT) (goS (tR t).1 w).toNat).aP k1)]) (φ:=tup [sl 2 pE (bS ((tR t).1) w (ix (ix ((tR t).1.sT) (goS (tR t).1 w).toNat).aP k1)),bl (decide ((ix (ix ((tR t).1.sT) (goS (tR t).1 w).toNat).aP k1)∈acc ((tR t).1) (goS ((tR t).1) w).toNat))]) ⟨J,J,J,tV⟩ (judg.Du ((tR t).1) aS w aS (ix (ix ((tR t).1.sT) (goS (tR t).1 w).toNat).aP k1) O) T.KO (mv (xt J J (xt J J (ag (ag (nl (th (sq ?_))))))))))))))))))))))))))
       refine drH (nh:=9) [0,0,3,0,0,31,63,127,255] [(none,[4]),(none,[]),(none,[]),(none,[5]),(none,[]),(none,[]),(some 8,[8]),(some 9,[9]),(none,[])] T.mixed kR kR ?_
       refine stv (d:=130) (fun β0=>agg [sl 1 rE_ ((tR s).1.aC),sl 2 sE ((tR s).1.sT)]) [4] J bH (fun β0 _ _ _ _ gq gh kq=>lPA (gq.1.trans J) (gh.1.trans J) T.aD J kq) ?_
       refine stv (d:=131) (fun β0=>sl 2 pE (bS ((tR s).1) w (ix (ix ((tR s).1.sT) (goS (tR s).1 w).toNat).aP k))) [] J bH (fun β0 _ _ _ _ gq gh kq=>mv' (gq.1.trans J) kq) ?_
       refine ste (d:=132) Lg lU HJ (fun z=>lX (tR s).1 (bS (tR s).1 w (ix (ix (tR s).1.sT (goS (tR s).1 w).toNat).aP k)) z) (fun z=>agg [sl 1 rE_ z.aC,sl 1 gE z.sT]) rfl (fun β0 _ _ _ _ gq gh kq=>cal (Hi:= []) (φs:= [agg [sl 1 rE_ ((tR s).1.aC),sl 2 sE ((tR s).1.sT)],sl 2 pE (bS ((tR s).1) w (ix (ix ((tR s).1.sT) (goS (tR s).1 w).toNat).aP k))]) ⟨(gq.1.trans rfl),(gq.2.1.trans rfl),tV⟩ (JK (tR s).1 hS (bS (tR s).1 w (ix (ix (tR s).1.sT (goS (tR s).1 w).toNat).aP k)) hw1) T.KP trivial fun N i=>kq i.1 i.2) ?_
       refine stv (d:=133) (fun β0=>agg [sl 1 rE_ ((tR t).1.aC),sl 2 sE ((tR t).1.sT)]) [5] J bH (fun β0 _ _ _ _ gq gh kq=>lPA (gq.1.trans J) (gh.1.trans J) T.aD J kq) ?_
       refine stv (d:=134) (fun β0=>sl 2 pE (bS ((tR t).1) w (ix (ix ((tR t).1.sT) (goS (tR t).1 w).toNat).aP k1))) [] J bH (fun β0 _ _ _ _ gq gh kq=>mv' (gq.1.trans J) kq) ?_
       refine ste (d:=135) Lg lU HJ (fun z=>lX (tR t).1 (bS (tR t).1 w (ix (ix (tR t).1.sT (goS (tR t).1 w).toNat).aP k1)) z) (fun z=>agg [sl 1 rE_ z.aC,sl 1 gE z.sT]) rfl (fun β0 _ _ _ _ gq gh kq=>cal (Hi:= []) (φs:= [agg [sl 1 rE_ ((tR t).1.aC),sl 2 sE ((tR t).1.sT)],sl 2 pE (bS ((tR t).1) w (ix (ix ((tR t).1.sT) (goS (tR t).1 w).toNat).aP k1))]) ⟨(gq.1.trans rfl),(gq.2.1.trans rfl),tV⟩ (JK (tR t).1 hT (bS (tR t).1 w (ix (ix (tR t).1.sT (goS (tR t).1 w).toNat).aP k1)) hw2) T.KP trivial fun N i=>kq i.1 i.2) ?_
       refine stw 8 (fun β0=>cell b8 [sl 1 rE_ (lU (β0 2)).aC,sl 1 gE (lU (β0 2)).sT]) [8] J (fun β β' hb=>by first|rw[hb 2 J]|(dsimp only;rw[hb 2 J])) (fun β0 _ _ _ _ gq gh kq=>VB (cs':= [sl 1 rE_ (lU (β0 2)).aC,sl 1 gE (lU (β0 2)).sT]) (gq.1.trans J) (gh.1.trans J) (gq.2.1.trans J) T.cD J J kq) ?_
       refine stw 9 (fun β0=>cell b9 [sl 1 rE_ (lU (β0 5)).aC,sl 1 gE (lU (β0 5)).sT]) [9] J (fun β β' hb=>by first|rw[hb 5 J]|(dsimp only;rw[hb 5 J])) (fun β0 _ _ _ _ gq gh kq=>VB (cs':= [sl 1 rE_ (lU (β0 5)).aC,sl 1 gE (lU (β0 5)).sT]) (gq.1.trans J) (gh.1.trans J) (gq.2.1.trans J) T.cD J J kq) ?_
       refine stv (d:=10) (fun β0=>int 0) [] J bH (fun β0 _ _ _ _ gq gh kq=>ag kq) ?_
       refine pnH fun β0=>(nl (th (rt (rb (rt_ (rt_ (rb (rb (rt_ (rt_ (rb (rt_ ?_))))))))))))
       refine VC 132 rfl fun h132=>(VC 135 rfl fun h135=> ?_)
       exact rE ⟨((lU (β0 2),lU (β0 5)),0),Lh hpe hh hg1 hg2 hma hmb hau h132 h135⟩ [.cell 8 43,.cell 9 43,.tmp 10] J [agg [sl 1 rE_ (lU (β0 2)).aC,sl 1 gE (lU (β0 2)).sT],agg [sl 1 rE_ (lU (β0 5)).aC,sl 1 gE (lU (β0 5)).sT],int 0] ⟨.agg J J T.cD J J,.agg J J T.cD J J,.tmp J,tV⟩ J trivial eX
      ·skip
       have hau:bV (ix (ix (tR s).1.sT (goS (tR s).1 w).toNat).aP k) (ix (ix (tR t).1.sT (goS (tR t).1 w).toNat).aP k1)≠u:=of_decide_eq_false hc5
       refine sk (eb (th (rg (bi J J (aK i6) (mv (nl ?_))))))
       have hN0:(k1+1)≤(ix ((tR t).1.sT) (goS (tR t).1 w).toNat).aP.length:=by
        first|omega|simp_all
       have hN1:∀j,j<(k1+1)→bV (ix (ix (tR s).1.sT (goS (tR s).1 w).toNat).aP k) (ix (ix (tR t).1.sT (goS (tR t).1 w).toNat).aP j)≠u:=by
        intro j hj
        by_cases e:j=k1
        ·subst e;exact hau
        ·exact hI1 j O
       exact ln (k1+1) ⟨hN0,hN1⟩ dO ⟨id,id,id,id,id,id,id,id,id,id,id,id,id,id,tV⟩ ⟨rI,rI,rI,rI,tV⟩
     ·try simp at hc4
      refine ex (xt_ (xt_ (xb (eb (th (rg (bi J J (aK i6) (mv (nl ?_)))))))))
      have hN0:(k+1)≤(ix ((tR s).1.sT) (goS (tR s).1 w).toNat).aP.length:=by
       first|omega|simp_all
      have hN1:∀j,j<(k+1)→∀y∈acc (tR t).1 (goS (tR t).1 w).toNat,bV (ix (ix (tR s).1.sT (goS (tR s).1 w).toNat).aP j) y≠u:=by
       intro j hj y hy
       by_cases e:j=k
       ·subst e
        obtain⟨i,hi,rfl⟩:=List.getElem_of_mem hy
        have hi:i<(ix (tR t).1.sT (goS (tR t).1 w).toNat).aP.length:=hi
        have:=hI1 i O
        rwa [aJ hi] at this
       ·exact hI0 j O y hy
      exact ln (k+1) ⟨hN0,hN1⟩ dO ⟨id,id,id,id,id,id,id,id,id,id,tV⟩ ⟨rI,rI,rI,rI,tV⟩
    ·try simp at hc3
     refine ex (xt_ (xt_ (xb (th (sq (rg (bd (css:= []) T.uO (eC (eC eZ)) trivial (bd (css:= []) T.uO (eC (eC eZ)) trivial (sPA (cs':= [eqv (.slice none 0 0),eqv (.slice none 0 0)]) J J J T.cD J J (sPA (cs':= [eqv (.slice none 0 0),eqv (.slice none 0 0)]) J J J T.cD J J (ag (nl (th (rt ?_))))))))))))))
     have hnb:¬uH s t w u:=fun⟨_,_,_,x,hx,y,hy,hxy⟩=>by
      obtain⟨i,hi,rfl⟩:=List.getElem_of_mem hx
      have hi:i<(ix (tR s).1.sT (goS (tR s).1 w).toNat).aP.length:=hi
      have:=hI0 i O y hy
      rw[aJ hi] at this
      exact this hxy
     refine dE 8 0 (sl 1 rE_ []) rfl rfl bT ?_
     refine dE 8 1 (sl 1 gE []) rfl rfl bT ?_
     refine dE 9 0 (sl 1 rE_ []) rfl rfl bT ?_
     refine dE 9 1 (sl 1 gE []) rfl rfl bT ?_
     exact rE ⟨((kN,kN),3),CW hpe hnb⟩ [.cell 8 43,.cell 9 43,.tmp 10] J [agg [sl 1 rE_ [],sl 1 gE []],agg [sl 1 rE_ [],sl 1 gE []],int 3] ⟨.agg J J T.cD J J,.agg J J T.cD J J,.tmp J,tV⟩ J trivial eX
theorem Tt (m:aI) (hm:dJ m) (l:List Int) (hl:∀x∈l,0≤x∧x<(m.sT.length:Int)) (hll:l.length≤1000000) (a:Int):
 Fn0 Tryz.prog 82 [sys m,ints l,int a] (ints (fM m l a)):=by
 refine fnI Tryz.func82 rfl rfl (fun w0 F0=> ?_)
 have f1:=hm.few1
 refine fcC (bO 0 J) (fun hS0=> ?_)
 obtain⟨hma0,hms0,hme0⟩:=eI hS0
 refine fcC (aL 1 J) (fun hm1=> ?_)
 refine sq (rg (bx (key:=3) (cs:= [sl 1 rE_ m.aC,sl 1 gE m.sT]) J fun b3=>(ag (nl (th (sq (rg (fP J T.dS (lP J J J T.gH (fc (aL 16 J) fun hm16=>(lnF J T.jN (mk (key:=18) (m:=m.sT.length) (enc:=blE) (y:=false) J J T.tX (eC eZ) (by unfold aU at*;omega) (by unfold aU at*;omega) fun v18=>(ag (nl (th (sq (sq (rg (mv (lnF J T.aM (mv (nl (th (bk ?_))))))))))))))))))))))))
 have hI0_0:0≤l.length:=by
  first|omega|simp
 have hI0_1:NyS m l a 0 0 (List.replicate m.sT.length false):=by
  exact Qg
 refine lp (κ:=Nat × (List Bool)) (fun p=> [(2,int a),(3,ptr 3 b3 0),(6,eqv (.slice none 0 0)),(7,osl 18 v18),(19,sl 1 nE l),(20,int (l.length:Int)),(21,int (p.1:Int))]) (fun p=> [(3,cell b3 [sl 1 rE_ m.aC,sl 1 gE m.sT]),(18,own v18 4 1 blE p.2)]) (fun p=>(p.1≤l.length)∧(NyS m l a p.1 0 p.2)) (fun p=>l.length- p.1) ⟨0,List.replicate m.sT.length false⟩ ⟨hI0_0,hI0_1⟩ ⟨id,id,id,id,id,id,id,tV⟩ ⟨rI,rI,tV⟩ ?_
 intro⟨k,inb⟩ hG0
 obtain⟨hk0,hI0⟩:(k≤l.length)∧(NyS m l a k 0 inb):=hG0
 show Ct _ _ _ _ [(2,int a),(3,ptr 3 b3 0),(6,eqv (.slice none 0 0)),(7,osl 18 v18),(19,sl 1 nE l),(20,int (l.length:Int)),(21,int (k:Int))] [(3,cell b3 [sl 1 rE_ m.aC,sl 1 gE m.sT]),(18,own v18 4 1 blE inb)] _
 have hbl:=hI0.len
 refine sq (rg (bi J J aN (nl (th (sq ?_)))))
 refine cd J (fun hc0=> ?_) (fun hc0=> ?_)
 ·try simp at hc0
  have hlk:=hl _ (aZ hc0)
  have hes:=hm.ed (ix l k).toNat O
  have hmy:=hm.many (ix l k).toNat O
  refine sk (th (sq (bk (sq (rg (iF J J T.aM O gB (lF J J T.aF (ag (nl (th (sq (rg (fP J T.dS (lP J J J T.gH (mv (iF J J T.jN O gB (lF J J T.iL (fc (aL 29 J) fun hm29=>(lnF J T.iE (mv (nl (th (bk ?_)))))))))))))))))))))))
  have hI1_0:0≤(ix m.sT (ix l k).toNat).length:=by
   first|omega|simp
  have hI1_1:NyS m l a k 0 inb:=by
   exact hI0
  refine lp (κ:=Nat × (List Bool)) (fun p=> [(2,int a),(3,ptr 3 b3 0),(6,eqv (.slice none 0 0)),(7,osl 18 v18),(19,sl 1 nE l),(20,int (l.length:Int)),(21,int (k:Int)),(29,sl 2 pE (ix m.sT (ix l k).toNat)),(30,int ((ix m.sT (ix l k).toNat).length:Int)),(31,int (p.1:Int))]) (fun p=> [(3,cell b3 [sl 1 rE_ m.aC,sl 1 gE m.sT]),(18,own v18 4 1 blE p.2)]) (fun p=>(p.1≤(ix m.sT (ix l k).toNat).length)∧(NyS m l a k p.1 p.2)) (fun p=>(ix m.sT (ix l k).toNat).length- p.1) ⟨0,inb⟩ ⟨hI1_0,hI1_1⟩ ⟨id,id,id,id,id,id,id,id,id,id,tV⟩ ⟨rI,rI,tV⟩ ?_
  intro⟨k1,in2⟩ hG1
  obtain⟨hk1,hI1⟩:(k1≤(ix m.sT (ix l k).toNat).length)∧(NyS m l a k k1 in2):=hG1
  show Ct _ _ _ _ [(2,int a),(3,ptr 3 b3 0),(6,eqv (.slice none 0 0)),(7,osl 18 v18),(19,sl 1 nE l),(20,int (l.length:Int)),(21,int (k:Int)),(29,sl 2 pE (ix m.sT (ix l k).toNat)),(30,int ((ix m.sT (ix l k).toNat).length:Int)),(31,int (k1:Int))] [(3,cell b3 [sl 1 rE_ m.aC,sl 1 gE m.sT]),(18,own v18 4 1 blE in2)] _
  have hbl2:=hI1.len
  refine sq (rg (bi J J aN (nl (th (sq ?_)))))
  refine cd J (fun hc1=> ?_) (fun hc1=> ?_)
  ·try simp at hc1
   have hek:=hes _ (aZ (l:=(ix m.sT (ix l k).toNat)) (i:=k1) O)
   refine sk (th (sq (bk (sq (rg (iF J J T.iE O gB (lFA J T.gC (Nat.le_of_ble_eq_true J) (al (key:=11) T.yC (eC (eC eZ)) fun b11=>(sPA (cs':= [int ((ix (ix m.sT (ix l k).toNat) k1).1),int ((ix (ix m.sT (ix l k).toNat) k1).2)]) J J J T.gC J J (nl (th (sq (rg (fP J T.eJ (lP J J J T.aF (mv (bi J J eF (nl (th ?_)))))))))))))))))))
   refine cd J (fun hc2=> ?_) (fun hc2=> ?_)
   ·try simp at hc2
    refine rg (mv (fP J T.iW (lP J J J T.aF (iO J J J T.fJ O O (sO (φ:=bl true) J J J T.eB gB J (y':=true) J (nl (eb (th (rg (bi J J (aK i6) (mv (nl ?_))))))))))))
    have hN0:(k1+1)≤(ix m.sT (ix l k).toNat).length:=by
     first|omega|simp_all
    have hN1:NyS m l a k (k1+1) (in2.set ((ix (ix m.sT (ix l k).toNat) k1).2).toNat true):=by
     exact Tr hI1 hc2 hek.2.2.1 hek.2.2.2
    exact ln (⟨k1+1,in2.set ((ix (ix m.sT (ix l k).toNat) k1).2).toNat true⟩:Nat × (List Bool)) ⟨hN0,hN1⟩ dO ⟨id,id,id,id,id,id,id,id,id,id,tV⟩ ⟨rI,rI,tV⟩
   ·try simp at hc2
    refine sk (eb (th (rg (bi J J (aK i6) (mv (nl ?_))))))
    have hN0:(k1+1)≤(ix m.sT (ix l k).toNat).length:=by
     first|omega|simp_all
    have hN1:NyS m l a k (k1+1) in2:=by
     exact Qi hI1 hc2
    exact ln (⟨k1+1,in2⟩:Nat × (List Bool)) ⟨hN0,hN1⟩ dO ⟨id,id,id,id,id,id,id,id,id,id,tV⟩ ⟨rI,rI,tV⟩
  ·try simp at hc1
   refine ex (xt_ (xt_ (xb (eb (th (rg (bi J J (aK i6) (mv (nl ?_)))))))))
   have hN0:(k+1)≤l.length:=by
    first|omega|simp_all
   have hN1:NyS m l a (k+1) 0 in2:=by
    rw[show k1=(ix m.sT (ix l k).toNat).length by omega] at hI1
    exact Qh hI1
   exact ln (⟨k+1,in2⟩:Nat × (List Bool)) ⟨hN0,hN1⟩ dO ⟨id,id,id,id,id,id,id,tV⟩ ⟨rI,rI,tV⟩
 ·try simp at hc0
  refine ex (xt_ (xt_ (xb (th (sq (rg (nw 12 3 1 nE (ag (rtg (key:=12) 12 J (nl (th (sq (sq (rg (mv (lnO J J T.fJ (mv (nl (th (bk ?_))))))))))))))))))))
  have hI2_0:0≤inb.length:=by
   first|omega|simp
  have hI2_1:([]:List Int)=((List.range 0).filter fun(x:Nat)=>ix inb x).map fun(x:Nat)=>(x:Int):=by
   rfl
  refine lp (κ:=Nat × Value × (List Int)) (fun p=> [(6,eqv (.slice none 0 0)),(12,osl 12 p.2.1),(45,osl 18 v18),(46,int (inb.length:Int)),(47,int (p.1:Int))]) (fun p=> [(3,cell b3 [sl 1 rE_ m.aC,sl 1 gE m.sT]),(12,own p.2.1 3 1 nE p.2.2),(18,own v18 4 1 blE inb)]) (fun p=>(p.1≤inb.length)∧(p.2.2=((List.range p.1).filter fun(x:Nat)=>ix inb x).map fun(x:Nat)=>(x:Int))) (fun p=>inb.length- p.1) ⟨0,(.slice none 0 0),([]:List Int)⟩ ⟨hI2_0,hI2_1⟩ ⟨id,id,id,id,id,tV⟩ ⟨rI,rI,rI,tV⟩ ?_
  intro⟨k2,v12x,out⟩ hG2
  obtain⟨hk2,hI2⟩:(k2≤inb.length)∧(out=((List.range k2).filter fun(x:Nat)=>ix inb x).map fun(x:Nat)=>(x:Int)):=hG2
  show Ct _ _ _ _ [(6,eqv (.slice none 0 0)),(12,osl 12 v12x),(45,osl 18 v18),(46,int (inb.length:Int)),(47,int (k2:Int))] [(3,cell b3 [sl 1 rE_ m.aC,sl 1 gE m.sT]),(12,own v12x 3 1 nE out),(18,own v18 4 1 blE inb)] _
  have hol:out.length≤k2:=by rw[hI2,List.length_map];exact Nat.le_trans (List.length_filter_le _ _) (by simp)
  refine sq (rg (bi J J aN (nl (th (sq ?_)))))
  refine cd J (fun hc3=> ?_) (fun hc3=> ?_)
  ·try simp at hc3
   refine sk (th (sq (bk (sq (rg (mv (iO J J J T.fJ O O (lO J J gB J T.eB (ag (ag (nl (th (sq (rg (mv (nl (th ?_)))))))))))))))))
   refine cd J (fun hc4=> ?_) (fun hc4=> ?_)
   ·try simp at hc4
    refine rg (mv (mv (bsE (enc:=nE) (xs:= [(k2:Int)]) (css:= [[int (k2:Int)]]) T.cE ⟨J,J,p1 (φ:=int (k2:Int)) J,tV⟩ J J J J (ap (key:=12) (zs:= [(k2:Int)]) cH J J J T.cE (by unfold aU at*;simp;omega) (by unfold aU at*;simp;omega) fun v56=>(ag (nl (eb (th (rg (bi J J (aK i6) (mv (nl ?_))))))))))))
    have hN0:(k2+1)≤inb.length:=by
     first|omega|simp_all
    have hN1:(out++ [(k2:Int)])=((List.range (k2+1)).filter fun(x:Nat)=>ix inb x).map fun(x:Nat)=>(x:Int):=by
     rw[List.range_succ,List.filter_append,List.map_append,←hI2]
     simp[hc4]
    exact ln (⟨k2+1,v56,out++ [(k2:Int)]⟩:Nat × Value × (List Int)) ⟨hN0,hN1⟩ dO ⟨id,id,id,id,id,tV⟩ ⟨rI,rI,rI,tV⟩
   ·try simp at hc4
    refine sk (eb (th (rg (bi J J (aK i6) (mv (nl ?_))))))
    have hN0:(k2+1)≤inb.length:=by
     first|omega|simp_all
    have hN1:out=((List.range (k2+1)).filter fun(x:Nat)=>ix inb x).map fun(x:Nat)=>(x:Int):=by
     rw[List.range_succ,List.filter_append,List.map_append,←hI2]
     simp[hc4]
    exact ln (⟨k2+1,v12x,out⟩:Nat × Value × (List Int)) ⟨hN0,hN1⟩ dO ⟨id,id,id,id,id,tV⟩ ⟨rI,rI,rI,tV⟩
  ·try simp at hc3
   refine ex (xt_ (xt_ (xb (th (sq (rg (mv (ag (nl (th (rt ?_)))))))))))
   refine fzA 12 6 rfl rfl ?_
   have hr0:out=(fM m l a):=by
    rw[show k=l.length by omega] at hI0
    rw[hI2,show k2=m.sT.length by have:=hI0.len;omega]
    exact Qj hI0
   exact rE () [.tmp 6] J [sl 1 nE out] ⟨.tmp J,tV⟩ (cA1 (fun x0=>rV [sl 1 nE x0]) hr0) trivial eX
theorem HL (m:aI) (hm:dJ m) (w:List Int):
 Fn0 Tryz.prog 73 [sys m,ints w] (ints (bE m w)):=by
 refine fnI Tryz.func73 rfl rfl (fun w0 F0=> ?_)
 have f0:=hm.few0;have f1:=hm.few1
 refine fcC (bO 0 J) (fun hS0=> ?_)
 obtain⟨hma0,hms0,hme0⟩:=eI hS0
 refine fcC (aL 1 J) (fun hm1=> ?_)
 refine sq (rg (bx (key:=2) (cs:= [sl 1 rE_ m.aC,sl 1 gE m.sT]) J fun b2=>(ag (nl (th (sq (rg (bsE (enc:=nE) (xs:= [0]) (css:= [[int 0]]) T.cE ⟨J,J,p1 (φ:=int 0) J,tV⟩ J J J J (ag (nl (th (sq (sq (rg (mv (lnF J T.aM (mv (nl (th (bk ?_))))))))))))))))))))
 have hI0_0:0≤w.length:=by
  first|omega|simp
 have hI0_1:([0]:List Int)=bE m (w.take 0):=by
  rfl
 refine lp (κ:=Nat × (List Int)) (fun p=> [(2,ptr 2 b2 0),(4,eqv (.slice none 0 0)),(5,sl 1 nE p.2),(9,sl 1 nE w),(10,int (w.length:Int)),(11,int (p.1:Int))]) (fun p=> [(2,cell b2 [sl 1 rE_ m.aC,sl 1 gE m.sT])]) (fun p=>(p.1≤w.length)∧(p.2=bE m (w.take p.1))) (fun p=>w.length- p.1) ⟨0,([0]:List Int)⟩ ⟨hI0_0,hI0_1⟩ ⟨id,id,id,id,id,id,tV⟩ ⟨rI,tV⟩ ?_
 intro⟨k,l⟩ hG0
 obtain⟨hk0,hI0⟩:(k≤w.length)∧(l=bE m (w.take k)):=hG0
 show Ct _ _ _ _ [(2,ptr 2 b2 0),(4,eqv (.slice none 0 0)),(5,sl 1 nE l),(9,sl 1 nE w),(10,int (w.length:Int)),(11,int (k:Int))] [(2,cell b2 [sl 1 rE_ m.aC,sl 1 gE m.sT])] _
 refine sq (rg (bi J J aN (nl (th (sq ?_)))))
 refine cd J (fun hc0=> ?_) (fun hc0=> ?_)
 ·try simp at hc0
  have hlb:∀x∈l,0≤x∧x<(m.sT.length:Int):=fun x hx=>by rw[hI0] at hx;exact Bv O _ x hx
  have hll:l.length≤m.sT.length:=by rw[hI0];exact yK O _
  refine sk (th (sq (bk (sq (rg (iF J J T.aM O gB (lF J J T.aF (ag (nl (th (rg (lPA J J T.cD J (mv (mv (aO (φs:= [agg [sl 1 rE_ m.aC,sl 1 gE m.sT],sl 1 nE l,int (ix w k)]) (φ:=sl 1 nE (fM m l (ix w k))) ⟨J,J,J,tV⟩ (prodp.Tt m aS l aS O (ix w k)) T.WJ (ag (nl (eb (th (rg (bi J J (aK i6) (mv (nl ?_)))))))))))))))))))))))
  have hN0:(k+1)≤w.length:=by
   first|omega|simp_all
  have hN1:(fM m l (ix w k))=bE m (w.take (k+1)):=by
   rw[after_take hc0,←hI0]
  exact ln (⟨k+1,fM m l (ix w k)⟩:Nat × (List Int)) ⟨hN0,hN1⟩ dO ⟨id,id,id,id,id,id,tV⟩ ⟨rI,tV⟩
 ·try simp at hc0
  refine ex (xt_ (xt_ (xb (th (sq (rg (mv (ag (nl (th (rt ?_)))))))))))
  have hr0:l=(bE m w):=by
   rw[hI0,show k=w.length by omega,List.take_length]
  exact rE () [.tmp 4] J [sl 1 nE l] ⟨.tmp J,tV⟩ (cA1 (fun x0=>rV [sl 1 nE x0]) hr0) trivial eX
theorem Qn (m n:aI) (hm:dJ m) (hn:dJ n) (w:List Int) (u:Int):
 Fn0 Tryz.prog 25 [sys m,sys n,ints w,int u] (bl (nL m n w u)):=by
 refine fnI Tryz.func25 rfl rfl (fun w0 F0=> ?_)
 have f0:=hm.few0;have f1:=hm.few1;have g0:=hn.few0;have g1:=hn.few1
 have hla:=yK (m:=m) O w
 have hlb:=yK (m:=n) O w
 have hba:=Bv (m:=m) O w
 have hbb:=Bv (m:=n) O w
 refine fcC (bO 0 J) (fun hS0=> ?_)
 obtain⟨hma0,hms0,hme0⟩:=eI hS0
 refine fcC (bO 1 J) (fun hS1=> ?_)
 obtain⟨hma1,hms1,hme1⟩:=eI hS1
 refine fcC (aL 2 J) (fun hm2=> ?_)
 refine sq (rg (bx (key:=4) (cs:= [sl 1 rE_ m.aC,sl 1 gE m.sT]) J fun b4=>(bx (key:=5) (cs:= [sl 1 rE_ n.aC,sl 1 gE n.sT]) J fun b5=>(ag (nl (th (sq (sq (rg (lPA J J T.cD J (mv (aO (φs:= [agg [sl 1 rE_ m.aC,sl 1 gE m.sT],sl 1 nE w]) (φ:=sl 1 nE (bE m w)) ⟨J,J,tV⟩ (prodp.HL m aS w) T.RA (fc (aL 15 J) fun hm15=>(lnF J T.aM (mv (nl (th (bk ?_))))))))))))))))))
 have hI0_0:0≤(bE m w).length:=by
  first|omega|simp
 have hI0_1:∀j,j<0→∀y∈bE n w,bV (cJ m (ix (bE m w) j).toNat) (cJ n y.toNat)≠u:=by
  intro j hj;omega
 refine lp (κ:=Nat) (fun p=> [(2,sl 1 nE w),(3,int u),(4,ptr 4 b4 0),(5,ptr 5 b5 0),(15,sl 1 nE (bE m w)),(16,int ((bE m w).length:Int)),(17,int (p:Int))]) (fun p=> [(4,cell b4 [sl 1 rE_ m.aC,sl 1 gE m.sT]),(5,cell b5 [sl 1 rE_ n.aC,sl 1 gE n.sT])]) (fun p=>(p≤(bE m w).length)∧(∀j,j<p→∀y∈bE n w,bV (cJ m (ix (bE m w) j).toNat) (cJ n y.toNat)≠u)) (fun p=>(bE m w).length- p) 0 ⟨hI0_0,hI0_1⟩ ⟨id,id,id,id,id,id,id,tV⟩ ⟨rI,rI,tV⟩ ?_
 intro k hG0
 obtain⟨hk0,hI0⟩:(k≤(bE m w).length)∧(∀j,j<k→∀y∈bE n w,bV (cJ m (ix (bE m w) j).toNat) (cJ n y.toNat)≠u):=hG0
 refine sq (rg (bi J J aN (nl (th (sq ?_)))))
 refine cd J (fun hc0=> ?_) (fun hc0=> ?_)
 ·try simp at hc0
  have hxk:=hba _ (aZ (l:=bE m w) (i:=k) O)
  have hm8:=KS hm (x:=(ix (bE m w) k).toNat) O
  have hob:=DN hm (x:=(ix (bE m w) k).toNat) O
  refine sk (th (sq (bk (sq (rg (iF J J T.aM O gB (lF J J T.aF (ag (nl (th (sq (rg (lPA J J T.cD J (mv (aO (φs:= [agg [sl 1 rE_ n.aC,sl 1 gE n.sT],sl 1 nE w]) (φ:=sl 1 nE (bE n w)) ⟨J,J,tV⟩ (prodp.HL n aS w) T.RA (fc (aL 23 J) fun hm23=>(lnF J T.aM (mv (nl (th (bk ?_)))))))))))))))))))))
  have hI1_0:0≤(bE n w).length:=by
   first|omega|simp
  have hI1_1:∀j,j<0→bV (cJ m (ix (bE m w) k).toNat) (cJ n (ix (bE n w) j).toNat)≠u:=by
   intro j hj;omega
  refine lp (κ:=Nat) (fun p=> [(2,sl 1 nE w),(3,int u),(4,ptr 4 b4 0),(5,ptr 5 b5 0),(10,int (ix (bE m w) k)),(15,sl 1 nE (bE m w)),(16,int ((bE m w).length:Int)),(17,int (k:Int)),(23,sl 1 nE (bE n w)),(24,int ((bE n w).length:Int)),(25,int (p:Int))]) (fun p=> [(4,cell b4 [sl 1 rE_ m.aC,sl 1 gE m.sT]),(5,cell b5 [sl 1 rE_ n.aC,sl 1 gE n.sT])]) (fun p=>(p≤(bE n w).length)∧(∀j,j<p→bV (cJ m (ix (bE m w) k).toNat) (cJ n (ix (bE n w) j).toNat)≠u)) (fun p=>(bE n w).length- p) 0 ⟨hI1_0,hI1_1⟩ ⟨id,id,id,id,id,id,id,id,id,id,id,tV⟩ ⟨rI,rI,tV⟩ ?_
  intro k1 hG1
  obtain⟨hk1,hI1⟩:(k1≤(bE n w).length)∧(∀j,j<k1→bV (cJ m (ix (bE m w) k).toNat) (cJ n (ix (bE n w) j).toNat)≠u):=hG1
  refine sq (rg (bi J J aN (nl (th (sq ?_)))))
  refine cd J (fun hc1=> ?_) (fun hc1=> ?_)
  ·try simp at hc1
   have hyk:=hbb _ (aZ (l:=bE n w) (i:=k1) O)
   have hn8:=KS hn (x:=(ix (bE n w) k1).toNat) O
   have hpb:=DN hn (x:=(ix (bE n w) k1).toNat) O
   refine sk (th (sq (bk (sq (rg (iF J J T.aM O gB (lF J J T.aF (ag (nl (th (sq (dr (nh:=9) [0,0,3,0,0,31,63,0,255] T.mixed kR ?_))))))))))))
   refine st_ J (fun _ _ _ gq kq=>lPA (gq.1.trans J) J T.cD J kq) ?_
   refine st_ J (fun _ _ _ gq kq=>mv' (gq.1.trans J) kq) ?_
   refine st_ J (fun _ _ _ gq kq=>aO (φs:= [agg [sl 1 rE_ m.aC,sl 1 gE m.sT],int (ix (bE m w) k)]) (φ:=int (cJ m (ix (bE m w) k).toNat)) ⟨(gq.1.trans J),(gq.2.1.trans J),tV⟩ (divs.Bm m (ix (bE m w) k) aS O O) T.KT kq) ?_
   refine st_ J (fun _ _ _ gq kq=>lPA (gq.1.trans J) J T.cD J kq) ?_
   refine st_ J (fun _ _ _ gq kq=>mv' (gq.1.trans J) kq) ?_
   refine st_ J (fun _ _ _ gq kq=>aO (φs:= [agg [sl 1 rE_ n.aC,sl 1 gE n.sT],int (ix (bE n w) k1)]) (φ:=int (cJ n (ix (bE n w) k1).toNat)) ⟨(gq.1.trans J),(gq.2.1.trans J),tV⟩ (divs.Bm n (ix (bE n w) k1) aS O O) T.KT kq) ?_
   refine st_ J (fun _ _ _ gq kq=>bi (gq.1.trans J) (gq.2.1.trans J) (FF O O O O) kq) ?_
   refine st_ J (fun _ _ _ gq kq=>mv' (gq.1.trans J) kq) ?_
   refine st_ J (fun _ _ _ gq kq=>bi (gq.1.trans J) (gq.2.1.trans J) eF kq) ?_
   refine pn (nl (th ?_))
   refine cd J (fun hc2=> ?_) (fun hc2=> ?_)
   ·skip
    have hau:bV (cJ m (ix (bE m w) k).toNat) (cJ n (ix (bE n w) k1).toNat)=u:=of_decide_eq_true hc2
    refine sq (rg (ag (nl (th (rt (rb (rt_ (rt_ (rb (rb (rt_ (rt_ (rb (rt_ ?_))))))))))))))
    have hr0:true=(nL m n w u):=by
     unfold nL
     symm
     rw[List.any_eq_true]
     exact⟨_,aZ (l:=bE m w) (i:=k) O,List.any_eq_true.2 ⟨_,aZ (l:=bE n w) (i:=k1) O,decide_eq_true hau⟩⟩
    exact rE () [.tmp 8] J [bl true] ⟨.tmp J,tV⟩ (cA1 (fun x0=>rV [bl x0]) hr0) trivial eX
   ·skip
    have hau:bV (cJ m (ix (bE m w) k).toNat) (cJ n (ix (bE n w) k1).toNat)≠u:=of_decide_eq_false hc2
    refine sk (eb (th (rg (bi J J (aK i6) (mv (nl ?_))))))
    have hN0:(k1+1)≤(bE n w).length:=by
     first|omega|simp_all
    have hN1:∀j,j<(k1+1)→bV (cJ m (ix (bE m w) k).toNat) (cJ n (ix (bE n w) j).toNat)≠u:=by
     intro j hj
     by_cases e:j=k1
     ·subst e;exact hau
     ·exact hI1 j O
    exact ln (k1+1) ⟨hN0,hN1⟩ dO ⟨id,id,id,id,id,id,id,id,id,id,id,tV⟩ ⟨rI,rI,tV⟩
  ·try simp at hc1
   refine ex (xt_ (xt_ (xb (eb (th (rg (bi J J (aK i6) (mv (nl ?_)))))))))
   have hN0:(k+1)≤(bE m w).length:=by
    first|omega|simp_all
   have hN1:∀j,j<(k+1)→∀y∈bE n w,bV (cJ m (ix (bE m w) j).toNat) (cJ n y.toNat)≠u:=by
    intro j hj y hy
    by_cases e:j=k
    ·subst e
     obtain⟨i,hi,rfl⟩:=List.getElem_of_mem hy
     have:=hI1 i O
     rwa [aJ hi] at this
    ·exact hI0 j O y hy
   exact ln (k+1) ⟨hN0,hN1⟩ dO ⟨id,id,id,id,id,id,id,tV⟩ ⟨rI,rI,tV⟩
 ·try simp at hc0
  refine ex (xt_ (xt_ (xb (th (sq (rg (ag (nl (th (rt ?_))))))))))
  have hr0:false=(nL m n w u):=by
   unfold nL
   symm
   rw[List.any_eq_false]
   intro x hx g
   obtain⟨y,hy,g⟩:=List.any_eq_true.1 g
   obtain⟨i,hi,rfl⟩:=List.getElem_of_mem hx
   have:=hI0 i O y hy
   rw[aJ hi] at this
   exact this (of_decide_eq_true g)
  exact rE () [.tmp 8] J [bl false] ⟨.tmp J,tV⟩ (cA1 (fun x0=>rV [bl x0]) hr0) trivial eX
end prodp
end
section
namespace ForkM
open ref01 ref03 ref04 ref06 prog15 starts Part Rungs LeftM TrimM RoundM MergeM BisM BisM4 BisM5 BisM6 WalkM StepM WitM JudgM JudgM2 divr divs divd dive divg divw divv refj sysw judg ChsM BisS TrimI ValidM WitSat WitVal FailM FitM QuoM DivM RefM GenW CompM CompP EncM prodc prodm prodp
theorem NK {s t:SS} {w:List Int} {u:Int} {z:(aI × aI) × Int} (hs:aX s=true) (ht:aX t=true) (hst:s.aC=t.aC) (hw:iA (s.aC.length:Int) w=true) (hp:kM s t w u=0) (hB:uH s t w u) (h:sM s t w u z):
 z.2=0∧jS z.1.1 s=true∧jS z.1.2 t=true∧nL z.1.1 z.1.2 w u=true:=by
 obtain⟨h0,a,b,ha,hb,hab,hm,hn⟩:=h.some hp hB
 obtain⟨n1,n2⟩:=Bu hB.1
 have hwl:=HK hw
 have ls:s.sT.length≤500:=by unfold aX at hs;simp only [Bool.and_eq_true,decide_eq_true_eq] at hs;exact hs.1.2
 have lt:t.sT.length≤500:=by unfold aX at ht;simp only [Bool.and_eq_true,decide_eq_true_eq] at ht;exact ht.1.2
 obtain⟨g1,x,hx,ex⟩:=EM (bW hs) ls n1 (fun k hk=>sJ hw hk) O hB.2.1 ha hm
 obtain⟨g2,y,hy,ey⟩:=EM (bW ht) lt n2 (fun k hk=>by rw[←hst];exact sJ hw hk) O hB.2.2.1 hb hn
 refine⟨h0,g1,g2,?_⟩
 unfold nL
 exact List.any_eq_true.2 ⟨x,hx,List.any_eq_true.2 ⟨y,hy,decide_eq_true (by rw[ex,ey];exact hab)⟩⟩
theorem JL {m:aI} {s:SS} (h:jS m s=true):dJ m:=by
 unfold jS at h
 rw[Bool.and_eq_true,Bool.and_eq_true] at h
 exact pZ h.1.1
def aR:SS:=⟨[⟨#[97]⟩,⟨#[98]⟩],[⟨[1,2],[0,0]⟩]⟩
def kO:SS:=⟨[⟨#[97]⟩,⟨#[98]⟩],[⟨[0,1,2],[0,0]⟩]⟩
theorem pJ:aX aR=true:=by decide+kernel
theorem Li:aX kO=true:=by decide+kernel
theorem lK:oK aR:=bW pJ
theorem Qo:oK kO:=bW Li
theorem EO:bN aR aR=0:=by
 unfold bN
 rw[if_pos ⟨pJ,pJ⟩,if_pos rfl]
theorem HM:ix (hOl aR) 0=false:=CompP.DJ (by decide) (by decide)
theorem HO:¬eO aR aR:=by
 unfold eO
 rw[HM];simp
theorem EP:(tR aR).1=aR:=by
 have hs:=lK
 have hn:=HM
 have ho:aH aR= [0]:=by
  have h1:(aH aR).length≤1:=pF hs
  have h2:=iU aR
  have h3:=BisM2.mE aR
  match hq:aH aR,h1,h2,h3 with
  | [y],_,_,h3=>rw[show y=0 from h3]
 have hk:keep aR 0= [1,2]:=Qf hs (by decide) (by decide)
 rw[bX hn]
 show(⟨aR.aC,(aH aR).map (eL aR)⟩:SS)=aR
 rw[ho]
 show(⟨aR.aC,[eL aR 0]⟩:SS)=aR
 unfold eL jD
 rw[show(0:Int).toNat=0 from rfl,hk,ho]
 decide
theorem NL:cA aR aR (0,0)= [0,1,2]:=by decide
theorem Qp:PV aR aR kO:=by
 refine⟨rfl,fun h=>absurd h HO,fun _=>⟨[(0,0)],?_,by decide⟩⟩
 rw[EP]
 refine⟨⟨rfl,by decide,by decide,rfl,fun i hi=> ?_,fun i hi=> ?_,fun i hi a ha=> ?_,fun i hi a ha hh=> ?_⟩,fun p hp=> ?_,rfl⟩
 ·obtain rfl:i=0:=by have hi:i<1:=hi;omega
  show _=cA aR aR (0,0)
  rw[NL];rfl
 ·obtain rfl:i=0:=by have hi:i<1:=hi;omega
  rfl
 ·obtain rfl:i=0:=by have hi:i<1:=hi;omega
  have hA:cA aR aR (ix [((0,0):PP)] 0)= [0,1,2]:=NL
  rw[hA]
  have ha:a<2:=ha
  match a,ha with
  |0,_=>decide
  |1,_=>decide
 ·obtain rfl:i=0:=by have hi:i<1:=hi;omega
  have ha:a<2:=ha
  match a,ha with
  |0,_=>decide
  |1,_=>decide
 ·rw[List.mem_singleton.1 hp];exact Ht lK lK
theorem HP:(bB aR aR).2=true:=by
 cases e:(bB aR aR).2 with
 |true=>rfl
 |false=>
  have:=EH lK lK e
  exact absurd this (by decide)
theorem Qq:(aA aR aR).2=0∧rX (aA aR aR).1 kO=true:=by
 have hS:=PW lK lK Qp (by decide) HP
 have e:aA aR aR=((bB aR aR).1,0):=by unfold aA;rw[if_pos EO,if_pos HP]
 rw[e]
 exact⟨rfl,Nu hS⟩
theorem EQ:iA (aR.aC.length:Int) [0,1]=true:=by decide
theorem NM:kM aR aR [0,1] 0=0:=by
 unfold kM
 rw[if_pos EO,if_pos ⟨EQ,by decide⟩]
theorem NN:uH aR aR [0,1] 0:=by
 refine⟨HO,?_⟩
 rw[EP]
 exact⟨by decide,by decide,1,by decide,2,by decide,by decide⟩
theorem Lj {z:(aI × aI) × Int} (h:sM aR aR [0,1] 0 z):z.2=0∧jS z.1.1 aR=true∧jS z.1.2 aR=true∧nL z.1.1 z.1.2 [0,1] 0=true:=
 NK pJ pJ rfl EQ NM NN h
end ForkM
end
section
open ref01 ref03 ref04 ref06 prog prog2 prog3 prog4 prog5 prog6 prog7 prog8 prog9 prog13 prog15 starts Part Rungs LeftM TrimM Itoa Keys RoundM MergeM BisM BisM4 BisM5 WalkM StepM WitM JudgM JudgM2 refw judg wit refj sysw divr divs divd dive divg divw divv LevM LevM2 ChsM TrimI QuoM FailM DivM RefM GenW CompM CrossM CompP EncM prodc divp prodm prodp ForkM
theorem Tu {s:SS} {k:Int} (h:few s k=true):(size s:Int)≤k:=by unfold few at h;simpa using h
namespace T
theorem zK:Ent Tryz.prog 53:=aG kR
theorem sB:Ent Tryz.prog 15:=aG kR
theorem WL:Ent Tryz.prog 22:=aG kR
theorem WM:Ent Tryz.prog 54:=aG kR
theorem RB:Ent Tryz.prog 24:=aG kR
theorem WO:Ent Tryz.prog 25:=aG kR
end T
namespace prodk
theorem Qr (t s:SS):
 Fn0 Tryz.prog 13 [spec t,spec s] (int (rW t s)):=by
 refine fnI Tryz.func13 rfl rfl (fun w0 F0=> ?_)
 refine fcC (bO 0 J) (fun hS0=> ?_)
 obtain⟨hsa0,hss0,hse0⟩:=sLn hS0
 refine fcC (bO 1 J) (fun hS1=> ?_)
 obtain⟨hsa1,hss1,hse1⟩:=sLn hS1
 refine sq (rg (bx (key:=2) (cs:= [sl 1 rE_ t.aC,sl 2 sE t.sT]) J fun b2=>(bx (key:=3) (cs:= [sl 1 rE_ s.aC,sl 2 sE s.sT]) J fun b3=>(ag (nl (th (sq (bk (sq (rg (lPA J J T.aD J (aO (φs:= [agg [sl 1 rE_ t.aC,sl 2 sE t.sT]]) (φ:=bl (aX t)) ⟨J,tV⟩ (ref03.tU t) T.KQ (no J (mv ?_))))))))))))))
 apply gOr (t:=9) (pd:=13) rfl
 rotate_left
 ·intro hg0 fin
  have hg0':=hg0
  try simp at hg0'
  exact gy J J J hg0 (lPA J J T.aD J (gy J J J hg0 (aO (φs:= [agg [sl 1 rE_ s.aC,sl 2 sE s.sT]]) (φ:=bl (aX s)) ⟨J,tV⟩ (ref03.tU s) T.KQ (gy J J J hg0 (no J (pkF J hg0 J (drp (X:= [(12,_),(11,_),(10,_)]) ⟨J,J,J,tV⟩ fin)))))))
 ·intro hg0 fin
  exact gn J J J hg0 J J (gn J J J hg0 J J (gn J J J hg0 J J (pkT J hg0 J (drp (X:= [(12,_),(11,_),(10,_)]) ⟨J,J,J,tV⟩ fin))))
 refine ag (nl (th ?_))
 refine cd J (fun hc0=> ?_) (fun hc0=> ?_)
 ·skip
  have hn:¬(aX t=true∧aX s=true):=by rintro⟨h1,h2⟩;simp[h1,h2] at hc0
  refine sq (rg (ag (nl (th (rt (rb (rt_ ?_)))))))
  have hr0:(30:Int)=(rW t s):=by
   unfold rW;rw[if_neg hn]
  exact rE () [.tmp 4] J [int 30] ⟨.tmp J,tV⟩ (cA1 (fun x0=>rV [int x0]) hr0) trivial eX
 ·skip
  have hy:aX t=true∧aX s=true:=by
   cases h1:aX t<;>cases h2:aX s<;>simp_all
  refine sq (rg (fP J T.cR (lP J J J T.cV (fP J T.cR (lP J J J T.cV (aO (φs:= [sl 1 rE_ t.aC,sl 1 rE_ s.aC]) (φ:=bl (decide (t.aC=s.aC))) ⟨J,J,tV⟩ (ref01.mM _ _) T.Fc (no J (ag (nl (th ?_))))))))))
  refine cd J (fun hc1=> ?_) (fun hc1=> ?_)
  ·skip
   refine sq (rg (ag (nl (th (rt (rb (rt_ ?_)))))))
   have hr0:(10:Int)=(rW t s):=by
    unfold rW;rw[if_pos hy,if_neg (by simpa using hc1)]
   exact rE () [.tmp 4] J [int 10] ⟨.tmp J,tV⟩ (cA1 (fun x0=>rV [int x0]) hr0) trivial eX
  ·skip
   refine sk (eb (th (sq (rg (ag (nl (th (rt ?_))))))))
   have hr0:(0:Int)=(rW t s):=by
    unfold rW;rw[if_pos hy,if_pos (by simpa using hc1)]
   exact rE () [.tmp 4] J [int 0] ⟨.tmp J,tV⟩ (cA1 (fun x0=>rV [int x0]) hr0) trivial eX
theorem sQ:
 Fn0 Tryz.prog 53 [] (spec aR):=by
 refine fnI Tryz.func53 rfl rfl (fun w0 F0=> ?_)
 refine sq (rg (al (key:=0) T.z25 (eC (eC eZ)) fun b0=>(nl (th (sq (rg (bsE (enc:=rE_) (xs:= [({ data:= #[97] }),({ data:= #[98] })]) (css:= [[str ({ data:= #[97] })],[str ({ data:= #[98] })]]) T.uL ⟨J,J,p1 (φ:=str ({ data:= #[97] })) J,⟨J,J,p1 (φ:=str ({ data:= #[98] })) J,tV⟩⟩ J J J J (bsE (enc:=nE) (xs:= [1,2]) (css:= [[int 1],[int 2]]) T.cE ⟨J,J,p1 (φ:=int 1) J,⟨J,J,p1 (φ:=int 2) J,tV⟩⟩ J J J J (bsE (enc:=nE) (xs:= [0,0]) (css:= [[int 0],[int 0]]) T.cE ⟨J,J,p1 (φ:=int 0) J,⟨J,J,p1 (φ:=int 0) J,tV⟩⟩ J J J J (bd (css:= [(0,_),(1,_)]) T.uM (eC (eC eZ)) ⟨J,J,p1 (φ:=sl 1 nE [1,2]) J,⟨J,J,p1 (φ:=sl 1 nE [0,0]) J,tV⟩⟩ (bsE (enc:=sE) (xs:= [(⟨[1,2],[0,0]⟩)]) (css:= [[sl 1 nE [1,2],sl 1 nE [0,0]]]) T.mB ⟨J,J,pA (cs:= [sl 1 nE [1,2],sl 1 nE [0,0]]) J,tV⟩ J J J J (bd (css:= [(0,_),(1,_)]) T.lA (eC (eC eZ)) ⟨J,J,p1 (φ:=sl 1 rE_ [({ data:= #[97] }),({ data:= #[98] })]) J,⟨J,J,p1 (φ:=sl 2 sE [(⟨[1,2],[0,0]⟩)]) J,tV⟩⟩ (sPA (cs':= [sl 1 rE_ [({ data:= #[97] }),({ data:= #[98] })],sl 2 sE [(⟨[1,2],[0,0]⟩)]]) J J J T.aD J J (nl (th (rt ?_))))))))))))))))
 have hr0: [({ data:= #[97] }),({ data:= #[98] })]=aR.aC:=by
  first|rfl|simp_all|omega
 have hr1: [(⟨[1,2],[0,0]⟩)]=aR.sT:=by
  first|rfl|simp_all|omega
 exact rE () [.cell 0 25] J [agg [sl 1 rE_ [({ data:= #[97] }),({ data:= #[98] })],sl 2 sE [(⟨[1,2],[0,0]⟩)]]] ⟨.agg J J T.aD J J,tV⟩ (cA2 (fun x0 x1=>rV [agg [sl 1 rE_ x0,sl 2 sE x1]]) hr0 hr1) trivial eX
theorem Bw:
 AL.Fn Tryz.prog 12 [] [(998,eR tab)] (ι:=Unit) (fun _ _=>bl true) (fun _=> []):=by
 refine fnI Tryz.func12 rfl rfl (fun w0 F0=> ?_)
 have hfk:bK aR:=lK.small;have hfo:=lK;have hwo:=Qo
 refine tbH 9999 998 rfl ?_
 refine sq (rg (ag (nl (th (sq (rg (aO (φs:= []) (φ:=agg [sl 1 rE_ aR.aC,sl 2 sE aR.sT]) trivial prodk.sQ T.zK (aO (φs:= []) (φ:=agg [sl 1 rE_ aR.aC,sl 2 sE aR.sT]) trivial prodk.sQ T.zK (tbU (ψ:=tab) 8 9999 J J (aO (φs:= [both (agg [sl 1 rE_ aR.aC,sl 2 sE aR.sT]) tab,agg [sl 1 rE_ aR.aC,sl 2 sE aR.sT]]) (φ:=tup [agg [sl 1 rE_ ((aA aR aR).1).aC,sl 2 sE ((aA aR aR).1).sT],int ((aA aR aR).2)]) ⟨J,J,tV⟩ (prodc.jI aR aR aS aS) T.sB (mv (xt J J (xt J J (al (key:=1) T.z25 (eC (eC eZ)) fun b1=>(sPA (cs':= [sl 1 rE_ ((aA aR aR).1).aC,sl 2 sE ((aA aR aR).1).sT]) J J J T.aD J J (ag (nl (th (sq (rg (bsE (enc:=rE_) (xs:= [({ data:= #[97] }),({ data:= #[98] })]) (css:= [[str ({ data:= #[97] })],[str ({ data:= #[98] })]]) T.uL ⟨J,J,p1 (φ:=str ({ data:= #[97] })) J,⟨J,J,p1 (φ:=str ({ data:= #[98] })) J,tV⟩⟩ J J J J (bsE (enc:=nE) (xs:= [0,1,2]) (css:= [[int 0],[int 1],[int 2]]) T.cE ⟨J,J,p1 (φ:=int 0) J,⟨J,J,p1 (φ:=int 1) J,⟨J,J,p1 (φ:=int 2) J,tV⟩⟩⟩ J J J J (bsE (enc:=nE) (xs:= [0,0]) (css:= [[int 0],[int 0]]) T.cE ⟨J,J,p1 (φ:=int 0) J,⟨J,J,p1 (φ:=int 0) J,tV⟩⟩ J J J J (bd (css:= [(0,_),(1,_)]) T.uM (eC (eC eZ)) ⟨J,J,p1 (φ:=sl 1 nE [0,1,2]) J,⟨J,J,p1 (φ:=sl 1 nE [0,0]) J,tV⟩⟩ (bsE (enc:=sE) (xs:= [(⟨[0,1,2],[0,0]⟩)]) (css:= [[sl 1 nE [0,1,2],sl 1 nE [0,0]]]) T.mB ⟨J,J,pA (cs:= [sl 1 nE [0,1,2],sl 1 nE [0,0]]) J,tV⟩ J J J J (bd (css:= [(0,_),(1,_)]) T.lA (eC (eC eZ)) ⟨J,J,p1 (φ:=sl 1 rE_ [({ data:= #[97] }),({ data:= #[98] })]) J,⟨J,J,p1 (φ:=sl 2 sE [(⟨[0,1,2],[0,0]⟩)]) J,tV⟩⟩ (kn 18 (spec kO) J (fun h=>h) (al (key:=3) T.z25 (eC (eC eZ)) fun b3=>(sPA (cs':= [sl 1 rE_ kO.aC,sl 2 sE kO.sT]) J J J T.aD J J (nl (th (sq (rg (aO (φs:= []) (φ:=agg [sl 1 rE_ aR.aC,sl 2 sE aR.sT]) trivial prodk.sQ T.zK (aO (φs:= []) (φ:=agg [sl 1 rE_ aR.aC,sl 2 sE aR.sT]) trivial prodk.sQ T.zK (bsE (enc:=nE) (xs:= [0,1]) (css:= [[int 0],[int 1]]) T.cE ⟨J,J,p1 (φ:=int 0) J,⟨J,J,p1 (φ:=int 1) J,tV⟩⟩ J J J J (cl (prodp.Qm aR aR aS aS [0,1] 0) T.WL trivial fun N23 i23=> ?_)))))))))))))))))))))))))))))))))))))
 have hpf:=Lj i23.2
 have hm1:=JL hpf.2.1
 have hm2:=JL hpf.2.2.1
 refine mv (xt rfl rfl (xt rfl rfl (xt rfl rfl (al (key:=4) T.z43 (eC (eC eZ)) fun b4=>(al (key:=5) T.z43 (eC (eC eZ)) fun b5=>(sPA (cs':= [sl 1 rE_ i23.1.1.1.aC,sl 1 gE i23.1.1.1.sT]) rfl rfl rfl T.cD rfl rfl (sPA (cs':= [sl 1 rE_ i23.1.1.2.aC,sl 1 gE i23.1.1.2.sT]) rfl rfl rfl T.cD rfl rfl (ag (nl (th (sq (dr (nh:=28) [0,1,3,7,7,31,63,127,255,511,1023,2047,4095,4095,16383,32767,65535,131071,131071,524287,1048575,2097151,4194303,4194303,4194303,33554431,67108863,134217727] T.mixed kR ?_))))))))))))
 refine st_ J (fun _ _ _ gq kq=>mv' (gq.1.trans J) kq) ?_
 refine st_ J (fun _ _ _ gq kq=>bi (gq.1.trans J) J eF kq) ?_
 refine st_ J (fun _ _ _ gq kq=>mv' (gq.1.trans J) kq) ?_
 refine sg_ (φ:=agg [sl 1 rE_ ((aA aR aR).1).aC,sl 2 sE ((aA aR aR).1).sT]) J J J J (List.mem_of_elem_eq_true J) (fun hgd=> ?_) ?_
 ·have hgd':=hgd
  try simp at hgd'
  exact fun _ _ _ gq kq=>lPA (gq.1.trans J) J T.aD J kq
 refine sg_ (φ:=agg [sl 1 rE_ kO.aC,sl 2 sE kO.sT]) J J J J (List.mem_of_elem_eq_true J) (fun hgd=> ?_) ?_
 ·have hgd':=hgd
  try simp at hgd'
  exact fun _ _ _ gq kq=>lPA (gq.1.trans J) J T.aD J kq
 refine sg_ (φ:=bl (rX ((aA aR aR).1) kO)) J J J J (List.mem_of_elem_eq_true J) (fun hgd=> ?_) ?_
 ·have hgd':=hgd
  try simp at hgd'
  exact fun _ _ _ gq kq=>aO (φs:= [agg [sl 1 rE_ ((aA aR aR).1).aC,sl 2 sE ((aA aR aR).1).sT],agg [sl 1 rE_ kO.aC,sl 2 sE kO.sT]]) (φ:=bl (rX ((aA aR aR).1) kO)) ⟨(gq.1.trans (bG hgd)),(gq.2.1.trans (bG hgd)),tV⟩ (dive.mS ((aA aR aR).1) kO aS) T.WM kq
 refine st_ J (fun _ _ _ gq kq=>pk (gq.1.trans J) (mA (x:= .tmp 29) (gq.1.trans J) (gq.2.1.trans J) J) kq) ?_
 refine st_ J (fun _ _ _ gq kq=>mv' (gq.1.trans J) kq) ?_
 refine sg_ (φ:=int i23.1.2) J J J J (List.mem_of_elem_eq_true J) (fun hgd=> ?_) ?_
 ·have hgd':=hgd
  try simp at hgd'
  exact fun _ _ _ gq kq=>mv' (gq.1.trans J) kq
 refine sg_ (φ:=bl (decide (i23.1.2=0))) J J J J (List.mem_of_elem_eq_true J) (fun hgd=> ?_) ?_
 ·have hgd':=hgd
  try simp at hgd'
  exact fun _ _ _ gq kq=>bi (gq.1.trans (bG hgd)) J eF kq
 refine st_ J (fun _ _ _ gq kq=>pk (gq.1.trans J) (mA (x:= .tmp 34) (gq.1.trans J) (gq.2.1.trans J) J) kq) ?_
 refine st_ J (fun _ _ _ gq kq=>mv' (gq.1.trans J) kq) ?_
 refine sg_ (φ:=agg [sl 1 rE_ i23.1.1.1.aC,sl 1 gE i23.1.1.1.sT]) J J J J (List.mem_of_elem_eq_true J) (fun hgd=> ?_) ?_
 ·have hgd':=hgd
  try simp at hgd'
  exact fun _ _ _ gq kq=>lPA (gq.1.trans J) J T.cD J kq
 refine sg_ (φ:=agg [sl 1 rE_ aR.aC,sl 2 sE aR.sT]) J J J J (List.mem_of_elem_eq_true J) (fun hgd=> ?_) ?_
 ·have hgd':=hgd
  try simp at hgd'
  exact fun _ _ _ gq kq=>aO (φs:= []) (φ:=agg [sl 1 rE_ aR.aC,sl 2 sE aR.sT]) trivial prodk.sQ T.zK kq
 refine sg_ (φ:=bl (jS i23.1.1.1 aR)) J J J J (List.mem_of_elem_eq_true J) (fun hgd=> ?_) ?_
 ·have hgd':=hgd
  try simp at hgd'
  exact fun _ _ _ gq kq=>aO (φs:= [agg [sl 1 rE_ i23.1.1.1.aC,sl 1 gE i23.1.1.1.sT],agg [sl 1 rE_ aR.aC,sl 2 sE aR.sT]]) (φ:=bl (jS i23.1.1.1 aR)) ⟨(gq.1.trans (bG hgd)),(gq.2.1.trans (bG hgd)),tV⟩ (divg.Ju i23.1.1.1 aR aS) T.RB kq
 refine st_ J (fun _ _ _ gq kq=>pk (gq.1.trans J) (mA (x:= .tmp 38) (gq.1.trans J) (gq.2.1.trans J) J) kq) ?_
 refine st_ J (fun _ _ _ gq kq=>mv' (gq.1.trans J) kq) ?_
 refine sg_ (φ:=agg [sl 1 rE_ i23.1.1.2.aC,sl 1 gE i23.1.1.2.sT]) J J J J (List.mem_of_elem_eq_true J) (fun hgd=> ?_) ?_
 ·have hgd':=hgd
  try simp at hgd'
  exact fun _ _ _ gq kq=>lPA (gq.1.trans J) J T.cD J kq
 refine sg_ (φ:=agg [sl 1 rE_ aR.aC,sl 2 sE aR.sT]) J J J J (List.mem_of_elem_eq_true J) (fun hgd=> ?_) ?_
 ·have hgd':=hgd
  try simp at hgd'
  exact fun _ _ _ gq kq=>aO (φs:= []) (φ:=agg [sl 1 rE_ aR.aC,sl 2 sE aR.sT]) trivial prodk.sQ T.zK kq
 refine sg_ (φ:=bl (jS i23.1.1.2 aR)) J J J J (List.mem_of_elem_eq_true J) (fun hgd=> ?_) ?_
 ·have hgd':=hgd
  try simp at hgd'
  exact fun _ _ _ gq kq=>aO (φs:= [agg [sl 1 rE_ i23.1.1.2.aC,sl 1 gE i23.1.1.2.sT],agg [sl 1 rE_ aR.aC,sl 2 sE aR.sT]]) (φ:=bl (jS i23.1.1.2 aR)) ⟨(gq.1.trans (bG hgd)),(gq.2.1.trans (bG hgd)),tV⟩ (divg.Ju i23.1.1.2 aR aS) T.RB kq
 refine st_ J (fun _ _ _ gq kq=>pk (gq.1.trans J) (mA (x:= .tmp 43) (gq.1.trans J) (gq.2.1.trans J) J) kq) ?_
 refine st_ J (fun _ _ _ gq kq=>mv' (gq.1.trans J) kq) ?_
 refine sg_ (φ:=agg [sl 1 rE_ i23.1.1.1.aC,sl 1 gE i23.1.1.1.sT]) J J J J (List.mem_of_elem_eq_true J) (fun hgd=> ?_) ?_
 ·have hgd':=hgd
  try simp at hgd'
  exact fun _ _ _ gq kq=>lPA (gq.1.trans J) J T.cD J kq
 refine sg_ (φ:=agg [sl 1 rE_ i23.1.1.2.aC,sl 1 gE i23.1.1.2.sT]) J J J J (List.mem_of_elem_eq_true J) (fun hgd=> ?_) ?_
 ·have hgd':=hgd
  try simp at hgd'
  exact fun _ _ _ gq kq=>lPA (gq.1.trans J) J T.cD J kq
 refine sg_ (φ:=sl 1 nE [0,1]) J J J J (List.mem_of_elem_eq_true J) (fun hgd=> ?_) ?_
 ·have hgd':=hgd
  try simp at hgd'
  exact fun _ _ _ gq kq=>bsE (enc:=nE) (xs:= [0,1]) (css:= [[int 0],[int 1]]) T.cE ⟨J,J,p1 (φ:=int 0) J,⟨J,J,p1 (φ:=int 1) J,tV⟩⟩ J J J J kq
 refine sg_ (φ:=bl (nL i23.1.1.1 i23.1.1.2 [0,1] 0)) J J J J (List.mem_of_elem_eq_true J) (fun hgd=> ?_) ?_
 ·have hgd':=hgd
  try simp at hgd'
  exact fun _ _ _ gq kq=>aO (φs:= [agg [sl 1 rE_ i23.1.1.1.aC,sl 1 gE i23.1.1.1.sT],agg [sl 1 rE_ i23.1.1.2.aC,sl 1 gE i23.1.1.2.sT],sl 1 nE [0,1],int 0]) (φ:=bl (nL i23.1.1.1 i23.1.1.2 [0,1] 0)) ⟨(gq.1.trans (bG hgd)),(gq.2.1.trans (bG hgd)),(gq.2.2.1.trans (bG hgd)),J,tV⟩ (prodp.Qn i23.1.1.1 i23.1.1.2 aS aS [0,1] 0) T.WO kq
 refine st_ J (fun _ _ _ gq kq=>pk (gq.1.trans J) (mA (x:= .tmp 48) (gq.1.trans J) (gq.2.1.trans J) J) kq) ?_
 refine st_ J (fun _ _ _ gq kq=>ag' (gq.1.trans J) kq) ?_
 refine pn (nl (th (rt ?_)))
 have hr0:((((((decide (((aA aR aR).2)=0))&&(rX ((aA aR aR).1) kO))&&(decide (i23.1.2=0)))&&(jS i23.1.1.1 aR))&&(jS i23.1.1.2 aR))&&(nL i23.1.1.1 i23.1.1.2 [0,1] 0))=true:=by
  have h1:=Qq
  rw[h1.2,hpf.2.1,hpf.2.2.1,hpf.2.2.2,decide_eq_true h1.1,decide_eq_true hpf.1];rfl
 exact rE () [.tmp 0] J [bl ((((((decide (((aA aR aR).2)=0))&&(rX ((aA aR aR).1) kO))&&(decide (i23.1.2=0)))&&(jS i23.1.1.1 aR))&&(jS i23.1.1.2 aR))&&(nL i23.1.1.1 i23.1.1.2 [0,1] 0))] ⟨.tmp J,tV⟩ (cA1 (fun x0=>rV [bl x0]) hr0) trivial eX
end prodk
end
section
namespace SevM
open ref01 ref03 ref04 ref06 Part Rungs LeftM TrimM RoundM MergeM BisM BisM2 BisM4 BisM5 Keys WalkM WitM JudgM LevM divr divs divd dive divf divv judg ChsM BisS TrimI QuoM FailM DivM RefM GenW CompM
def jJ (n:Nat):Int:=((2^n:Nat):Int)- 1
def aQ (l:List ByteArray):SS:=⟨l,[⟨[jJ l.length],List.replicate l.length 0⟩]⟩
theorem HQ (n:Nat):(jJ n).toNat=2^n- 1:=by
 unfold jJ
 have:1≤2^n:=Nat.one_le_two_pow
 omega
theorem Tv {n:Nat} (h:n≤8):0≤jJ n∧jJ n<256:=by
 have h1:2^n≤2^8:=Nat.pow_le_pow_right O h
 have h2:1≤2^n:=Nat.one_le_two_pow
 unfold jJ
 omega
theorem Bx {n a:Nat}:has (jJ n) (a:Int)=true↔a<n:=by
 unfold has
 rw[HQ,Int.toNat_natCast,Nat.testBit_two_pow_sub_one,decide_eq_true_iff]
theorem JM (l:List ByteArray):ix (aQ l).sT 0=⟨[jJ l.length],List.replicate l.length 0⟩:=rfl
theorem Tw {l:List ByteArray} {a:Nat}:has (aT [jJ l.length]) (a:Int)=true↔a<l.length:=by
 rw[bR]
 constructor
 ·rintro⟨u,hu,ha⟩
  rw[List.mem_singleton.1 hu] at ha
  exact Bx.1 ha
 ·intro h;exact⟨_,List.mem_singleton.2 rfl,Bx.2 h⟩
theorem mY {l:List ByteArray} (h:bM l=true):oK (aQ l):=by
 have n8:=fG h
 have hb:=Tv n8
 refine⟨h,n8,by show 1≤1;omega,by show 1≤10000;omega,fun k hk=> ?_⟩
 have hk:k<1:=hk
 obtain rfl:k=0:=by omega
 rw[JM]
 refine⟨by simp[aQ],fun a ha=> ?_,fun i hi=> ?_,fun i hi a ha=> ?_,uC (List.pairwise_singleton _ _)⟩
 ·have ha:a<l.length:=ha
  show-1≤ix (List.replicate l.length 0) a∧ix (List.replicate l.length 0) a<((1:Nat):Int)
  rw[yH 0 ha];omega
 ·have hi:i<1:=hi
  obtain rfl:i=0:=by omega
  show 0≤jJ l.length∧jJ l.length<256
  exact hb
 ·have hi:i<1:=hi
  obtain rfl:i=0:=by omega
  have:=Bx.1 (show has (jJ l.length) (a:Int)=true from ha)
  refine⟨this,?_⟩
  show 0≤ix (List.replicate l.length 0) a
  rw[yH 0 this];omega
theorem HR {l:List ByteArray} (h:bM l=true) (hl:0<l.length∨True):ix (hOl (aQ l)) 0=false:=by
 cases e:ix (hOl (aQ l)) 0 with
 |false=>rfl
 |true=>
  have hx:(0:Nat)<(aQ l).sT.length:=by show 0<1;omega
  have hH:=(iK hx).1 e
  exfalso
  refine hH (fun _=>False) (fun x hx hc=> ?_)
  have hx:x<1:=hx
  obtain rfl:x=0:=by omega
  obtain⟨_,_,_,_,h⟩:=hc 0 (by show 0<1;omega)
  exact h
theorem HT {l:List ByteArray} (h:bM l=true):aH (aQ l)= [0]:=by
 have hs:=mY h
 have h1:(aH (aQ l)).length≤1:=pF hs
 have h2:=iU (aQ l)
 have h3:=mE (aQ l)
 match hq:aH (aQ l),h1,h2,h3 with
 | [y],_,_,h3=>rw[show y=0 from h3]
theorem NP {l:List ByteArray} (h:bM l=true):(tR (aQ l)).1=aQ l:=by
 have hs:=mY h
 have hn:=HR h (.inr trivial)
 rw[bX hn]
 show(⟨l,(aH (aQ l)).map (eL (aQ l))⟩:SS)=_
 rw[HT h]
 have hk:keep (aQ l) 0= [jJ l.length]:=by
  rw[jL hn,JM]
  refine List.filter_eq_self.2 fun u hu=> ?_
  rw[Bool.not_eq_true']
  cases hf:falls (⟨[jJ l.length],List.replicate l.length 0⟩:SA) u (hOl (aQ l)) with
  |false=>rfl
  |true=>
   obtain⟨a,ha,_,_,hv⟩:=iI.1 hf
   have ha:a<l.length:=by simpa using ha
   rw[show ix (List.replicate l.length (0:Int)) a=0 from yH 0 ha] at hv
   rw[show(0:Int).toNat=0 from rfl,hn] at hv;cases hv
 show(⟨l,[eL (aQ l) 0]⟩:SS)=⟨l,[⟨[jJ l.length],List.replicate l.length 0⟩]⟩
 congr 2
 unfold eL jD
 rw[show(0:Int).toNat=0 from rfl,hk,HT h]
 congr 1
 apply List.ext_getElem
 ·simp[aQ]
 ·intro a h1 h2
  have ha:a<l.length:=by simpa using h2
  rw[List.getElem_map,List.getElem_range,List.getElem_replicate,if_pos (Tw.2 ha)]
  have e:ix (ix (aQ l).sT 0).next a=0:=yH 0 ha
  rw[e];rfl
theorem Tx {s t:SS} (hs:oK s) (ht:oK t) (hq:(bB s t).2=true):(bB s t).1.sT.length≤s.sT.length*t.sT.length:=by
 have f1:=hs.few0
 have f2:=ht.few0
 unfold bB at hq ⊢
 by_cases e:eO s t
 ·rw[if_pos e]
  show 1≤_
  exact Nat.mul_pos O O
 ·rw[if_neg e] at hq ⊢
  split at hq
  ·next g=>
   rw[if_pos g]
   have hok:oK (bD (tR s).1 (tR t).1):=qB (bC hs) (bC ht) (vI (bC hs) (bC ht)) O
   have:=nT hok
   have e2:(bD (tR s).1 (tR t).1).sT.length=(cL (tR s).1 (tR t).1).length:=by simp[bD]
   have h1:=Rw (bC hs) (bC ht)
   have h2:=EG hs ht
   show(tR (bD (tR s).1 (tR t).1)).1.sT.length≤_
   omega
  ·cases hq
theorem lL {s t:SS} (hq:(bB s t).2=true):(bB s t).1.aC=s.aC:=by
 unfold bB at hq ⊢
 by_cases e:eO s t
 ·rw[if_pos e];rfl
 ·rw[if_neg e] at hq ⊢
  split at hq
  ·next g=>rw[if_pos g,dV];show(tR s).1.aC=_;rw[dV]
  ·cases hq
noncomputable def rJ (l:List ByteArray) (ls:List SS):Nat→SS
 |0=>aQ l
 |k+1=>(bB (rJ l ls k) (ix ls k)).1
def sF (l:List ByteArray) (ls:List SS) (k:Nat):Prop:=∀j,j<k→(bB (rJ l ls j) (ix ls j)).2=true
noncomputable instance (l:List ByteArray) (ls:List SS) (k:Nat):Decidable (sF l ls k):=Classical.propDecidable _
noncomputable def gY (l:List ByteArray) (ls:List SS):Int:=if ls.any (fun s=> !aX s)=true then 30 else if (!bM l||ls.any (fun s=> !decide (s.aC=l)))=true then 10 else 0
noncomputable def jK (l:List ByteArray) (ls:List SS):SS × Int:=
 if gY l ls=0 then(if sF l ls ls.length then(rJ l ls ls.length,0) else(⟨[],[]⟩,2)) else(⟨[],[]⟩,gY l ls)
def RC (ls:List SS):Nat→Nat
 |0=>1
 |k+1=>RC ls k*max 1 (ix ls k).sT.length
theorem zL {l:List ByteArray} {ls:List SS} (h:gY l ls=0):bM l=true∧∀k,k<ls.length→oK (ix ls k)∧aX (ix ls k)=true∧(ix ls k).aC=l:=by
 unfold gY at h
 split at h
 ·omega
 ·next h1=>
  split at h
  ·omega
  ·next h2=>
   have h2:(!bM l||ls.any (fun s=> !decide (s.aC=l)))=false:=by simpa using h2
   rw[Bool.or_eq_false_iff,Bool.not_eq_false'] at h2
   refine⟨h2.1,fun k hk=> ?_⟩
   have hm:=aZ (l:=ls) hk
   have h1:ls.any (fun s=> !aX s)=false:=by simpa using h1
   have g1:=List.any_eq_false.1 h1 _ hm
   have g2:=List.any_eq_false.1 h2.2 _ hm
   have g1:aX (ix ls k)=true:=by simpa using g1
   exact⟨bW g1,g1,by simpa using g2⟩
theorem JN {l:List ByteArray} {ls:List SS} (h:gY l ls=0):∀k,k≤ls.length→sF l ls k→oK (rJ l ls k)∧(rJ l ls k).aC=l∧(rJ l ls k).sT.length≤RC ls k
 |0,_,_=>⟨mY (zL h).1,rfl,by show 1≤1;omega⟩
 |k+1,hk,ho=>by
  obtain⟨h1,h2,h3⟩:=JN h k O (fun j hj=>ho j O)
  obtain⟨g1,_,g3⟩:=(zL h).2 k O
  have hq:=ho k O
  refine⟨kD h1 g1 hq,(lL hq).trans h2,?_⟩
  have:=Tx h1 g1 hq
  exact Nat.le_trans this (Nat.mul_le_mul h3 O)
end SevM
end
section
open ref01 ref03 ref04 ref06 prog prog2 prog3 prog4 prog5 prog6 prog7 prog8 prog9 prog13 prog15 starts Part Rungs LeftM TrimM Itoa Keys RoundM MergeM BisM BisM4 BisM5 WalkM StepM WitM JudgM JudgM2 refw judg wit refj sysw divr divs divd dive divg divw divv LevM LevM2 ChsM TrimI QuoM FailM DivM RefM GenW CompM CrossM CompP EncM prodc divp prodm prodp ForkM prodk SevM
def lM (s:SS):List AV:= [strs s.aC,sl 2 sE s.sT]
instance (s:SS):OneAll (lM s):=inferInstanceAs (OneAll [strs s.aC,sl 2 sE s.sT])
instance (key:Nat) (A:Option Addr) (n c:Nat):AL.One (osl key (.slice A n c)):=⟨fun {w F u} h=>by
 rw[gZ] at h
 exact AL.One.one h⟩
def Fq (s:SS):List AV:= [spec s]
def rK {α:Type} (p:α→Bool) (l:List α):Int:=if l.any p=true then(l.findIdx p:Int) else-1
theorem NQ {α:Type} [Inhabited α] {p:α→Bool} {l:List α} (h:∀k,k<l.length→p (ix l k)=false):rK p l= -1:=by
 unfold rK
 rw[if_neg]
 intro g
 obtain⟨x,hx,hp⟩:=List.any_eq_true.1 g
 obtain⟨i,hi,rfl⟩:=List.getElem_of_mem hx
 have:=h i hi
 rw[aJ hi,hp] at this
 cases this
theorem NR {α:Type} [Inhabited α] {p:α→Bool} {l:List α} {k:Nat} (hk:k<l.length) (hp:p (ix l k)=true) (h:∀j,j<k→p (ix l j)=false):rK p l=(k:Int):=by
 unfold rK
 rw[if_pos (List.any_eq_true.2 ⟨_,aZ hk,hp⟩)]
 have:l.findIdx p=k:=by
  rw[List.findIdx_eq hk]
  refine⟨by rw[←aJ hk];exact hp,fun j hj=> ?_⟩
  have:=h j hj
  rw[aJ O] at this
  exact this
 rw[this]
theorem Qs {α:Type} {p:α→Bool} {l:List α}:decide (0≤rK p l)=l.any p:=by
 unfold rK
 by_cases h:l.any p=true
 ·rw[if_pos h,h];exact decide_eq_true O
 ·rw[if_neg h,(by simpa using h:l.any p=false)];rfl
theorem HU {l:List ByteArray} {ls:List SS} (h:¬gY l ls=0):jK l ls=(⟨[],[]⟩,gY l ls):=by unfold jK;rw[if_neg h]
theorem VK {l:List ByteArray} {ls:List SS} {k:Nat} (h:gY l ls=0) (hk:k<ls.length) (hb:(!(bB (rJ l ls k) (ix ls k)).2)=true):jK l ls=(⟨[],[]⟩,2):=by
 unfold jK
 rw[if_pos h,if_neg]
 intro g
 have:=g k hk
 rw[this] at hb;cases hb
theorem HV {l:List ByteArray} {ls:List SS} {D:SS} {k:Nat} (h:gY l ls=0) (hk:k=ls.length) (hD:D=rJ l ls k) (ho:sF l ls k):jK l ls=(D,0):=by
 subst hk
 unfold jK
 rw[if_pos h,if_pos ho,←hD]
namespace T
theorem VL:Ent Tryz.prog 133:=aG kR
theorem VM:Ent Tryz.prog 135:=aG kR
theorem Ll:IsSlice Tryz.prog 49 25 2:=dW kR
theorem VN:Ent Tryz.prog 168:=aG kR
theorem NS:Ent Tryz.prog 132:=aG kR
theorem WP:Ent Tryz.prog 77:=aG kR
end T
namespace prods
theorem EZ (l:List SS) (dom:SS→Prop) (pq:SS→Bool) (hd:∀k,k<l.length→dom (ix l k)):
 Fn0 Tryz.prog 168 [sl 2 lM l,pf Tryz.prog dom Fq (fun x=>bl (pq x))] (int (rK pq l)):=by
 refine fnI Tryz.func168 rfl rfl (fun w0 F0=> ?_)
 refine fcC (aL 0 J) (fun hm0=> ?_)
 refine sq (rg (ag (nl (th (sq (sq (rg (mv (lnF J T.Ll (mv (nl (th (bk ?_)))))))))))))
 have hI0_0:0≤l.length:=by
  first|omega|simp
 have hI0_1:∀j,j<0→pq (ix l j)=false:=by
  intro j hj;omega
 refine lp (κ:=Nat) (fun p=> [(0,sl 2 lM l),(1,pf Tryz.prog dom Fq (fun x=>bl (pq x))),(7,int (l.length:Int)),(8,int (p:Int))]) (fun p=> []) (fun p=>(p≤l.length)∧(∀j,j<p→pq (ix l j)=false)) (fun p=>l.length- p) 0 ⟨hI0_0,hI0_1⟩ ⟨id,id,id,id,tV⟩ trivial ?_
 intro k hG0
 obtain⟨hk0,hI0⟩:(k≤l.length)∧(∀j,j<k→pq (ix l j)=false):=hG0
 refine sq (rg (bi J J aN (nl (th (sq ?_)))))
 refine cd J (fun hc0=> ?_) (fun hc0=> ?_)
 ·try simp at hc0
  refine sk (th (sq (bk (sq (rg (mv (ag (nl (th (sq (rg (mv (mv (mv (iF J J T.Ll O gB (lFA J T.aD (Nat.le_of_ble_eq_true J) (Kb J (ix l k) (hd k O) J (nl (th ?_)))))))))))))))))))
  refine cd J (fun hc1=> ?_) (fun hc1=> ?_)
  ·try simp at hc1
   refine sq (rg (mv (ag (nl (th (rt (rb (rt_ (rt_ (rb (rt_ ?_)))))))))))
   have hr0:((k:Int):Int)=(rK pq l):=by
    exact(NR O hc1 hI0).symm
   exact rE () [.tmp 4] J [int (k:Int)] ⟨.tmp J,tV⟩ (cA1 (fun x0=>rV [int x0]) hr0) trivial eX
  ·try simp at hc1
   refine sk (eb (th (rg (bi J J (aK i6) (mv (nl ?_))))))
   have hN0:(k+1)≤l.length:=by
    first|omega|simp_all
   have hN1:∀j,j<(k+1)→pq (ix l j)=false:=by
    intro j hj
    by_cases e:j=k
    ·subst e;simpa using hc1
    ·exact hI0 j O
   exact ln (k+1) ⟨hN0,hN1⟩ dO ⟨id,id,id,id,tV⟩ trivial
 ·try simp at hc0
  refine ex (xt_ (xt_ (xb (th (sq (rg (ag (nl (th (rt ?_))))))))))
  have hr0:((-1):Int)=(rK pq l):=by
   exact(NQ (fun j hj=>hI0 j O)).symm
  exact rE () [.tmp 4] J [int (-1)] ⟨.tmp J,tV⟩ (cA1 (fun x0=>rV [int x0]) hr0) trivial eX
theorem tM (l:List SS) (dom:SS→Prop) (pq:SS→Bool) (hd:∀k,k<l.length→dom (ix l k)):
 Fn0 Tryz.prog 132 [sl 2 lM l,pf Tryz.prog dom Fq (fun x=>bl (pq x))] (bl (l.any pq)):=by
 refine fnI Tryz.func132 rfl rfl (fun w0 F0=> ?_)
 refine fcC (aL 0 J) (fun hm0=> ?_)
 refine sq (rg (ag (nl (th (sq (rg (mv (mv (aO (φs:= [sl 2 lM l,pf Tryz.prog dom Fq (fun x=>bl (pq x))]) (φ:=int (rK pq l)) ⟨J,J,tV⟩ (EZ l dom pq hd) T.VN (bi J J eT (ag (nl (th (rt ?_))))))))))))))
 have hr0:(decide (0≤(rK pq l)))=(l.any pq):=by
  rw[Qs]
 exact rE () [.tmp 4] J [bl (decide (0≤(rK pq l)))] ⟨.tmp J,tV⟩ (cA1 (fun x0=>rV [bl x0]) hr0) trivial eX
theorem Lm (s:SS) (hs:bK s):
 Fn0 Tryz.prog 133 [spec s] (bl (!aX s)):=by
 refine fnI Tryz.func133 rfl rfl (fun w0 F0=> ?_)
 refine fcC (bO 0 J) (fun hS0=> ?_)
 obtain⟨hsa0,hss0,hse0⟩:=sLn hS0
 refine sq (rg (bx (key:=1) (cs:= [sl 1 rE_ s.aC,sl 2 sE s.sT]) J fun b1=>(ag (nl (th (sq (rg (lPA J J T.aD J (aO (φs:= [agg [sl 1 rE_ s.aC,sl 2 sE s.sT]]) (φ:=bl (aX s)) ⟨J,tV⟩ (prog2.nP s aS) T.xZ (no J (ag (nl (th (rt ?_))))))))))))))
 have hr0:(!(aX s))=(!aX s):=by
  first|rfl|simp_all|omega
 exact rE () [.tmp 2] J [bl (!(aX s))] ⟨.tmp J,tV⟩ (cA1 (fun x0=>rV [bl x0]) hr0) trivial eX
theorem Ln (l:List ByteArray) (s:SS):
 Fn0 Tryz.prog 135 [spec s,fp [strs l]] (bl (!decide (s.aC=l))):=by
 refine fnI Tryz.func135 rfl rfl (fun w0 F0=> ?_)
 refine fcC (bO 0 J) (fun hS0=> ?_)
 obtain⟨hsa0,hss0,hse0⟩:=sLn hS0
 refine sq (rg (bx (key:=2) (cs:= [sl 1 rE_ s.aC,sl 2 sE s.sT]) J fun b2=>(ag (nl (th (sq (rg (fP J T.cR (lP J J J T.cV (lF J J T.cV (aO (φs:= [sl 1 rE_ s.aC,sl 1 rE_ l]) (φ:=bl (decide (s.aC=l))) ⟨J,J,tV⟩ (prog.rG _ _) T.GG (no J (ag (nl (th (rt ?_))))))))))))))))
 have hr0:(!(decide (s.aC=l)))=(!decide (s.aC=l)):=by
  first|rfl|simp_all|omega
 exact rE () [.tmp 3] J [bl (!(decide (s.aC=l)))] ⟨.tmp J,tV⟩ (cA1 (fun x0=>rV [bl x0]) hr0) trivial eX
theorem Qt (ls:List SS) (hl:∀k,k<ls.length→bK (ix ls k)):Fn0 Tryz.prog 132 [sl 2 lM ls,eqv (.func (.func 133) #[] #[])] (bl (ls.any (fun s=> !aX s))):=by
 refine pO (fun {w F vs} h=> ?_) (tM ls bK (fun s=> !aX s) hl)
 match vs,h with
 | [_,_],⟨h1,h2,_⟩=>exact⟨h1,RK T.VL (fun s hs=>Lm s hs) h2,tV⟩
theorem Qu (l:List ByteArray) (ls:List SS):Fn0 Tryz.prog 132 [sl 2 lM ls,clo 135 [fp [strs l]]] (bl (ls.any (fun s=> !decide (s.aC=l)))):=by
 refine pO (fun {w F vs} h=> ?_) (tM ls (fun _=>True) (fun s=> !decide (s.aC=l)) (fun _ _=>trivial))
 match vs,h with
 | [_,_],⟨h1,h2,_⟩=>exact⟨h1,Ce T.VM (fun s _=>Ln l s) h2,tV⟩
theorem NT (l:List ByteArray) (ls:List SS) (hl:∀k,k<ls.length→bK (ix ls k)):
 Fn0 Tryz.prog 77 [strs l,sl 2 lM ls] (int (gY l ls)):=by
 refine fnI Tryz.func77 rfl rfl (fun w0 F0=> ?_)
 refine fcC (aL 0 J) (fun hm0=> ?_)
 refine fcC (aL 1 J) (fun hm1=> ?_)
 refine sq (rg (bx1 (key:=2) (φ:=sl 1 rE_ l) J fun b2=>(ag (nl (th (sq (sq (rg (mv (aO (φs:= [sl 2 lM ls,eqv (.func (.func 133) #[] #[])]) (φ:=bl (ls.any (fun s=> !aX s))) ⟨J,J,tV⟩ (Qt ls hl) T.NS (nl (th ?_))))))))))))
 refine cd J (fun hc0=> ?_) (fun hc0=> ?_)
 ·skip
  refine sq (rg (ag (nl (th (rt (rt_ ?_))))))
  have hr0:(30:Int)=(gY l ls):=by
   unfold gY;rw[if_pos hc0]
  exact rE () [.tmp 4] J [int 30] ⟨.tmp J,tV⟩ (cA1 (fun x0=>rV [int x0]) hr0) trivial eX
 ·skip
  refine sk (th (sq (sq (rg (fzv 2 2 J J (lF J J T.cV (aO (φs:= [sl 1 rE_ l]) (φ:=bl (bM l)) ⟨J,tV⟩ (prog.xM _) T.FV (no J (mv ?_)))))))))
  apply gOr (t:=10) (pd:=14) rfl
  rotate_left
  ·intro hg0 fin
   have hg0':=hg0
   try simp at hg0'
   exact gy J J J hg0 (mv (gy J J J hg0 (mkf (gy J J J hg0 (aO (φs:= [sl 2 lM ls,clo 135 [fp [sl 1 rE_ l]]]) (φ:=bl (ls.any (fun s=> !decide (s.aC=l)))) ⟨J,J,tV⟩ (Qu l ls) T.NS (pkF J hg0 J (drp (X:= [(13,_),(12,_),(11,_)]) ⟨J,J,J,tV⟩ fin)))))))
  ·intro hg0 fin
   exact gn J J J hg0 J J (gn J J J hg0 J J (gn J J J hg0 J J (pkT J hg0 J (drp (X:= [(13,_),(12,_),(11,_)]) ⟨J,J,J,tV⟩ fin))))
  refine nl (th ?_)
  refine cd J (fun hc1=> ?_) (fun hc1=> ?_)
  ·skip
   refine sq (rg (ag (nl (th (rt (rt_ ?_))))))
   have hr0:(10:Int)=(gY l ls):=by
    unfold gY;rw[if_neg (by rw[hc0];simp),if_pos hc1]
   exact rE () [.tmp 4] J [int 10] ⟨.tmp J,tV⟩ (cA1 (fun x0=>rV [int x0]) hr0) trivial eX
  ·skip
   refine sk (th (sq (rg (ag (nl (th (rt ?_)))))))
   have hr0:(0:Int)=(gY l ls):=by
    unfold gY;rw[if_neg (by rw[hc0];simp),if_neg (by rw[hc1];simp)]
   exact rE () [.tmp 4] J [int 0] ⟨.tmp J,tV⟩ (cA1 (fun x0=>rV [int x0]) hr0) trivial eX
theorem Lp (l:List ByteArray) (ls:List SS) (hl:∀k,k<ls.length→bK (ix ls k)):
 Fn0 Tryz.prog 28 [kQ (strs l),sl 2 lM ls] (tup [spec (jK l ls).1,int (jK l ls).2]):=by
 refine fnI Tryz.func28 rfl rfl (fun w0 F0=> ?_)
 refine tbI 0 9999 rfl ?_
 refine fcC (aL 0 J) (fun hm0=> ?_)
 refine fcC (aL 1 J) (fun hm1=> ?_)
 refine sq (rg (al (key:=4) T.z25 (eC (eC eZ)) fun b4=>(ag (nl (th (sq (sq (rg (mv (mv (aO (φs:= [sl 1 rE_ l,sl 2 lM ls]) (φ:=int (gY l ls)) ⟨J,J,tV⟩ (prods.NT l ls aS) T.WP (ag (nl (th (sq (rg (mv (bi J J fS (nl (th ?_))))))))))))))))))))
 refine cd J (fun hc0=> ?_) (fun hc0=> ?_)
 ·try simp at hc0
  refine sq (rg (bd (css:= []) T.lA (eC (eC eZ)) trivial (mv (sPA (cs':= [eqv (.slice none 0 0),eqv (.slice none 0 0)]) J J J T.aD J J (ag (nl (th (rt (rt_ ?_)))))))))
  refine dE 4 0 (sl 1 rE_ []) rfl rfl bT ?_
  refine dE 4 1 (sl 2 sE []) rfl rfl bT ?_
  have hr0: []=((jK l ls).1).aC:=by
   rw[HU hc0]
  have hr1: []=((jK l ls).1).sT:=by
   rw[HU hc0]
  have hr2:((gY l ls):Int)=((jK l ls).2):=by
   rw[HU hc0]
  exact rE () [.cell 4 25,.tmp 5] J [agg [sl 1 rE_ [],sl 2 sE []],int (gY l ls)] ⟨.agg J J T.aD J J,.tmp J,tV⟩ (cA3 (fun x0 x1 x2=>rV [agg [sl 1 rE_ x0,sl 2 sE x1],int x2]) hr0 hr1 hr2) trivial eX
 ·try simp at hc0
  have hle:gY l ls=0:=by simpa using hc0
  have h8:l.length≤8:=fG (zL hle).1
  have h2n:2^l.length≤2^8:=Nat.pow_le_pow_right O h8
  have h2p:1≤2^l.length:=Nat.one_le_two_pow
  refine sk (th (sq ?_))
  refine drH (nh:=11) [0,1,3,7,15,0,32,96,255,0,1023] [(none,[]),(none,[]),(none,[]),(none,[]),(none,[]),(none,[]),(none,[]),(some 26,[]),(none,[]),(some 7,[]),(some 7,[7])] T.mixed kR kR ?_
  refine stv (d:=19) (fun β0=>sl 1 rE_ l) [] J bH (fun β0 _ _ _ _ gq gh kq=>mv' (gq.1.trans J) kq) ?_
  refine stv (d:=20) (fun β0=>int (l.length:Int)) [] J bH (fun β0 _ _ _ _ gq gh kq=>lnF (gq.1.trans J) T.eS kq) ?_
  refine stv (d:=21) (fun β0=>int ((2^l.length:Nat):Int)) [] J bH (fun β0 _ _ _ _ gq gh kq=>bi J (gq.1.trans J) (uW O O) kq) ?_
  refine stv (d:=22) (fun β0=>int (((2^l.length:Nat):Int)- 1)) [] J bH (fun β0 _ _ _ _ gq gh kq=>bi (gq.1.trans J) J (qE i6) kq) ?_
  refine stv (d:=23) (fun β0=>sl 1 nE [(((2^l.length:Nat):Int)- 1)]) [] J bH (fun β0 _ _ _ _ gq gh kq=>bsE (enc:=nE) (xs:= [(((2^l.length:Nat):Int)- 1)]) (css:= [[int (((2^l.length:Nat):Int)- 1)]]) T.cE ⟨J,J,p1 (φ:=int (((2^l.length:Nat):Int)- 1)) (by exact(gq.1.trans J)),tV⟩ J J J J kq) ?_
  refine stv (d:=24) (fun β0=>sl 1 rE_ l) [] J bH (fun β0 _ _ _ _ gq gh kq=>mv' (gq.1.trans J) kq) ?_
  refine stv (d:=25) (fun β0=>int (l.length:Int)) [] J bH (fun β0 _ _ _ _ gq gh kq=>lnF (gq.1.trans J) T.eS kq) ?_
  refine stm (m:=l.length) (enc:=nE) (y:=(0:Int)) 26 T.cE (eC eZ) (by unfold aU at*;omega) (by unfold aU at*;omega) (fun β0 _ gq=>⟨(gq.1.trans rfl),(gq.2.1.trans rfl)⟩) ?_
  refine stv (d:=27) (fun β0=>agg [sl 1 nE [(((2^l.length:Nat):Int)- 1)],osl 26 (.slice (some ⟨gbk (β0 7),0,none⟩) l.length l.length)]) [] J (fun β β' hb=>by first|rw[hb 7 J]|(dsimp only;rw[hb 7 J])) (fun β0 _ _ _ _ gq gh kq=>bd (css:= [(0,_),(1,_)]) T.uM (eC (eC eZ)) ⟨J,J,p1 (φ:=sl 1 nE [(((2^l.length:Nat):Int)- 1)]) (by exact(gq.1.trans J)),⟨J,J,p1 (φ:=osl 26 (.slice (some ⟨gbk (β0 7),0,none⟩) l.length l.length)) (by exact(gq.2.1.trans J)),tV⟩⟩ kq) ?_
  refine sta 7 T.z81 (eC (eC eZ)) ?_
  refine stw 7 (fun β0=>cell (gbk (β0 9)) [sl 1 nE [(((2^l.length:Nat):Int)- 1)],osl 26 (.slice (some ⟨gbk (β0 7),0,none⟩) l.length l.length)]) [7] J (fun β β' hb=>by first|rw[hb 7 J,hb 9 J]|(dsimp only;rw[hb 7 J,hb 9 J])) (fun β0 _ _ _ _ gq gh kq=>sPA (cs':= [sl 1 nE [(((2^l.length:Nat):Int)- 1)],osl 26 (.slice (some ⟨gbk (β0 7),0,none⟩) l.length l.length)]) (gq.1.trans J) (gh.1.trans J) (gq.2.1.trans J) T.cP J J kq) ?_
  refine pnH fun β0=>(nl (th (sq (FJ 7 26 1 J J J J ?_))))
  refine drH (nh:=7) [0,1,0,4,15,0,63] [(none,[]),(none,[]),(none,[7]),(none,[]),(none,[]),(some 8,[]),(some 8,[8])] T.mixed kR kR ?_
  refine stv (d:=28) (fun β1=>sl 1 rE_ l) [] J bH (fun β1 _ _ _ _ gq gh kq=>mv' (gq.1.trans J) kq) ?_
  refine stv (d:=29) (fun β1=>sl 1 rE_ l) [] J bH (fun β1 _ _ _ _ gq gh kq=>dU (φs:= [sl 1 rE_ l]) (φ:=sl 1 rE_ l) ⟨(gq.1.trans J),tV⟩ (prog.jV _ O) T.yX (fun N hN=>fun h=>bP h) kq) ?_
  refine stv (d:=30) (fun β1=>agg [sl 1 nE [(((2^l.length:Nat):Int)- 1)],sl 1 nE (List.replicate l.length (0:Int))]) [7] J bH (fun β1 _ _ _ _ gq gh kq=>lPA (gq.1.trans J) (gh.1.trans J) T.cP J kq) ?_
  refine stv (d:=31) (fun β1=>sl 2 sE [(⟨[(((2^l.length:Nat):Int)- 1)],List.replicate l.length (0:Int)⟩)]) [] J bH (fun β1 _ _ _ _ gq gh kq=>bsE (enc:=sE) (xs:= [(⟨[(((2^l.length:Nat):Int)- 1)],List.replicate l.length (0:Int)⟩)]) (css:= [[sl 1 nE [(((2^l.length:Nat):Int)- 1)],sl 1 nE (List.replicate l.length (0:Int))]]) T.mB ⟨J,J,pA (cs:= [sl 1 nE [(((2^l.length:Nat):Int)- 1)],sl 1 nE (List.replicate l.length (0:Int))]) (by exact(gq.1.trans J)),tV⟩ J J J J kq) ?_
  refine stv (d:=32) (fun β1=>agg [sl 1 rE_ l,sl 2 sE [(⟨[(((2^l.length:Nat):Int)- 1)],List.replicate l.length (0:Int)⟩)]]) [] J bH (fun β1 _ _ _ _ gq gh kq=>bd (css:= [(0,_),(1,_)]) T.lA (eC (eC eZ)) ⟨J,J,p1 (φ:=sl 1 rE_ l) (by exact(gq.1.trans J)),⟨J,J,p1 (φ:=sl 2 sE [(⟨[(((2^l.length:Nat):Int)- 1)],List.replicate l.length (0:Int)⟩)]) (by exact(gq.2.1.trans J)),tV⟩⟩ kq) ?_
  refine sta 8 T.z25 (eC (eC eZ)) ?_
  refine stw 8 (fun β1=>cell (gbk (β1 5)) [sl 1 rE_ l,sl 2 sE [(⟨[(((2^l.length:Nat):Int)- 1)],List.replicate l.length (0:Int)⟩)]]) [8] J (fun β β' hb=>by first|rw[hb 5 J]|(dsimp only;rw[hb 5 J])) (fun β1 _ _ _ _ gq gh kq=>sPA (cs':= [sl 1 rE_ l,sl 2 sE [(⟨[(((2^l.length:Nat):Int)- 1)],List.replicate l.length (0:Int)⟩)]]) (gq.1.trans J) (gh.1.trans J) (gq.2.1.trans J) T.aD J J kq) ?_
  refine pnH fun β1=>(nl (th (sq (sq (rg (mv (lnF J T.Ll (mv (nl (th (bk ?_)))))))))))
  have hI0_0:0≤ls.length:=by
   first|omega|simp
  have hI0_1:(⟨l,[⟨[((2^l.length:Nat):Int)- 1],List.replicate l.length 0⟩]⟩:SS)=rJ l ls 0∧sF l ls 0:=by
   exact⟨rfl,fun j hj=>by omega⟩
  refine lp (κ:=Nat × SS) (fun p=> [(4,ptr 4 b4 0),(8,ptr 8 (gbk (β1 5)) 0),(33,sl 2 lM ls),(34,int (ls.length:Int)),(35,int (p.1:Int)),(9999,tab)]) (fun p=> [(4,cell b4 [eqv (.slice none 0 0),eqv (.slice none 0 0)]),(7,cell (gbk (β0 9)) [sl 1 nE [(((2^l.length:Nat):Int)- 1)],sl 1 nE (List.replicate l.length (0:Int))]),(8,cell (gbk (β1 5)) [sl 1 rE_ p.2.aC,sl 2 sE p.2.sT])]) (fun p=>(p.1≤ls.length)∧(p.2=rJ l ls p.1∧sF l ls p.1)) (fun p=>ls.length- p.1) ⟨0,(⟨l,[⟨[((2^l.length:Nat):Int)- 1],List.replicate l.length 0⟩]⟩:SS)⟩ ⟨hI0_0,hI0_1⟩ ⟨id,id,id,id,id,id,tV⟩ ⟨rI,rI,rI,tV⟩ ?_
  intro⟨k,D⟩ hG0
  obtain⟨hk0,⟨hD,hok⟩⟩:(k≤ls.length)∧(D=rJ l ls k∧sF l ls k):=hG0
  show Ct _ _ _ _ [(4,ptr 4 b4 0),(8,ptr 8 (gbk (β1 5)) 0),(33,sl 2 lM ls),(34,int (ls.length:Int)),(35,int (k:Int)),(9999,tab)] [(4,cell b4 [eqv (.slice none 0 0),eqv (.slice none 0 0)]),(7,cell (gbk (β0 9)) [sl 1 nE [(((2^l.length:Nat):Int)- 1)],sl 1 nE (List.replicate l.length (0:Int))]),(8,cell (gbk (β1 5)) [sl 1 rE_ D.aC,sl 2 sE D.sT])] _
  refine sq (rg (bi J J aN (nl (th (sq ?_)))))
  refine cd J (fun hc1=> ?_) (fun hc1=> ?_)
  ·try simp at hc1
   have hkl:k<ls.length:=by omega
   obtain⟨hlk,_,hla⟩:=(zL hle).2 k O
   obtain⟨hDo,hDa,hDl⟩:=JN hle k O hok
   rw[←hD] at hDo hDa hDl
   have hDs:D.aC=(ix ls k).aC:=by rw[hDa,hla]
   refine sk (th (sq (bk (sq (rg (iF J J T.Ll O gB (lFA J T.aD (Nat.le_of_ble_eq_true J) (al (key:=10) T.z25 (eC (eC eZ)) fun b10=>(sPA (cs':= [sl 1 rE_ (ix ls k).aC,sl 2 sE (ix ls k).sT]) J J J T.aD J J (nl (th (sq (rg (ag (nl (th (sq (rg (lPA J J T.aD J (lPA J J T.aD J (tbU (ψ:=tab) 40 9999 J J (aO (φs:= [both (agg [sl 1 rE_ D.aC,sl 2 sE D.sT]) tab,agg [sl 1 rE_ (ix ls k).aC,sl 2 sE (ix ls k).sT]]) (φ:=tup [agg [sl 1 rE_ ((bB D (ix ls k)).1).aC,sl 2 sE ((bB D (ix ls k)).1).sT],bl ((bB D (ix ls k)).2)]) ⟨J,J,tV⟩ (prodc.Ar D (ix ls k) aS aS aS) T.Ry (mv (xt J J (xt J J (sPA (cs':= [sl 1 rE_ ((bB D (ix ls k)).1).aC,sl 2 sE ((bB D (ix ls k)).1).sT]) J J J T.aD J J (ag (nl (th (sq (rg (mv (no J (nl (th ?_)))))))))))))))))))))))))))))))))))
   refine cd J (fun hc2=> ?_) (fun hc2=> ?_)
   ·skip
    have hbad:=VK hle hkl (by rw[←hD];exact hc2)
    refine sq (rg (bd (css:= []) T.lA (eC (eC eZ)) trivial (sPA (cs':= [eqv (.slice none 0 0),eqv (.slice none 0 0)]) J J J T.aD J J (ag (nl (th (rt (rb (rt_ (rt_ (rb (rt_ ?_))))))))))))
    refine dE 4 0 (sl 1 rE_ []) rfl rfl bT ?_
    refine dE 4 1 (sl 2 sE []) rfl rfl bT ?_
    have hr0: []=((jK l ls).1).aC:=by
     rw[hbad]
    have hr1: []=((jK l ls).1).sT:=by
     rw[hbad]
    have hr2:(2:Int)=((jK l ls).2):=by
     rw[hbad]
    exact rE () [.cell 4 25,.tmp 5] J [agg [sl 1 rE_ [],sl 2 sE []],int 2] ⟨.agg J J T.aD J J,.tmp J,tV⟩ (cA3 (fun x0 x1 x2=>rV [agg [sl 1 rE_ x0,sl 2 sE x1],int x2]) hr0 hr1 hr2) trivial eX
   ·skip
    refine sk (eb (th (rg (bi J J (aK i6) (mv (nl ?_))))))
    have hN0:(k+1)≤ls.length:=by
     first|omega|simp_all
    have hN1:((bB D (ix ls k)).1)=rJ l ls (k+1)∧sF l ls (k+1):=by
     refine⟨by rw[hD];rfl,fun j hj=> ?_⟩
     by_cases e:j=k
     ·subst e;rw[←hD];simpa using hc2
     ·exact hok j O
    exact ln (⟨k+1,(bB D (ix ls k)).1⟩:Nat × SS) ⟨hN0,hN1⟩ dO ⟨id,id,id,id,id,id,tV⟩ ⟨rI,rI,rI,tV⟩
  ·try simp at hc1
   refine ex (xt_ (xt_ (xb (th (sq (rg (lPA J J T.aD J (sPA (cs':= [sl 1 rE_ D.aC,sl 2 sE D.sT]) J J J T.aD J J (ag (nl (th (rt ?_))))))))))))
   have hr0:D.aC=((jK l ls).1).aC:=by
    rw[HV hle O hD hok]
   have hr1:D.sT=((jK l ls).1).sT:=by
    rw[HV hle O hD hok]
   have hr2:(0:Int)=((jK l ls).2):=by
    rw[HV hle O hD hok]
   exact rE () [.cell 4 25,.tmp 5] J [agg [sl 1 rE_ D.aC,sl 2 sE D.sT],int 0] ⟨.agg J J T.aD J J,.tmp J,tV⟩ (cA3 (fun x0 x1 x2=>rV [agg [sl 1 rE_ x0,sl 2 sE x1],int x2]) hr0 hr1 hr2) trivial eX
end prods
end
section
open ref01 ref03 ref04 ref06 prog prog2 prog6 Itoa LawOpen
open Go.ChangeShapes Go.WideShapes Go.ChangeAt Go.WideElems Go.RowKit
namespace LawS
section
variable {H:Type} {enc:TypeId × Value→H} {W:World}
attribute [local semireducible] agg in
theorem wM {m:Nat} {cs:List Value} {y:DataW H × List MemPlace} (h:DataW.trod enc Tryz.prog W 0 (fun _=>true) true m 25 cs=some y) (hz:∀k∈y.1.weights Tryz.prog 25,k≤reachBytes) (hl:cs.length=2):
 ∃s:SS,All2 W (mH W) (lM s) cs∧bK s:=by
 obtain⟨y0,y1,n,hx,_,h0,h1⟩:=trod_struct2 Tryz.underlying25 h
 subst hx
 have hz:∀k∈y0.1.weights Tryz.prog 22++(y1.1.weights Tryz.prog 23++ []),k≤reachBytes:=by
  have e:(DataW.agg [y0.1,y1.1]:DataW H).weights Tryz.prog 25=y0.1.weights Tryz.prog 22++(y1.1.weights Tryz.prog 23++ []):=by
   rw[uP Tryz.underlying25]
   simp[DataW.weightsEach]
  rw[←e];exact hz
 have cS:Tryz.prog.cellsOf 22=1:=by kernel_rfl
 have cT:Tryz.prog.cellsOf 23=1:=by kernel_rfl
 have c9:Tryz.prog.cellsOf 9=1:=by kernel_rfl
 have b9:1≤Tryz.prog.bytesOf 9:=by have:Tryz.prog.bytesOf 9=16:=kR;omega
 have c69:Tryz.prog.cellsOf 81=2:=by kernel_rfl
 have b69:1≤Tryz.prog.bytesOf 81:=by have:Tryz.prog.bytesOf 81=48:=kR;omega
 match cs,hl with
 | [v0,v1],_=>
   have h0:DataW.trod enc Tryz.prog W 0 (fun _=>true) true n 22 (([v0,v1].drop 0).take (Tryz.prog.cellsOf 22))=some y0:=h0
   have h1:DataW.trod enc Tryz.prog W 0 (fun _=>true) true n 23 (([v0,v1].drop 1).take (Tryz.prog.cellsOf 23))=some y1:=h1
   rw[cS] at h0
   rw[cT] at h1
   obtain⟨al,g1⟩:=CO Tryz.underlying22 Tryz.underlying9 c9 b9 h0 (fun k hk=>hz k (List.mem_append.2 (.inl hk)))
   obtain⟨xs,g2,g3⟩:=tH (n:=2) (E:=sE) Tryz.underlying23 c69 (by decide) b69 h1 (fun k hk=>hz k (List.mem_append.2 (.inr (List.mem_append.2 (.inl hk))))) (fun x=> ∀t∈x.aP,t<2^63) (fun m cs y hy hw hl=>IE hy hw hl)
   refine⟨⟨al,xs⟩,⟨g1,g2,tV⟩,fun k hk i hi=> ?_⟩
   have hk:k<xs.length:=hk
   have hi:i<(ix xs k).aP.length:=hi
   exact g3 (ix xs k) (Rungs.aZ hk) _ (Rungs.gA hi)
end
end LawS
end
section
open ref01 ref03 ref04 ref06 prog prog2 prog6 Itoa LawOpen
open Go.ChangeShapes Go.WideShapes Go.ChangeAt Go.WideElems Go.RowKit
namespace LawT
theorem HX {P:Program} {w:World} {r:Reach} {base:Nat} {t:TypeId} {v:Value} {n:Nat} {e:TypeId} (ht:P.underlying t=some (.array n e)) (h:Value.okWide P w r base t v):∃cs,v= .agg cs∧cs.size=P.cellsOf t:=by
 simp only [Value.okWide,ht] at h
 obtain⟨cs,h1,h2,_⟩:=h
 exact⟨cs,h1,h2⟩
section
variable {H:Type} {enc:TypeId × Value→H} {W:World}
theorem Xy {cs:Array Value} (h:cs.size=6):∃a b c d e f,cs= #[a,b,c,d,e,f]:=by
 obtain⟨l⟩:=cs
 match l,h with
 | [a,b,c,d,e,f],_=>exact⟨a,b,c,d,e,f,rfl⟩
attribute [local semireducible] agg in
theorem IP {r:Reach} {b0:Nat} {v:Value} {d:DataW H} {p:List MemPlace} (hv:Value.okWide Tryz.prog W r b0 61 v) (h:DataW.Trod enc Tryz.prog W 0 (fun _=>true) true 61 v d p) (hz:∀k∈d.weights Tryz.prog 61,k≤reachBytes):
 ∃t s u:SS,(agg [strs t.aC,sl 2 sE t.sT,strs s.aC,sl 2 sE s.sT,strs u.aC,sl 2 sE u.sT]).p W (mH W) v∧bK t∧bK s∧bK u:=by
 have hu:Tryz.prog.underlying 61=some (.array 3 25):=Tryz.underlying61
 obtain⟨cs,rfl,hsz⟩:=HX hu hv
 obtain⟨c0,c1,c2,c3,c4,c5,rfl⟩:=Xy (hsz.trans (by kernel_rfl:Tryz.prog.cellsOf 61=6))
 obtain⟨fuel,hf⟩:=h
 obtain⟨xs,m,_,hx,_,hl,hel⟩:=DataW.trod_array hu hf
 match xs,hl with
 | [y0,y1,y2],_=>
   have cS:Tryz.prog.cellsOf 25=2:=by kernel_rfl
   have h0:=hel 0 O
   have h1:=hel 1 O
   have h2:=hel 2 O
   rw[cS] at h0 h1 h2
   have h0:DataW.trod enc Tryz.prog W 0 (fun _=>true) true m 25 [c0,c1]=some y0:=h0
   have h1:DataW.trod enc Tryz.prog W 0 (fun _=>true) true m 25 [c2,c3]=some y1:=h1
   have h2:DataW.trod enc Tryz.prog W 0 (fun _=>true) true m 25 [c4,c5]=some y2:=h2
   simp only [Prod.mk.injEq] at hx
   obtain⟨rfl,_⟩:=hx
   have hz:∀k∈y0.1.weights Tryz.prog 25++(y1.1.weights Tryz.prog 25++(y2.1.weights Tryz.prog 25++ [])),k≤reachBytes:=by
     have e:(DataW.agg [y0.1,y1.1,y2.1]:DataW H).weights Tryz.prog 61=y0.1.weights Tryz.prog 25++(y1.1.weights Tryz.prog 25++(y2.1.weights Tryz.prog 25++ [])):=by
      simp[DataW.weights,hu,DataW.weightsAll]
     rw[←e];exact hz
   obtain⟨t,⟨t1,t2,_⟩,t3⟩:=LawS.wM h0 (fun k hk=>hz k (List.mem_append.2 (.inl hk))) rfl
   obtain⟨s,⟨s1,s2,_⟩,s3⟩:=LawS.wM h1 (fun k hk=>hz k (List.mem_append.2 (.inr (List.mem_append.2 (.inl hk))))) rfl
   obtain⟨u,⟨u1,u2,_⟩,u3⟩:=LawS.wM h2 (fun k hk=>hz k (List.mem_append.2 (.inr (List.mem_append.2 (.inr (List.mem_append.2 (.inl hk))))))) rfl
   exact⟨t,s,u,⟨[c0,c1,c2,c3,c4,c5],rfl,t1,t2,s1,s2,u1,u2,tV⟩,t3,s3,u3⟩
end
end LawT
end
section
open ref01 ref03 ref04 ref06 prog prog2 prog3 prog6 prog13 prog15 starts search Part Rungs LeftM TrimM RoundM BisM BisM5 BisM6 WalkM StepM WitM JudgM refw judg wit sysw
def qC:WalkM.Mt→List AV:=fun m=> [int m.before,int m.action,int m.s,int m.t]
instance (m:WalkM.Mt):OneAll (qC m):=inferInstanceAs (OneAll [int m.before,int m.action,int m.s,int m.t])
noncomputable def cO (m:aI) (s:SS):Int:=if eV m=true then(if aX s=true then(if m.aC=s.aC then 0 else 10) else 30) else 20
theorem NU {m:aI} {s:SS} (h:cO m s=0):eV m=true∧aX s=true∧m.aC=s.aC:=by
 unfold cO at h
 split at h
 ·next g1=>
  split at h
  ·next g2=>
   split at h
   ·next g3=>exact⟨g1,g2,g3⟩
   ·exact absurd h (by decide)
  ·exact absurd h (by decide)
 ·exact absurd h (by decide)
abbrev VO (v:VJ):AV:=agg [bl v.holds,sl 2 pE v.pairs,ints v.word,int v.state]
structure Fs (m:aI) (s:SS) (v:VJ):Prop where
 ok:cO m s=0→Dx m s v
 no:cO m s≠0→v=⟨false,[],[],0⟩
theorem VP {m:aI} {t:SS} (hm:dJ m) (ht:oK t) {q:List WalkM.Mt} (h:QJ m t q):∀p∈q.map cZ,bdP p:=by
 intro p hp
 obtain⟨x,hx,rfl⟩:=List.mem_map.1 hp
 have:=h.bd x hx
 have h1:=hm.few1
 have h2:=ht.few1
 unfold bdP cZ
 dsimp only
 omega
namespace T
theorem HY:pL Tryz.prog 176 84 4 dL fB:=Qd Tryz.underlying176 Tryz.underlying84 kR (by decide+kernel) kR kR ⟨Tryz.underlying3,by kernel_rfl⟩ kR
theorem wN:IsSlice Tryz.prog 181 180 4:=dW kR
theorem Bz:cW Tryz.prog 180 0 0:=cB kR
theorem HZ:cW Tryz.prog 178 0 0:=cB kR
theorem Qv:cW Tryz.prog 178 1 1:=cB kR
theorem VQ:Ent Tryz.prog 138:=aG kR
theorem z69:dM Tryz.prog 69 [.bool false,.slice none 0 0,.slice none 0 0,.int .i64 0]:=cC kR
theorem RD:fW Tryz.prog 178 [(0,1),(1,1)] [.int .i64 0,.int .i64 0]:=fI kR kR
theorem RE:fW Tryz.prog 180 [(0,2),(2,2)] [.int .i64 0,.int .i64 0,.int .i64 0,.int .i64 0]:=fI kR kR
theorem Lr:eG Tryz.prog 181 180 4 32 [.int .i64 0,.int .i64 0,.int .i64 0,.int .i64 0]:=fU kR kR
theorem Ia:cW Tryz.prog 180 1 2:=cB kR
theorem RF:Ent Tryz.prog 85:=aG kR
theorem VS:Ent Tryz.prog 142:=aG kR
theorem Qw:fW Tryz.prog 69 [(0,1),(1,1),(2,1),(3,1)] [.bool false,.slice none 0 0,.slice none 0 0,.int .i64 0]:=fI kR kR
theorem pK:fH Tryz.prog 69 4:=fT kR
theorem NV:fH Tryz.prog 180 4:=fT kR
theorem Xz:dM Tryz.prog 180 [.int .i64 0,.int .i64 0,.int .i64 0,.int .i64 0]:=cC kR
theorem DP:cW Tryz.prog 69 1 1:=cB kR
theorem VT:Ent Tryz.prog 143:=aG kR
theorem RG:Ent Tryz.prog 83:=aG kR
theorem WR:Ent Tryz.prog 95:=aG kR
end T
namespace satj
theorem Ty (q:List WalkM.Mt) (hb:tE q) (i:Nat) (hi:i<q.length) (hq:q.length≤1000000000:=by omega):
 Fn0 Tryz.prog 142 [sl 4 qC q,int (i:Int)] (ints (eD q i)):=by
 refine fnI Tryz.func142 rfl rfl (fun w0 F0=> ?_)
 refine fcC (aL 0 J) (fun hm0=> ?_)
 refine sq (rg (ag (nl (th (sq (rg (nw 5 3 1 nE (ag (rtg (key:=5) 5 J (nl (th (sq (bk ?_)))))))))))))
 have hI0_0:0≤(i:Int)∧(i:Int)<(q.length:Int)∧([]:List Int)++upF q (i+1) (i:Int).toNat=upF q (i+1) i∧(i:Int).toNat<(i+1)∧([]:List Int).length+(i:Int).toNat≤i:=by
  exact⟨O,O,by rw[Int.toNat_natCast];rfl,O,by simp⟩
 refine lp (κ:=Nat × Int × Value × (List Int)) (fun p=> [(0,sl 4 qC q),(1,int p.2.1),(4,eqv (.slice none 0 0)),(5,osl 5 p.2.2.1)]) (fun p=> [(5,own p.2.2.1 3 1 nE p.2.2.2)]) (fun p=>0≤p.2.1∧p.2.1<(q.length:Int)∧p.2.2.2++upF q p.1 p.2.1.toNat=upF q (i+1) i∧p.2.1.toNat<p.1∧p.2.2.2.length+p.2.1.toNat≤i) (fun p=>p.2.1.toNat) ⟨i+1,(i:Int),(.slice none 0 0),([]:List Int)⟩ hI0_0 ⟨id,id,id,id,tV⟩ ⟨rI,tV⟩ ?_
 intro⟨n,j,v5,out⟩ hG0
 obtain⟨hj0,hjl,hou,hjn,hol⟩:0≤j∧j<(q.length:Int)∧out++upF q n j.toNat=upF q (i+1) i∧j.toNat<n∧out.length+j.toNat≤i:=hG0
 show Ct _ _ _ _ [(0,sl 4 qC q),(1,int j),(4,eqv (.slice none 0 0)),(5,osl 5 v5)] [(5,own v5 3 1 nE out)] _
 have hbk:=hb j.toNat O
 refine sq (sq (rg (mv (mv (iF J J T.wN O gB (fF J T.Bz (fF J T.HZ (lF J J T.aF (bi J J eT (nl (th ?_)))))))))))
 refine cd J (fun hc0=> ?_) (fun hc0=> ?_)
 ·try simp at hc0
  refine sk (th (sq (bk (rg (mv (mv (mv (iF J J T.wN O gB (fF J T.Bz (fF J T.Qv (lF J J T.aF (bsE (enc:=nE) (xs:= [(ix q j.toNat).action]) (css:= [[int (ix q j.toNat).action]]) T.cE ⟨J,J,p1 (φ:=int (ix q j.toNat).action) J,tV⟩ J J J J (ap (key:=5) (zs:= [(ix q j.toNat).action]) cH J J J T.cE (by unfold aU at*;simp;omega) (by unfold aU at*;simp;omega) fun v27=>(ag (nl (eb (th (rg (mv (mv (iF J J T.wN O gB (fF J T.Bz (fF J T.HZ (lF J J T.aF (ag (nl ?_))))))))))))))))))))))))))
  have hN0:0≤(ix q j.toNat).before∧(ix q j.toNat).before<(q.length:Int)∧(out++ [(ix q j.toNat).action])++upF q (n- 1) (ix q j.toNat).before.toNat=upF q (i+1) i∧(ix q j.toNat).before.toNat<(n- 1)∧(out++ [(ix q j.toNat).action]).length+(ix q j.toNat).before.toNat≤i:=by
   have hbk2:=hbk hc0
   exact⟨hc0,O,MJ hou hjn hc0,O,by simp;omega⟩
  exact ln (⟨n- 1,(ix q j.toNat).before,v27,out++ [(ix q j.toNat).action]⟩:Nat × Int × Value × (List Int)) hN0 (by have hbk2:=hbk hc0;show(ix q j.toNat).before.toNat<j.toNat;omega) ⟨id,id,id,id,tV⟩ ⟨rI,tV⟩
 ·try simp at hc0
  refine ex (xt_ (xt_ (xb (th (sq (rg (mv (cal (Hi:= [(5,own v5 3 1 nE out)]) (φs:= [osl 5 v5]) ⟨J,tV⟩ (judg.CG v5 out O) T.MK ⟨rI,tV⟩ fun _ _=>(nl (th (sq (rg (mv (ag (nl (th (rt ?_)))))))))))))))))
  refine fzA 5 4 rfl rfl ?_
  have hr0:out.reverse=(eD q i):=by
   rw[Jh hou hjn O];rfl
  exact rE () [.tmp 4] J [sl 1 nE out.reverse] ⟨.tmp J,tV⟩ (cA1 (fun x0=>rV [sl 1 nE x0]) hr0) trivial eX
theorem mS (m:aI) (s:SS) (hs:bK s):
 Fn0 Tryz.prog 83 [sys m,spec s] (int (cO m s)):=by
 refine fnI Tryz.func83 rfl rfl (fun w0 F0=> ?_)
 refine fcC (bO 0 J) (fun hS0=> ?_)
 obtain⟨hma0,hms0,hme0⟩:=eI hS0
 refine fcC (bO 1 J) (fun hS1=> ?_)
 obtain⟨hsa1,hss1,hse1⟩:=sLn hS1
 refine sq (rg (bx (key:=2) (cs:= [sl 1 rE_ m.aC,sl 1 gE m.sT]) J fun b2=>(bx (key:=3) (cs:= [sl 1 rE_ s.aC,sl 2 sE s.sT]) J fun b3=>(ag (nl (th (sq (bk (sq (rg (lPA J J T.cD J (aO (φs:= [agg [sl 1 rE_ m.aC,sl 1 gE m.sT]]) (φ:=bl (eV m)) ⟨J,tV⟩ (sysw.nP m) T.VQ (no J (ag (nl (th ?_))))))))))))))))
 refine cd J (fun hc0=> ?_) (fun hc0=> ?_)
 ·try simp at hc0
  refine sq (rg (ag (nl (th (rt (rb (rt_ ?_)))))))
  have hr0:(20:Int)=(cO m s):=by
   unfold cO;rw[if_neg (by simp[hc0])]
  exact rE () [.tmp 4] J [int 20] ⟨.tmp J,tV⟩ (cA1 (fun x0=>rV [int x0]) hr0) trivial eX
 ·try simp at hc0
  refine sq (rg (lPA J J T.aD J (aO (φs:= [agg [sl 1 rE_ s.aC,sl 2 sE s.sT]]) (φ:=bl (aX s)) ⟨J,tV⟩ (prog2.nP s aS) T.xZ (no J (ag (nl (th ?_)))))))
  refine cd J (fun hc1=> ?_) (fun hc1=> ?_)
  ·try simp at hc1
   refine sq (rg (ag (nl (th (rt (rb (rt_ ?_)))))))
   have hr0:(30:Int)=(cO m s):=by
    unfold cO;rw[if_pos (by simpa using hc0),if_neg (by simp[hc1])]
   exact rE () [.tmp 4] J [int 30] ⟨.tmp J,tV⟩ (cA1 (fun x0=>rV [int x0]) hr0) trivial eX
  ·try simp at hc1
   refine sq (rg (fP J T.mW (lP J J J T.cV (fP J T.cR (lP J J J T.cV (aO (φs:= [sl 1 rE_ m.aC,sl 1 rE_ s.aC]) (φ:=bl (decide (m.aC=s.aC))) ⟨J,J,tV⟩ (prog.rG _ _) T.GG (no J (ag (nl (th ?_))))))))))
   refine cd J (fun hc2=> ?_) (fun hc2=> ?_)
   ·try simp at hc2
    refine sq (rg (ag (nl (th (rt (rb (rt_ ?_)))))))
    have hr0:(10:Int)=(cO m s):=by
     unfold cO;rw[if_pos (by simpa using hc0),if_pos (by simpa using hc1),if_neg hc2]
    exact rE () [.tmp 4] J [int 10] ⟨.tmp J,tV⟩ (cA1 (fun x0=>rV [int x0]) hr0) trivial eX
   ·try simp at hc2
    refine sk (eb (th (sq (rg (ag (nl (th (rt ?_))))))))
    have hr0:(0:Int)=(cO m s):=by
     unfold cO;rw[if_pos (by simpa using hc0),if_pos (by simpa using hc1),if_pos hc2]
    exact rE () [.tmp 4] J [int 0] ⟨.tmp J,tV⟩ (cA1 (fun x0=>rV [int x0]) hr0) trivial eX
theorem tJ (m:aI) (hm:dJ m) (s:SS) (hs:oK s):
 AL.Fn Tryz.prog 95 [sys m,spec s] [] (ι:= { v:VJ//Dx m s v }) (fun _ i=>VO i.1) (fun _=> []):=by
 refine fnI Tryz.func95 rfl rfl (fun w0 F0=> ?_)
 have f1:=hm.few1;have f2:=hs.few1;have f3:=hs.n8;have f4:=hm.n8;have g0:=hm.few0;have g1:=hs.few0;have hmm:m.sT.length*s.sT.length≤10000*10000:=Nat.mul_le_mul f1 f2
 refine fcC (bO 0 J) (fun hS0=> ?_)
 obtain⟨hma0,hms0,hme0⟩:=eI hS0
 refine fcC (bO 1 J) (fun hS1=> ?_)
 obtain⟨hsa1,hss1,hse1⟩:=sLn hS1
 refine sq (rg (bx (key:=2) (cs:= [sl 1 rE_ m.aC,sl 1 gE m.sT]) J fun b2=>(bx (key:=3) (cs:= [sl 1 rE_ s.aC,sl 2 sE s.sT]) J fun b3=>(al (key:=4) T.z69 (eC (eC (eC (eC eZ)))) fun b4=>(nl (th (sq (rg (mkm (key:=16) (kE:=dL) (dom:=fB) (vE:=blV) fun b16=>(bd (css:= [(0,_),(1,_)]) T.sW (eC (eC eZ)) ⟨J,J,p1 (φ:=int 0) J,⟨J,J,p1 (φ:=int 0) J,tV⟩⟩ (AL.insert (q:=(0,0)) (u:=true) J J lH J T.HY ⟨⟨O,O⟩,⟨O,O⟩⟩ (mv (ag (nl (th (sq (rg (bd (css:= [(0,_)]) T.RD (eC (eC eZ)) ⟨J,J,p1 (φ:=int (-1)) J,tV⟩ (bd (css:= [(0,_)]) T.RE (eC (eC (eC (eC eZ)))) ⟨J,J,pA (cs:= [int (-1),int 0]) J,tV⟩ (bsO 21 (enc:=qC) (xs:= [⟨0,0,(-1),0⟩]) (css:= [[int (-1),int 0,int 0,int 0]]) T.Lr ⟨J,J,pA (cs:= [int (-1),int 0,int 0,int 0]) J,tV⟩ J J J J fun v21=>(ag (nl (th (sq (sq (rg (ag (nl (th (bk ?_))))))))))))))))))))))))))))))
 have hI0_0:QJ m s ([⟨0,0,(-1),0⟩]:List WalkM.Mt)∧mF (dI ([]:List ((Int × Int) × Bool)) (0,0) true) ([⟨0,0,(-1),0⟩]:List WalkM.Mt)∧0≤([⟨0,0,(-1),0⟩]:List WalkM.Mt).length∧∀k,k<0→lY m s ([⟨0,0,(-1),0⟩]:List WalkM.Mt) k:=by
  exact⟨SI hm hs,Es,by simp,fun k hk=>absurd hk O⟩
 refine lp (κ:=Nat × Value × (List WalkM.Mt) × (List ((Int × Int) × Bool))) (fun p=> [(2,ptr 2 b2 0),(3,ptr 3 b3 0),(4,ptr 4 b4 0),(5,mpv 16 b16),(6,osl 21 p.2.1),(7,int (p.1:Int))]) (fun p=> [(2,cell b2 [sl 1 rE_ m.aC,sl 1 gE m.sT]),(3,cell b3 [sl 1 rE_ s.aC,sl 2 sE s.sT]),(4,cell b4 [bl false,eqv (.slice none 0 0),eqv (.slice none 0 0),int 0]),(16,mp b16 dL fB blV p.2.2.2),(21,own p.2.1 180 4 qC p.2.2.1)]) (fun p=>QJ m s p.2.2.1∧mF p.2.2.2 p.2.2.1∧p.1≤p.2.2.1.length∧∀k,k<p.1→lY m s p.2.2.1 k) (fun p=>m.sT.length*s.sT.length- p.1) ⟨0,v21,([⟨0,0,(-1),0⟩]:List WalkM.Mt),dI ([]:List ((Int × Int) × Bool)) (0,0) true⟩ hI0_0 ⟨id,id,id,id,id,id,tV⟩ ⟨rI,rI,rI,rI,rI,tV⟩ ?_
 intro⟨i,v,q,mm⟩ hG0
 obtain⟨hq,hsm,hil,hdone⟩:QJ m s q∧mF mm q∧i≤q.length∧∀k,k<i→lY m s q k:=hG0
 show Ct _ _ _ _ [(2,ptr 2 b2 0),(3,ptr 3 b3 0),(4,ptr 4 b4 0),(5,mpv 16 b16),(6,osl 21 v),(7,int (i:Int))] [(2,cell b2 [sl 1 rE_ m.aC,sl 1 gE m.sT]),(3,cell b3 [sl 1 rE_ s.aC,sl 2 sE s.sT]),(4,cell b4 [bl false,eqv (.slice none 0 0),eqv (.slice none 0 0),int 0]),(16,mp b16 dL fB blV mm),(21,own v 180 4 qC q)] _
 have hql:=MV hq
 refine sq (sq (rg (mv (mv (lnO J J T.wN (bi J J aN (nl (th ?_))))))))
 refine cd J (fun hc0=> ?_) (fun hc0=> ?_)
 ·try simp at hc0
  have hbd:=hq.bd _ (aZ hc0)
  have hsy:=hs.st (ix q i).t.toNat O
  have hyl:=hsy.len
  have hoff:∀e∈(ix m.sT (ix q i).s.toNat),0≤e.1∧e.1<8:=fun e he=>by have:=hm.ed (ix q i).s.toNat O e he;omega
  refine sk (th (sq (bk (sq (rg (mv (mv (iO J J J T.wN O O (fO J T.Ia (lOA J J gB T.eY (by decide) (al (key:=8) T.z84 (eC (eC eZ)) fun b8=>(sPA (cs':= [int (ix q i).s,int (ix q i).t]) J J J T.eY J J (nl (th (sq (rg (fP J T.aY (lP J J J T.bI (iPA J J T.fA T.aF J (lP J J J T.aF (iF J J T.bU O gB (lFA J T.cP (Nat.le_of_ble_eq_true J) (al (key:=9) T.z81 (eC (eC eZ)) fun b9=>(sPA (cs':= [sl 1 nE (ix s.sT (ix q i).t.toNat).aP,sl 1 nE (ix s.sT (ix q i).t.toNat).next]) J J J T.cP J J (nl (th (sq (sq (dr (nh:=10) [0,0,2,0,8,30,62,126,255,511] T.mixed kR ?_)))))))))))))))))))))))))))))
  refine st_ J (fun _ _ _ gq kq=>lPA (gq.1.trans J) J T.cP J kq) ?_
  refine st_ J (fun _ _ _ gq kq=>fP (gq.1.trans J) T.dS kq) ?_
  refine st_ J (fun _ _ _ gq kq=>lP (gq.1.trans J) J J T.gH kq) ?_
  refine st_ J (fun _ _ _ gq kq=>iPA (gq.1.trans J) J T.fA T.aF J kq) ?_
  refine st_ J (fun _ _ _ gq kq=>lP (gq.1.trans J) J J T.aF kq) ?_
  refine st_ J (fun _ _ _ gq kq=>iF (gq.1.trans J) (gq.2.1.trans J) T.jN O gB kq) ?_
  refine st_ J (fun _ _ _ gq kq=>lF (gq.1.trans J) J T.iL kq) ?_
  refine st_ J (fun _ _ _ gq kq=>aO (φs:= [sl 2 pE (ix m.sT (ix q i).s.toNat)]) (φ:=int (iC (ix m.sT (ix q i).s.toNat))) ⟨(gq.1.trans J),tV⟩ (sysw.EB (ix m.sT (ix q i).s.toNat) aS) T.RF kq) ?_
  refine st_ J (fun _ _ _ gq kq=>aO (φs:= [agg [sl 1 nE (ix s.sT (ix q i).t.toNat).aP,sl 1 nE (ix s.sT (ix q i).t.toNat).next],int (iC (ix m.sT (ix q i).s.toNat))]) (φ:=bl (decide ((iC (ix m.sT (ix q i).s.toNat))∈(ix s.sT (ix q i).t.toNat).aP))) ⟨(gq.1.trans J),(gq.2.1.trans J),tV⟩ (search.oZ (ix s.sT (ix q i).t.toNat) (hs.st _ O).rise (iC (ix m.sT (ix q i).s.toNat))) T.Gs kq) ?_
  refine st_ J (fun _ _ _ gq kq=>no (gq.1.trans J) kq) ?_
  refine pn (nl (th ?_))
  refine cd J (fun hc1=> ?_) (fun hc1=> ?_)
  ·try simp at hc1
   have hnacc:cJ m (ix q i).s.toNat∉acc s (ix q i).t.toNat:=by simpa using hc1
   refine sq (fzC 21 6 J J (dr (nh:=6) [0,0,3,0,8,31,63] T.mixed kR ?_))
   refine st_ J (fun _ _ _ gq kq=>mv' (gq.1.trans J) kq) ?_
   refine st_ J (fun _ _ _ gq kq=>mv' (gq.1.trans J) kq) ?_
   refine st_ J (fun _ _ _ gq kq=>aO (φs:= [sl 4 qC q,int (i:Int)]) (φ:=sl 1 nE (eD q i)) ⟨(gq.1.trans J),(gq.2.1.trans J),tV⟩ (satj.Ty q (SK hq) i O) T.VS kq) ?_
   refine st_ J (fun _ _ _ gq kq=>iPA (gq.1.trans J) J T.fA T.aF J kq) ?_
   refine st_ J (fun _ _ _ gq kq=>lP (gq.1.trans J) J J T.aF kq) ?_
   refine st_ J (fun _ _ _ gq kq=>bd (css:= [(2,_),(3,_)]) T.Qw (eC (eC (eC (eC eZ)))) ⟨J,J,p1 (φ:=sl 1 nE (eD q i)) (by exact(gq.1.trans J)),⟨J,J,p1 (φ:=int (ix q i).s) (by exact(gq.2.1.trans J)),tV⟩⟩ kq) ?_
   refine pn (sPA (cs':= [bl false,eqv (.slice none 0 0),sl 1 nE (eD q i),int (ix q i).s]) J J J T.pK J J (nl (th (rt (rt_ (rb (rt_ (rt_ (rb (rt_ ?_))))))))))
   refine dE 4 1 (sl 2 pE []) rfl rfl bT ?_
   exact rE ⟨⟨false,[],eD q i,(ix q i).s⟩,⟨fun h=>(nomatch (show false=true from h)),fun _=>⟨Va hq hc0 hnacc,J,q,i,hq,hc0,J,J,hdone,hnacc⟩⟩⟩ [.cell 4 69] J [agg [bl false,sl 2 pE [],sl 1 nE (eD q i),int (ix q i).s]] ⟨.agg J J T.pK J J,tV⟩ J trivial eX
  ·try simp at hc1
   have hacc:cJ m (ix q i).s.toNat∈acc s (ix q i).t.toNat:=by simpa using hc1
   refine sk (th (sq (rg (fP J T.dS (lP J J J T.gH (iPA J J T.fA T.aF J (lP J J J T.aF (iF J J T.jN O gB (lF J J T.iL (fc (aL 60 J) fun hm60=>(lnF J T.iE (mv (nl (th (bk ?_)))))))))))))))
   have hI1_0:0≤(ix m.sT (ix q i).s.toNat).length:=by
    first|omega|simp
   have hI1_1:tI m s q i 0 q mm:=by
    exact MW hq hsm hdone
   refine lp (κ:=Nat × Value × (List WalkM.Mt) × (List ((Int × Int) × Bool))) (fun p=> [(2,ptr 2 b2 0),(3,ptr 3 b3 0),(4,ptr 4 b4 0),(5,mpv 16 b16),(6,osl 21 p.2.1),(7,int (i:Int)),(9,ptr 9 b9 0),(60,sl 2 pE (ix m.sT (ix q i).s.toNat)),(61,int ((ix m.sT (ix q i).s.toNat).length:Int)),(62,int (p.1:Int))]) (fun p=> [(2,cell b2 [sl 1 rE_ m.aC,sl 1 gE m.sT]),(3,cell b3 [sl 1 rE_ s.aC,sl 2 sE s.sT]),(4,cell b4 [bl false,eqv (.slice none 0 0),eqv (.slice none 0 0),int 0]),(8,cell b8 [int (ix q i).s,int (ix q i).t]),(9,cell b9 [sl 1 nE (ix s.sT (ix q i).t.toNat).aP,sl 1 nE (ix s.sT (ix q i).t.toNat).next]),(16,mp b16 dL fB blV p.2.2.2),(21,own p.2.1 180 4 qC p.2.2.1)]) (fun p=>(p.1≤(ix m.sT (ix q i).s.toNat).length)∧(tI m s q i p.1 p.2.2.1 p.2.2.2)) (fun p=>(ix m.sT (ix q i).s.toNat).length- p.1) ⟨0,v,q,mm⟩ ⟨hI1_0,hI1_1⟩ ⟨id,id,id,id,id,id,id,id,id,id,tV⟩ ⟨rI,rI,rI,rI,rI,rI,rI,tV⟩ ?_
   intro⟨k1,v2,q2,mm2⟩ hG1
   obtain⟨hk1,hI1⟩:(k1≤(ix m.sT (ix q i).s.toNat).length)∧(tI m s q i k1 q2 mm2):=hG1
   show Ct _ _ _ _ [(2,ptr 2 b2 0),(3,ptr 3 b3 0),(4,ptr 4 b4 0),(5,mpv 16 b16),(6,osl 21 v2),(7,int (i:Int)),(9,ptr 9 b9 0),(60,sl 2 pE (ix m.sT (ix q i).s.toNat)),(61,int ((ix m.sT (ix q i).s.toNat).length:Int)),(62,int (k1:Int))] [(2,cell b2 [sl 1 rE_ m.aC,sl 1 gE m.sT]),(3,cell b3 [sl 1 rE_ s.aC,sl 2 sE s.sT]),(4,cell b4 [bl false,eqv (.slice none 0 0),eqv (.slice none 0 0),int 0]),(8,cell b8 [int (ix q i).s,int (ix q i).t]),(9,cell b9 [sl 1 nE (ix s.sT (ix q i).t.toNat).aP,sl 1 nE (ix s.sT (ix q i).t.toNat).next]),(16,mp b16 dL fB blV mm2),(21,own v2 180 4 qC q2)] _
   have hq2l:=MV hI1.qi
   refine sq (rg (bi J J aN (nl (th (sq ?_)))))
   refine cd J (fun hc2=> ?_) (fun hc2=> ?_)
   ·try simp at hc2
    have hek:=hm.ed (ix q i).s.toNat O _ (aZ hc2)
    have hgo:=pX hm hs (x:=(ix q i).s.toNat) (y:=(ix q i).t.toNat) O O hacc (aZ hc2)
    obtain⟨hgo1,hgo2,hgo3⟩:=hgo
    dsimp only [nxt,edg] at hgo1 hgo2 hgo3 hek
    refine sk (th (sq (bk (sq (rg (iF J J T.iE O gB (lFA J T.gC (Nat.le_of_ble_eq_true J) (al (key:=11) T.yC (eC (eC eZ)) fun b11=>(sPA (cs':= [int ((ix (ix m.sT (ix q i).s.toNat) k1).1),int ((ix (ix m.sT (ix q i).s.toNat) k1).2)]) J J J T.gC J J (nl (th (sq ?_))))))))))))
    refine drH (nh:=11) [0,1,0,4,0,16,60,124,255,0,1023] [(none,[]),(none,[11]),(none,[]),(none,[9]),(none,[]),(none,[11]),(none,[]),(none,[]),(none,[]),(some 12,[]),(some 12,[12])] T.mixed kR kR ?_
    refine stv (d:=66) (fun β0=>ptr 11 b11 1) [] J bH (fun β0 _ _ _ _ gq gh kq=>fP (gq.1.trans J) T.iW kq) ?_
    refine stv (d:=67) (fun β0=>int ((ix (ix m.sT (ix q i).s.toNat) k1).2)) [11] J bH (fun β0 _ _ _ _ gq gh kq=>lP (gq.1.trans J) (gh.1.trans J) J T.aF kq) ?_
    refine stv (d:=68) (fun β0=>ptr 9 b9 1) [] J bH (fun β0 _ _ _ _ gq gh kq=>fP (gq.1.trans J) T.bQ kq) ?_
    refine stv (d:=69) (fun β0=>sl 1 nE (ix s.sT (ix q i).t.toNat).next) [9] J bH (fun β0 _ _ _ _ gq gh kq=>lP (gq.1.trans J) (gh.1.trans J) J T.aV kq) ?_
    refine stv (d:=70) (fun β0=>ptr 11 b11 0) [] J bH (fun β0 _ _ _ _ gq gh kq=>fP (gq.1.trans J) T.eJ kq) ?_
    refine stv (d:=71) (fun β0=>int ((ix (ix m.sT (ix q i).s.toNat) k1).1)) [11] J bH (fun β0 _ _ _ _ gq gh kq=>lP (gq.1.trans J) (gh.1.trans J) J T.aF kq) ?_
    refine stv (d:=72) (fun β0=>fp [int (ix (ix s.sT (ix q i).t.toNat).next ((ix (ix m.sT (ix q i).s.toNat) k1).1).toNat)]) [] J bH (fun β0 _ _ _ _ gq gh kq=>iF (gq.1.trans J) (gq.2.1.trans J) T.aM O gB kq) ?_
    refine stv (d:=73) (fun β0=>int (ix (ix s.sT (ix q i).t.toNat).next ((ix (ix m.sT (ix q i).s.toNat) k1).1).toNat)) [] J bH (fun β0 _ _ _ _ gq gh kq=>lF (gq.1.trans J) J T.aF kq) ?_
    refine stv (d:=74) (fun β0=>agg [int ((ix (ix m.sT (ix q i).s.toNat) k1).2),int (ix (ix s.sT (ix q i).t.toNat).next ((ix (ix m.sT (ix q i).s.toNat) k1).1).toNat)]) [] J bH (fun β0 _ _ _ _ gq gh kq=>bd (css:= [(0,_),(1,_)]) T.sW (eC (eC eZ)) ⟨J,J,p1 (φ:=int ((ix (ix m.sT (ix q i).s.toNat) k1).2)) (by exact(gq.1.trans J)),⟨J,J,p1 (φ:=int (ix (ix s.sT (ix q i).t.toNat).next ((ix (ix m.sT (ix q i).s.toNat) k1).1).toNat)) (by exact(gq.2.1.trans J)),tV⟩⟩ kq) ?_
    refine sta 12 T.z84 (eC (eC eZ)) ?_
    refine stw 12 (fun β0=>cell (gbk (β0 9)) [int ((ix (ix m.sT (ix q i).s.toNat) k1).2),int (ix (ix s.sT (ix q i).t.toNat).next ((ix (ix m.sT (ix q i).s.toNat) k1).1).toNat)]) [12] J (fun β β' hb=>by first|rw[hb 9 J]|(dsimp only;rw[hb 9 J])) (fun β0 _ _ _ _ gq gh kq=>sPA (cs':= [int ((ix (ix m.sT (ix q i).s.toNat) k1).2),int (ix (ix s.sT (ix q i).t.toNat).next ((ix (ix m.sT (ix q i).s.toNat) k1).1).toNat)]) (gq.1.trans J) (gh.1.trans J) (gq.2.1.trans J) T.eY J J kq) ?_
    refine pnH fun β0=>(nl (th (sq (rg (mv (lPA J J T.eY J (lookup (z:=false) (q:=((ix (ix m.sT (ix q i).s.toNat) k1).2,ix (ix s.sT (ix q i).t.toNat).next ((ix (ix m.sT (ix q i).s.toNat) k1).1).toNat)) J J lH T.HY ⟨⟨O,O⟩,⟨O,O⟩⟩ T.UF (no J (nl (th ?_))))))))))
    refine cd J (fun hc3=> ?_) (fun hc3=> ?_)
    ·try simp at hc3
     refine sq (rg (mv (lPA J J T.eY J (mapUpdate (q:=((ix (ix m.sT (ix q i).s.toNat) k1).2,ix (ix s.sT (ix q i).t.toNat).next ((ix (ix m.sT (ix q i).s.toNat) k1).1).toNat)) (u:=true) J J lH J T.HY ⟨⟨O,O⟩,⟨O,O⟩⟩ (nl (th (rg (mv (mv (fP J T.eJ (lP J J J T.aF (bd (css:= [(0,_),(1,_)]) T.RD (eC (eC eZ)) ⟨J,J,p1 (φ:=int (i:Int)) J,⟨J,J,p1 (φ:=int ((ix (ix m.sT (ix q i).s.toNat) k1).1)) J,tV⟩⟩ (lPA J J T.eY J (bd (css:= [(0,_),(2,_)]) T.RE (eC (eC (eC (eC eZ)))) ⟨J,J,pA (cs:= [int (i:Int),int ((ix (ix m.sT (ix q i).s.toNat) k1).1)]) J,⟨J,J,pA (cs:= [int ((ix (ix m.sT (ix q i).s.toNat) k1).2),int (ix (ix s.sT (ix q i).t.toNat).next ((ix (ix m.sT (ix q i).s.toNat) k1).1).toNat)]) J,tV⟩⟩ (bsE (enc:=qC) (xs:= [⟨((ix (ix m.sT (ix q i).s.toNat) k1).2),(ix (ix s.sT (ix q i).t.toNat).next ((ix (ix m.sT (ix q i).s.toNat) k1).1).toNat),(i:Int),((ix (ix m.sT (ix q i).s.toNat) k1).1)⟩]) (css:= [[int (i:Int),int ((ix (ix m.sT (ix q i).s.toNat) k1).1),int ((ix (ix m.sT (ix q i).s.toNat) k1).2),int (ix (ix s.sT (ix q i).t.toNat).next ((ix (ix m.sT (ix q i).s.toNat) k1).1).toNat)]]) T.Lr ⟨J,J,pA (cs:= [int (i:Int),int ((ix (ix m.sT (ix q i).s.toNat) k1).1),int ((ix (ix m.sT (ix q i).s.toNat) k1).2),int (ix (ix s.sT (ix q i).t.toNat).next ((ix (ix m.sT (ix q i).s.toNat) k1).1).toNat)]) J,tV⟩ J J J J (ap (key:=21) (zs:= [⟨((ix (ix m.sT (ix q i).s.toNat) k1).2),(ix (ix s.sT (ix q i).t.toNat).next ((ix (ix m.sT (ix q i).s.toNat) k1).1).toNat),(i:Int),((ix (ix m.sT (ix q i).s.toNat) k1).1)⟩]) cH J J J T.Lr (by unfold aU at*;simp;omega) (by unfold aU at*;simp;omega) fun v89=>(ag (nl (eb (th (rg (bi J J (aK i6) (mv (nl ?_))))))))))))))))))))))))
     have hN0:(k1+1)≤(ix m.sT (ix q i).s.toNat).length:=by
      first|omega|simp_all
     have hN1:tI m s q i (k1+1) (q2++ [⟨((ix (ix m.sT (ix q i).s.toNat) k1).2),(ix (ix s.sT (ix q i).t.toNat).next ((ix (ix m.sT (ix q i).s.toNat) k1).1).toNat),(i:Int),((ix (ix m.sT (ix q i).s.toNat) k1).1)⟩]) (dI mm2 ((ix (ix m.sT (ix q i).s.toNat) k1).2,ix (ix s.sT (ix q i).t.toNat).next ((ix (ix m.sT (ix q i).s.toNat) k1).1).toNat) true):=by
      exact MX hm hs hI1 hc0 hacc hc2 rfl rfl (by simpa using hc3)
     exact ln (⟨k1+1,v89,q2++ [⟨((ix (ix m.sT (ix q i).s.toNat) k1).2),(ix (ix s.sT (ix q i).t.toNat).next ((ix (ix m.sT (ix q i).s.toNat) k1).1).toNat),(i:Int),((ix (ix m.sT (ix q i).s.toNat) k1).1)⟩],dI mm2 ((ix (ix m.sT (ix q i).s.toNat) k1).2,ix (ix s.sT (ix q i).t.toNat).next ((ix (ix m.sT (ix q i).s.toNat) k1).1).toNat) true⟩:Nat × Value × (List WalkM.Mt) × (List ((Int × Int) × Bool))) ⟨hN0,hN1⟩ dO ⟨id,id,id,id,id,id,id,id,id,id,tV⟩ ⟨rI,rI,rI,rI,rI,rI,rI,tV⟩
    ·try simp at hc3
     refine sk (eb (th (rg (bi J J (aK i6) (mv (nl ?_))))))
     have hN0:(k1+1)≤(ix m.sT (ix q i).s.toNat).length:=by
      first|omega|simp_all
     have hN1:tI m s q i (k1+1) q2 mm2:=by
      exact MY hI1 hc2 rfl rfl (by simpa using hc3)
     exact ln (⟨k1+1,v2,q2,mm2⟩:Nat × Value × (List WalkM.Mt) × (List ((Int × Int) × Bool))) ⟨hN0,hN1⟩ dO ⟨id,id,id,id,id,id,id,id,id,id,tV⟩ ⟨rI,rI,rI,rI,rI,rI,rI,tV⟩
   ·try simp at hc2
    refine ex (xt_ (xt_ (xb (eb (th (rg (mv (bi J J (aK i6) (ag (nl ?_))))))))))
    have hN0:QJ m s q2∧mF mm2 q2∧(i+1)≤q2.length∧∀k,k<(i+1)→lY m s q2 k:=by
     exact PB hI1 hc0 hacc O
    exact ln (⟨i+1,v2,q2,mm2⟩:Nat × Value × (List WalkM.Mt) × (List ((Int × Int) × Bool))) hN0 dO ⟨id,id,id,id,id,id,tV⟩ ⟨rI,rI,rI,rI,rI,tV⟩
 ·try simp at hc0
  refine ex (xt_ (xt_ (xb (th (sq (rg (bd (css:= [(0,_)]) T.Qw (eC (eC (eC (eC eZ)))) ⟨J,J,p1 (φ:=bl true) J,tV⟩ (al (key:=13) T.z69 (eC (eC (eC (eC eZ)))) fun b13=>(sPA (cs':= [bl true,eqv (.slice none 0 0),eqv (.slice none 0 0),int 0]) J J J T.pK J J (nl (th (sq (sq (rg (mv (lnO J J T.wN (mv (nl (th (bk ?_))))))))))))))))))))
  refine nwC 130 84 2 pE (oJ 13 1 (osl 130 (.slice none 0 0)) rfl rfl dY ?_)
  have hI2_0:0≤q.length:=by
   first|omega|simp
  have hI2_1:([]:List (Int × Int))=(q.take 0).map cZ:=by
   rfl
  refine lp (κ:=Nat × Value × (List (Int × Int))) (fun p=> [(4,ptr 4 b4 0),(13,ptr 13 b13 0),(92,osl 21 v),(93,int (q.length:Int)),(94,int (p.1:Int))]) (fun p=> [(2,cell b2 [sl 1 rE_ m.aC,sl 1 gE m.sT]),(3,cell b3 [sl 1 rE_ s.aC,sl 2 sE s.sT]),(4,cell b4 [bl false,eqv (.slice none 0 0),eqv (.slice none 0 0),int 0]),(13,cell b13 [bl true,osl 130 p.2.1,eqv (.slice none 0 0),int 0]),(16,mp b16 dL fB blV mm),(21,own v 180 4 qC q),(130,own p.2.1 84 2 pE p.2.2)]) (fun p=>(p.1≤q.length)∧(p.2.2=(q.take p.1).map cZ)) (fun p=>q.length- p.1) ⟨0,(.slice none 0 0),([]:List (Int × Int))⟩ ⟨hI2_0,hI2_1⟩ ⟨id,id,id,id,id,tV⟩ ⟨rI,rI,rI,rI,rI,rI,rI,tV⟩ ?_
  intro⟨k2,vp,prs⟩ hG2
  obtain⟨hk2,hI2⟩:(k2≤q.length)∧(prs=(q.take k2).map cZ):=hG2
  show Ct _ _ _ _ [(4,ptr 4 b4 0),(13,ptr 13 b13 0),(92,osl 21 v),(93,int (q.length:Int)),(94,int (k2:Int))] [(2,cell b2 [sl 1 rE_ m.aC,sl 1 gE m.sT]),(3,cell b3 [sl 1 rE_ s.aC,sl 2 sE s.sT]),(4,cell b4 [bl false,eqv (.slice none 0 0),eqv (.slice none 0 0),int 0]),(13,cell b13 [bl true,osl 130 vp,eqv (.slice none 0 0),int 0]),(16,mp b16 dL fB blV mm),(21,own v 180 4 qC q),(130,own vp 84 2 pE prs)] _
  have hpl:prs.length≤k2:=by rw[hI2];simp;omega
  refine sq (rg (bi J J aN (nl (th (sq ?_)))))
  refine cd J (fun hc4=> ?_) (fun hc4=> ?_)
  ·try simp at hc4
   refine sk (th (sq (bk (sq (rg (iO J J J T.wN O O (lOA J J gB T.NV (by decide) (al (key:=15) T.Xz (eC (eC (eC (eC eZ)))) fun b15=>(sPA (cs':= [int (ix q k2).before,int (ix q k2).action,int (ix q k2).s,int (ix q k2).t]) J J J T.NV J J (nl (th (rg (fP J T.DP (lP J J J T.kL (fP J T.Ia (lPA J J T.eY J (bs (css:= [[int (ix q k2).s,int (ix q k2).t]]) T.mD ⟨J,J,pA (cs:= [int (ix q k2).s,int (ix q k2).t]) J,tV⟩ J J J (ap (key:=130) (zs:= [((ix q k2).s,(ix q k2).t)]) cH J J J T.mD (by unfold aU at*;simp;omega) (by unfold aU at*;simp;omega) fun v103=>(fP J T.DP (bY J J J J T.kL J (nl (eb (th (rg (bi J J (aK i6) (mv (nl ?_)))))))))))))))))))))))))))
   have hN0:(k2+1)≤q.length:=by
    first|omega|simp_all
   have hN1:(prs++ [((ix q k2).s,(ix q k2).t)])=(q.take (k2+1)).map cZ:=by
    rw[hI2,bL hc4,List.map_append];rfl
   exact ln (⟨k2+1,v103,prs++ [((ix q k2).s,(ix q k2).t)]⟩:Nat × Value × (List (Int × Int))) ⟨hN0,hN1⟩ dO ⟨id,id,id,id,id,tV⟩ ⟨rI,rI,rI,rI,rI,rI,rI,tV⟩
  ·try simp at hc4
   refine ex (xt_ (xt_ (xb (th (sq (rg (fP J T.DP (lP J J J T.kL ?_))))))))
   have hbp:∀p∈prs,bdP p:=by rw[hI2,show k2=q.length by omega,List.take_length];exact VP hm hs hq
   refine cal (Hi:= [(130,own vp 84 2 pE prs)]) (φs:= [osl 5 vp,eqv (.func (.func 144) #[] #[])]) ⟨gZ.trans gZ.symm,rfl,tV⟩ (zG 5 130 (sortE.IB vp prs aS)) T.VT ⟨rI,tV⟩ fun _ _=>(nl (th (sq (rg (fzc 13 130 1 rfl rfl rfl rfl (lPA rfl rfl T.pK rfl (sPA (cs':= [bl true,sl 2 pE (gG prs),eqv (.slice none 0 0),int 0]) rfl rfl rfl T.pK rfl rfl (nl (th (rt ?_))))))))))
   refine dE 4 2 (sl 1 nE []) rfl rfl bT ?_
   exact rE ⟨⟨true,gG prs,[],0⟩,⟨fun _=>⟨SL hm hs hq (fun k hk=>hdone k O),J,J,q,hq,fun k hk=>hdone k O,by rw[hI2,show k2=q.length by omega,List.take_length]⟩,fun h=>(nomatch (show true=false from h))⟩⟩ [.cell 4 69] J [agg [bl true,sl 2 pE (gG prs),sl 1 nE [],int 0]] ⟨.agg J J T.pK J J,tV⟩ J trivial eX
theorem tK (m:aI) (s:SS) (hsm:bK s):
 AL.Fn Tryz.prog 42 [sys m,spec s] [] (ι:= { v:VJ//Fs m s v }) (fun _ i=>tup [VO i.1,int (cO m s)]) (fun _=> []):=by
 refine fnI Tryz.func42 rfl rfl (fun w0 F0=> ?_)
 refine fcC (bO 0 J) (fun hS0=> ?_)
 obtain⟨hma0,hms0,hme0⟩:=eI hS0
 refine fcC (bO 1 J) (fun hS1=> ?_)
 obtain⟨hsa1,hss1,hse1⟩:=sLn hS1
 refine sq (rg (bx (key:=2) (cs:= [sl 1 rE_ m.aC,sl 1 gE m.sT]) J fun b2=>(bx (key:=3) (cs:= [sl 1 rE_ s.aC,sl 2 sE s.sT]) J fun b3=>(al (key:=4) T.z69 (eC (eC (eC (eC eZ)))) fun b4=>(ag (nl (th (sq (sq (rg (lPA J J T.cD J (lPA J J T.aD J (aO (φs:= [agg [sl 1 rE_ m.aC,sl 1 gE m.sT],agg [sl 1 rE_ s.aC,sl 2 sE s.sT]]) (φ:=int (cO m s)) ⟨J,J,tV⟩ (satj.mS m s aS) T.RG (ag (nl (th (sq (rg (mv (bi J J fS (nl (th ?_))))))))))))))))))))))
 refine cd J (fun hc0=> ?_) (fun hc0=> ?_)
 ·try simp at hc0
  refine sq (rg (bd (css:= []) T.Qw (eC (eC (eC (eC eZ)))) trivial (mv (sPA (cs':= [bl false,eqv (.slice none 0 0),eqv (.slice none 0 0),int 0]) J J J T.pK J J (ag (nl (th (rt (rt_ ?_)))))))))
  refine dE 4 1 (sl 2 pE []) rfl rfl bT ?_
  refine dE 4 2 (sl 1 nE []) rfl rfl bT ?_
  exact rE ⟨⟨false,[],[],0⟩,⟨fun h=>absurd h hc0,fun _=>J⟩⟩ [.cell 4 69,.tmp 5] J [agg [bl false,sl 2 pE [],sl 1 nE [],int 0],int (cO m s)] ⟨.agg J J T.pK J J,.tmp J,tV⟩ J trivial eX
 ·try simp at hc0
  obtain⟨hmv,hsv,hac⟩:=NU hc0
  have hm:=pZ hmv
  have hs:=bW hsv
  refine sk (th (sq (rg (lPA J J T.cD J (lPA J J T.aD J (cl (satj.tJ m aS s aS) T.WR trivial fun N16 i16=>(sPA (cs':= [bl i16.1.holds,sl 2 pE i16.1.pairs,sl 1 nE i16.1.word,int i16.1.state]) J J J T.pK J J (ag (nl (th (rt ?_)))))))))))
  have hr0:(0:Int)=(cO m s):=by
   exact hc0.symm
  exact rE ⟨i16.1,⟨fun _=>i16.2,fun h=>absurd hc0 h⟩⟩ [.cell 4 69,.tmp 5] J [agg [bl i16.1.holds,sl 2 pE i16.1.pairs,sl 1 nE i16.1.word,int i16.1.state],int 0] ⟨.agg J J T.pK J J,.tmp J,tV⟩ (cA1 (fun x0=>rV [agg [bl i16.1.holds,sl 2 pE i16.1.pairs,sl 1 nE i16.1.word,int i16.1.state],int x0]) hr0) trivial eX
end satj
end
section
namespace BesM
open ref01 ref03 ref04 ref06 Part Rungs LeftM TrimM RoundM MergeM BisM BisM4 BisM5 Keys WalkM WitM JudgM LevM divr divs divd dive divf divv judg sysw satj ChsM BisS TrimI QuoM FailM DivM RefM GenW CompM CompP prodp
abbrev Sd:=List Int × Int
def iP (m:aI) (l:List Int):List Int:=l.map fun x=>cJ m x.toNat
def sA (m:aI) (t:SS) (p:Sd):List Int:=iN (iP m p.1) (acc t p.2.toNat)
def sN (m:aI) (t:SS) (p:Sd) (a:Nat):Sd:=(fM m p.1 (a:Int),ix (nxt t p.2.toNat) a)
structure sOk (m:aI) (t:SS) (p:Sd):Prop where
 rise:p.1.Pairwise (· < ·)
 bd:∀x∈p.1,0≤x∧x<(m.sT.length:Int)
 x0:0≤p.2
 x1:p.2<(t.sT.length:Int)
def fD (p:Sd):ByteArray:=lG p.2 p.1
theorem NW {m:aI} (hm:dJ m) {l:List Int} (h:∀x∈l,0≤x∧x<(m.sT.length:Int)):∀u∈iP m l,0≤u∧u<256:=fun u hu=>by
 obtain⟨x,hx,rfl⟩:=List.mem_map.1 hu
 have:=h x hx
 exact DN hm O
theorem NX {m:aI} {t:SS} (hm:dJ m) {p:Sd} (hp:sOk m t p) {u:Int}:u∈sA m t p↔∃x∈iP m p.1,∃y∈acc t p.2.toNat,bV x y=u:=yI (NW hm hp.bd)
theorem ER (m:aI) (l:List Int) (a:Int):(fM m l a).Pairwise (· < ·):=by
 unfold fM
 rw[List.pairwise_map]
 refine List.Pairwise.imp ?_ ((List.pairwise_lt_range (n:=m.sT.length)).filter _)
 intro a b h;omega
theorem Tz (m:aI) (l:List Int) (a:Int):∀x∈fM m l a,0≤x∧x<(m.sT.length:Int):=fun x hx=>by
 obtain⟨k,rfl,hk,_⟩:=tL.1 hx
 omega
theorem CX {m:aI} {t:SS} (hm:dJ m) (ht:oK t) {p:Sd} (hp:sOk m t p) {a:Nat} (h:has (aT (sA m t p)) (a:Int)=true):a<t.aC.length∧sOk m t (sN m t p a):=by
 obtain⟨u,hu,hh⟩:=(bR _ _).1 h
 obtain⟨x,hx,y,hy,rfl⟩:=(NX hm hp).1 hu
 rw[QuoM.pQ,Bool.and_eq_true] at hh
 have h1:=hp.x0
 have h2:=hp.x1
 have g:=jR ht (x:=p.2.toNat) O ((bR _ _).2 ⟨y,hy,hh.2⟩)
 exact⟨g.1,ER _ _ _,Tz _ _ _,g.2.1,g.2.2⟩
theorem Qx {m:aI} {t:SS} {p q:Sd} (hp:sOk m t p) (hq:sOk m t q) (h:fD p=fD q):p=q:=by
 have:=Gh hp.x0 hq.x0 (fun x hx=>(hp.bd x hx).1) (fun x hx=>(hq.bd x hx).1) h
 exact Prod.ext this.2 this.1
def wO:Nat→List (List Int)
 |0=> [[]]
 |n+1=>wO n++(wO n).map (· ++ [(n:Int)])
theorem JO:∀n,(wO n).length=2^n
 |0=>rfl
 |n+1=>by
  show(wO n++(wO n).map _).length=_
  rw[List.length_append,List.length_map,JO n,Nat.pow_succ];omega
theorem zM:∀(n:Nat) (l:List Int),l.Pairwise (· < ·)→(∀x∈l,0≤x∧x<(n:Int))→l∈wO n
 |0,l,_,hb=>by
  match l with
  | []=>exact List.mem_singleton.2 rfl
  |x::l=>have:=hb x (by simp);omega
 |n+1,l,hr,hb=>by
  show l∈wO n++(wO n).map _
  rcases List.eq_nil_or_concat l with rfl|⟨q,y,rfl⟩
  ·exact List.mem_append.2 (.inl (zM n [] List.Pairwise.nil (fun x hx=>by cases hx)))
  ·rw[List.concat_eq_append] at hr hb ⊢
   obtain⟨h1,_,h3⟩:=List.pairwise_append.1 hr
   have hy:=hb y (by simp)
   by_cases e:y=(n:Int)
   ·subst e
    exact List.mem_append.2 (.inr (List.mem_map.2 ⟨q,zM n q h1 (fun x hx=>⟨(hb x (by simp[hx])).1,h3 x hx _ (by simp)⟩),rfl⟩))
   ·refine List.mem_append.2 (.inl (zM n _ hr (fun x hx=>⟨(hb x hx).1,?_⟩)))
    rcases List.mem_append.1 hx with g|g
    ·have:=h3 x g y (by simp);omega
    ·rw[List.mem_singleton.1 g];omega
theorem WS (n t:Nat) (l:List Sd) (hnd:l.Nodup) (hb:∀p∈l,p.1.Pairwise (· < ·)∧(∀x∈p.1,0≤x∧x<(n:Int))∧0≤p.2∧p.2<(t:Int)):l.length≤2^n*t:=by
 have hs:l ⊆ (wO n).flatMap fun s=>(List.range t).map fun(x:Nat)=>((s,(x:Int)):Sd):=fun p hp=>by
  obtain⟨h1,h2,h3,h4⟩:=hb p hp
  refine List.mem_flatMap.2 ⟨p.1,zM n p.1 h1 h2,List.mem_map.2 ⟨p.2.toNat,List.mem_range.2 O,?_⟩⟩
  exact Prod.ext rfl (by show((p.2.toNat:Nat):Int)=p.2;omega)
 have hl:=List.Nodup.length_le_of_subset hnd hs
 have e:∀q:List (List Int),(q.flatMap fun s=>(List.range t).map fun(x:Nat)=>((s,(x:Int)):Sd)).length=q.length*t:=by
  intro q
  induction q with
  |nil=>simp
  |cons s q ih=>rw[List.flatMap_cons,List.length_append,ih,List.length_map,List.length_range,List.length_cons,Nat.add_mul];omega
 rw[e,JO] at hl
 exact hl
theorem Qy {m:aI} {t:SS} (hm:dJ m) (ht:oK t) (hal:m.aC.length=t.aC.length):GS (sA m t) (sN m t) (sOk m t) fD m.aC.length (2^m.sT.length*t.sT.length) where
 inj:=fun p q hp hq h=>Qx hp hq h
 acts:=fun p hp a h=>by
  obtain⟨b,rfl,_,hb⟩:=cQ.1 h
  rw[Int.toNat_natCast]
  exact(CX hm ht hp hb).2
 few:=fun l hn h=>WS _ _ l hn fun p hp=>⟨(h p hp).rise,(h p hp).bd,(h p hp).x0,(h p hp).x1⟩
 hasn:=fun p hp a h=>by rw[hal];exact(CX hm ht hp h).1
 n8:=hm.n8
theorem Ib {m:aI} {t:SS} (hm:dJ m) (ht:oK t):sOk m t ([0],0):=by
 have f1:=hm.few0
 have f2:=ht.few0
 exact⟨List.pairwise_singleton _ _,fun x hx=>by rw[List.mem_singleton.1 (show x∈[(0:Int)] from hx)];omega,by simp,by show(0:Int)<_;omega⟩
def sL (m:aI) (t:SS):List Sd:=jT (sA m t) (sN m t) (2^m.sT.length*t.sT.length) 0 [([0],0)]
def sD (m:aI) (t:SS):SS:=⟨m.aC,(sL m t).map (ofL (sA m t) (sN m t) m.aC.length (sL m t))⟩
theorem yL {m:aI} {t:SS} (hm:dJ m) (ht:oK t) (hal:m.aC.length=t.aC.length):rH (sA m t) (sN m t) (sOk m t) ([0],0) (sL m t).length (sL m t):=Nz (Qy hm ht hal) (Ib hm ht)
theorem CY {m:aI} {t:SS} (hm:dJ m) (ht:oK t) (hal:m.aC.length=t.aC.length):pH (sA m t) (sN m t) m.aC.length ([0],0) (sL m t) (sD m t):=NA (Qy hm ht hal) (yL hm ht hal) _
structure VU (m:aI) (t:SS) (l:List Sd) (D:SS):Prop where
 numb:pH (sA m t) (sN m t) m.aC.length ([0],0) l D
 ok:∀p∈l,sOk m t p
 acts:D.aC=m.aC
theorem DQ {m:aI} {t:SS} (hm:dJ m) (ht:oK t) (ha:m.aC.length=t.aC.length) {l:List Sd} {D:SS} (h:VU m t l D) (hl:l.length≤10000):oK D:=
 JC h.numb (by rw[h.acts];exact hm.acts) (by rw[h.acts]) hl (fun p _ u hu=>qY hu) (fun p hp a g=>by rw[ha];exact(CX hm ht (h.ok p hp) g).1) (fun p _=>uC (rZ _ _))
noncomputable def cG (m:aI) (t:SS):SS × Int:=
 if cO m t=0 then
  (if ix (hOl t) 0=true then(nothing t.aC,0)
   else if (sL m (tR t).1).length≤500 then((tR (sD m (tR t).1)).1,0) else(⟨[],[]⟩,2))
 else(⟨[],[]⟩,cO m t)
structure XN (m:aI) (t D:SS):Prop where
 hol:ix (hOl t) 0=true→D=nothing t.aC
 num:ix (hOl t) 0=false→∃l,VU m (tR t).1 l D∧l.length≤2^m.sT.length*t.sT.length
theorem wP {m:aI} {t:SS} (h:cO m t=0):eV m=true∧aX t=true∧m.aC=t.aC:=by
 unfold cO at h
 split at h
 ·next h1=>
  split at h
  ·next h2=>
   split at h
   ·next h3=>exact⟨h1,h2,h3⟩
   ·cases h
  ·cases h
 ·cases h
end BesM
end
end Go.Proofs.YtcjemmihcplgdaaGreatDoor
