/- The walks of the functions and the plain laws. Own texts of this claim, packed: Mkdivp, Mkprodm, MkEncM, Mkprodp, Mksatj, MkBesM, MkTogM, MkBrkM, MkProdM, MkSatC, MkOrdM, MkKeepK, Mkmkk, MkGuardM, MkMakeM, MkLsysM, MkLsysM2, MkKeepB. -/
import Derived.Test.YtnlfjojfgghchaaGreatDoorX14
import Derived.Test.YtnlfjojfgghchaaGreatDoorX21
import Derived.Test.YtnlfjojfgghchaaGreatDoorX20
import Derived.Test.YtnlfjojfgghchaaGreatDoorX16
import Derived.Test.YtnlfjojfgghchaaGreatDoorX19
import Derived.Test.YtnlfjojfgghchaaGreatDoorX17
import Derived.Test.YtnlfjojfgghchaaGreatDoorX10
import Derived.Test.YtnlfjojfgghchaaGreatDoorX06
import Derived.Test.YtnlfjojfgghchaaGreatDoorX12
import Derived.Test.YtnlfjojfgghchaaGreatDoorX04
set_option linter.all false
namespace Go.Proofs.YtnlfjojfgghchaaGreatDoor
open AL Go
set_option maxRecDepth 100000
section
open ref01 ref03 ref04 ref06 prog prog2 prog3 prog6 Part Rungs LeftM QuoM
namespace divp
end divp
end
section
open ref01 ref03 ref04 ref06 prog prog2 prog3 prog4 prog5 prog6 prog7 prog8 prog9 prog13 starts Part Rungs LeftM TrimM Itoa Keys RoundM MergeM BisM BisM4 BisM5 WalkM StepM WitM JudgM JudgM2 refw judg wit refj sysw divr divs divd dive divg divw divv LevM LevM2 ChsM TrimI QuoM FailM DivM RefM GenW CompM CrossM prodc divp
namespace prodm
end prodm
end
section
namespace EncM
def encZ (z:aA × Int):Value:= .agg #[.agg (z.1.aC.map Value.string).toArray,.agg (z.1.sT.map fun l=>Value.agg (l.map fun e=>Value.agg #[.int .i64 e.1,.int .i64 e.2]).toArray).toArray,.int .i64 z.2]
theorem zT {α β:Type} {f:α→β} (hf:∀a b,f a=f b→a=b):∀{l m:List α},l.map f=m.map f→l=m
 | [],[],_=>rfl
 | [],b::m,h=>by simp at h
 |a::l,[],h=>by simp at h
 |a::l,b::m,h=>by
  rw[List.map_cons,List.map_cons] at h
  injection h with h1 h2
  rw[hf _ _ h1,zT hf h2]
theorem vF {l m:List Value} (h:Value.agg l.toArray=Value.agg m.toArray):l=m:=by
 injection h with h
 exact congrArg Array.toList h
theorem encZ_inj {a b:aA × Int} (h:encZ a=encZ b):a=b:=by
 obtain⟨⟨a1,a2⟩,a3⟩:=a
 obtain⟨⟨b1,b2⟩,b3⟩:=b
 have h:=vF (l:= [_,_,_]) (m:= [_,_,_]) h
 simp only [List.cons.injEq,and_true] at h
 obtain⟨h1,h2,h3⟩:=h
 have e1:a1=b1:=zT (fun x y g=>by injection g) (vF h1)
 have e2:a2=b2:=zT (fun x y g=>zT (fun p q g=>by
  have g:=vF (l:= [_,_]) (m:= [_,_]) g
  simp only [List.cons.injEq,and_true,Value.int.injEq,true_and] at g
  exact Prod.ext g.1 g.2) (vF g)) (vF h2)
 have e3:a3=b3:=by injection h3
 rw[e1,e2,e3]
open Classical in
noncomputable def Dz (v:Value):aA × Int:=if h:∃z,encZ z=v then Classical.choose h else default
theorem DC (z:aA × Int):Dz (encZ z)=z:=by
 have h:∃y,encZ y=encZ z:=⟨z,rfl⟩
 unfold Dz
 rw[dif_pos h]
 exact encZ_inj (Classical.choose_spec h)
def Qc (v:Bool × aA):Value:=encZ (v.2,if v.1 then 1 else 0)
noncomputable def lA (v:Value):Bool × aA:=(decide ((Dz v).2=1),(Dz v).1)
theorem Qd (v:Bool × aA):lA (Qc v)=v:=by
 obtain⟨b,m⟩:=v
 unfold lA Qc
 rw[DC]
 cases b<;>rfl
end EncM
end
section
open ref01 ref03 ref04 ref06 prog prog2 prog3 prog4 prog5 prog6 prog7 prog8 prog9 prog13 prog15 starts Part Rungs LeftM TrimM Itoa Keys RoundM MergeM BisM BisM4 BisM5 WalkM StepM WitM JudgM JudgM2 refw judg wit refj sysw divr divs divd dive divg divw divv LevM LevM2 ChsM TrimI QuoM FailM DivM RefM GenW CompM CrossM CompP PartM EncM prodc divp prodm
noncomputable def Ff (s t:SS) (w:List Int) (u:Int):Int:=if hO s t=0 then(if Vu (s.aC.length:Int) w=true∧fR (s.aC.length:Int) u=true then 0 else 1) else hO s t
abbrev Fg:aA:=⟨[],[]⟩
structure Yq (s t:SS) (w:List Int) (u:Int) (z:(aA × aA) × Int):Prop where
 err:Ff s t w u≠0→z=((Fg,Fg),Ff s t w u)
 none:Ff s t w u=0→¬RF s t w u→z=((Fg,Fg),3)
 some:Ff s t w u=0→RF s t w u→z.2=0∧∃a b,a∈acc (tR s).1 (goS (tR s).1 w).toNat∧b∈acc (tR t).1 (goS (tR t).1 w).toNat∧bS a b=u∧zM (tR s).1 (kM (tR s).1 w a) z.1.1∧zM (tR t).1 (kM (tR t).1 w b) z.1.2
section
variable {s t:SS} {w:List Int} {u:Int}
end
def NyI (m:aA) (l:List Int) (a:Int) (k j x:Nat):Prop:=(∃i,i<k∧∃e∈edg m (ix l i).toNat,e.1=a∧e.2=(x:Int))∨∃i,i<j∧(ix (edg m (ix l k).toNat) i).1=a∧(ix (edg m (ix l k).toNat) i).2=(x:Int)
structure NyS (m:aA) (l:List Int) (a:Int) (k j:Nat) (b:List Bool):Prop where
 len:b.length=m.sT.length
 mem:∀x,x<m.sT.length→(ix b x=true↔NyI m l a k j x)
section
variable {m:aA} {l:List Int} {a:Int} {k j:Nat} {b:List Bool}
end
theorem DD {m:aA} (hm:bC m) {x:Nat} (hx:x<m.sT.length):0≤bR m x∧bR m x<256:=by
 have h8:=Yg hm hx
 refine⟨oW _,FV _ fun t ht=> ?_⟩
 obtain⟨e,he,rfl⟩:=List.mem_map.1 ht
 have:=h8 e he
 have hp:2^e.1.toNat≤2^7:=Nat.pow_le_pow_right O O
 omega
namespace prodp
end prodp
end
section
open ref01 ref03 ref04 ref06 prog prog2 prog3 prog6 prog13 prog15 starts search Part Rungs LeftM TrimM RoundM BisM BisM5 BisM6 WalkM StepM WitM JudgM refw judg wit sysw
def pK:WalkM.Mt→List AV:=fun m=> [int m.before,int m.action,int m.s,int m.t]
instance (m:WalkM.Mt):OneAll (pK m):=inferInstanceAs (OneAll [int m.before,int m.action,int m.s,int m.t])
noncomputable def bK (m:aA) (s:SS):Int:=if bM m=true then(if cC s=true then(if m.aC=s.aC then 0 else 10) else 30) else 20
theorem lB {m:aA} {s:SS} (h:bK m s=0):bM m=true∧cC s=true∧m.aC=s.aC:=by
 unfold bK at h
 split at h
 ·next g1=>
  split at h
  ·next g2=>
   split at h
   ·next g3=>exact⟨g1,g2,g3⟩
   ·exact absurd h (by decide)
  ·exact absurd h (by decide)
 ·exact absurd h (by decide)
abbrev Wh (v:VJ):AV:=agg [bl v.holds,sl 2 pE v.pairs,ints v.word,int v.state]
structure oH (m:aA) (s:SS) (v:VJ):Prop where
 ok:bK m s=0→zP m s v
 no:bK m s≠0→v=⟨false,[],[],0⟩
noncomputable def Gz (m:aA) (s:SS):Bool:=decide (bK m s=0)&& @decide (eR m s) (Classical.propDecidable _)
theorem wT {m:aA} {s:SS} {v:VJ} (h:oH m s v):v.holds=Gz m s:=by
 unfold Gz
 by_cases e:bK m s=0
 ·rw[decide_eq_true e,Bool.true_and,Bool.eq_iff_iff,Ew (h.ok e)];simp
 ·rw[decide_eq_false e,h.no e];rfl
theorem Wi {m:aA} {t:SS} (hm:bC m) (ht:oK t) {q:List WalkM.Mt} (h:QJ m t q):∀p∈q.map dF,bdP p:=by
 intro p hp
 obtain⟨x,hx,rfl⟩:=List.mem_map.1 hp
 have:=h.bd x hx
 have h1:=hm.few1
 have h2:=ht.few1
 unfold bdP dF
 dsimp only
 omega
namespace T
theorem GA:jN Tryz.prog 151 80 4 cD eQ:=Gy Tryz.underlying151 Tryz.underlying80 kR (by decide+kernel) kR kR ⟨Tryz.underlying3,by kernel_rfl⟩ kR
theorem Qe:∀w F,∃u,(zeroValue 4).run Tryz.prog w= .ok u w∧(blV false).p w F u:=Al (v:= .bool false) kR _ (fun _ _=>Dc)
theorem wU:IsSlice Tryz.prog 156 155 4:=eL kR
theorem AU:cS Tryz.prog 155 0 0:=bZ kR
theorem GD:cS Tryz.prog 153 0 0:=bZ kR
theorem Qf:cS Tryz.prog 153 1 1:=bZ kR
theorem Ni:Ent Tryz.prog 148:=aR kR
theorem z68:dM Tryz.prog 68 [.bool false,.slice none 0 0,.slice none 0 0,.int .i64 0]:=cE kR
theorem RG:fY Tryz.prog 153 [(0,1),(1,1)] [.int .i64 0,.int .i64 0]:=fG kR kR
theorem RH:fY Tryz.prog 155 [(0,2),(2,2)] [.int .i64 0,.int .i64 0,.int .i64 0,.int .i64 0]:=fG kR kR
theorem KT:dW Tryz.prog 156 155 4 32 [.int .i64 0,.int .i64 0,.int .i64 0,.int .i64 0]:=gP kR kR
theorem GF:cS Tryz.prog 155 1 2:=bZ kR
theorem Fh:Ent Tryz.prog 98:=aR kR
theorem Wj:Ent Tryz.prog 117:=aR kR
theorem Qg:fY Tryz.prog 68 [(0,1),(1,1),(2,1),(3,1)] [.bool false,.slice none 0 0,.slice none 0 0,.int .i64 0]:=fG kR kR
theorem lU:gS Tryz.prog 68 4:=fU kR
theorem Nj:gS Tryz.prog 155 4:=fU kR
theorem Yj:dM Tryz.prog 155 [.int .i64 0,.int .i64 0,.int .i64 0,.int .i64 0]:=cE kR
theorem DF:cS Tryz.prog 68 1 1:=bZ kR
theorem Nk:Ent Tryz.prog 100:=aR kR
theorem KU:Ent Tryz.prog 54:=aR kR
theorem RI:Ent Tryz.prog 70:=aR kR
end T
namespace satj
theorem Tz (q:List WalkM.Mt) (hb:uZ q) (i:Nat) (hi:i<q.length) (hq:q.length≤1000000000:=by omega):
 Fn0 Tryz.prog 117 [sl 4 pK q,int (i:Int)] (ints (fX q i)):=by
 refine fnI Tryz.func117 rfl rfl (fun w0 F0=> ?_)
 refine fcC (bL 0 J) (fun hm0=> ?_)
 refine sq (rg (ag (nl (th (sq (rg (nw 5 3 1 nE (ag (rtg (key:=5) 5 J (nl (th (sq (bk ?_)))))))))))))
 have hI0_0:0≤(i:Int)∧(i:Int)<(q.length:Int)∧([]:List Int)++upF q (i+1) (i:Int).toNat=upF q (i+1) i∧(i:Int).toNat<(i+1)∧([]:List Int).length+(i:Int).toNat≤i:=by
  exact⟨O,O,by rw[Int.toNat_natCast];rfl,O,by simp⟩
 refine lp (κ:=Nat × Int × Value × (List Int)) (fun p=> [(0,sl 4 pK q),(1,int p.2.1),(4,eqv (.slice none 0 0)),(5,osl 5 p.2.2.1)]) (fun p=> [(5,own p.2.2.1 3 1 nE p.2.2.2)]) (fun p=>0≤p.2.1∧p.2.1<(q.length:Int)∧p.2.2.2++upF q p.1 p.2.1.toNat=upF q (i+1) i∧p.2.1.toNat<p.1∧p.2.2.2.length+p.2.1.toNat≤i) (fun p=>p.2.1.toNat) ⟨i+1,(i:Int),(.slice none 0 0),([]:List Int)⟩ hI0_0 ⟨id,id,id,id,tV⟩ ⟨rI,tV⟩ ?_
 intro⟨n,j,v5,out⟩ hG0
 obtain⟨hj0,hjl,hou,hjn,hol⟩:0≤j∧j<(q.length:Int)∧out++upF q n j.toNat=upF q (i+1) i∧j.toNat<n∧out.length+j.toNat≤i:=hG0
 show Ct _ _ _ _ [(0,sl 4 pK q),(1,int j),(4,eqv (.slice none 0 0)),(5,osl 5 v5)] [(5,own v5 3 1 nE out)] _
 have hbk:=hb j.toNat O
 refine sq (sq (rg (mv (mv (iF J J T.wU O gB (fF J T.AU (fF J T.GD (lF J J T.aH (bi J J jG (nl (th ?_)))))))))))
 refine cd J (fun hc0=> ?_) (fun hc0=> ?_)
 ·try simp at hc0
  refine sk (th (sq (bk (rg (mv (mv (mv (iF J J T.wU O gB (fF J T.AU (fF J T.Qf (lF J J T.aH (bsE (enc:=nE) (xs:= [(ix q j.toNat).action]) (css:= [[int (ix q j.toNat).action]]) T.cQ ⟨J,J,p1 (φ:=int (ix q j.toNat).action) J,tV⟩ J J J J (ap (key:=5) (zs:= [(ix q j.toNat).action]) cB J J J T.cQ (by unfold aN at*;simp;omega) (by unfold aN at*;simp;omega) fun v27=>(ag (nl (eb (th (rg (mv (mv (iF J J T.wU O gB (fF J T.AU (fF J T.GD (lF J J T.aH (ag (nl ?_))))))))))))))))))))))))))
  have hN0:0≤(ix q j.toNat).before∧(ix q j.toNat).before<(q.length:Int)∧(out++ [(ix q j.toNat).action])++upF q (n- 1) (ix q j.toNat).before.toNat=upF q (i+1) i∧(ix q j.toNat).before.toNat<(n- 1)∧(out++ [(ix q j.toNat).action]).length+(ix q j.toNat).before.toNat≤i:=by
   have hbk2:=hbk hc0
   exact⟨hc0,O,MB hou hjn hc0,O,by simp;omega⟩
  exact ln (⟨n- 1,(ix q j.toNat).before,v27,out++ [(ix q j.toNat).action]⟩:Nat × Int × Value × (List Int)) hN0 (by have hbk2:=hbk hc0;show(ix q j.toNat).before.toNat<j.toNat;omega) ⟨id,id,id,id,tV⟩ ⟨rI,tV⟩
 ·try simp at hc0
  refine ex (xt_ (xt_ (xb (th (sq (rg (mv (cal (Hi:= [(5,own v5 3 1 nE out)]) (φs:= [osl 5 v5]) ⟨J,tV⟩ (judg.Ck v5 out O) T.Ni ⟨rI,tV⟩ fun _ _=>(nl (th (sq (rg (mv (ag (nl (th (rt ?_)))))))))))))))))
  refine fzA 5 4 rfl rfl ?_
  have hr0:out.reverse=(fX q i):=by
   rw[Jf hou hjn O];rfl
  exact rE () [.tmp 4] J [sl 1 nE out.reverse] ⟨.tmp J,tV⟩ (cA1 (fun x0=>rV [sl 1 nE x0]) hr0) trivial eX
theorem vA (m:aA) (s:SS) (hs:dH s):
 Fn0 Tryz.prog 54 [sys m,spec s] (int (bK m s)):=by
 refine fnI Tryz.func54 rfl rfl (fun w0 F0=> ?_)
 refine fcC (bW 0 J) (fun hS0=> ?_)
 obtain⟨hma0,hms0,hme0⟩:=cJ hS0
 refine fcC (bW 1 J) (fun hS1=> ?_)
 obtain⟨hsa1,hss1,hse1⟩:=sLn hS1
 refine sq (rg (bx (key:=2) (cs:= [sl 1 rE_ m.aC,sl 1 gE m.sT]) J fun b2=>(bx (key:=3) (cs:= [sl 1 rE_ s.aC,sl 2 sE s.sT]) J fun b3=>(ag (nl (th (sq (bk (sq (rg (lPA J J T.aU J (bI (φs:= [agg [sl 1 rE_ m.aC,sl 1 gE m.sT]]) (φ:=bl (bM m)) ⟨J,tV⟩ (sysw.iB m) T.wP (no J (ag (nl (th ?_))))))))))))))))
 refine cd J (fun hc0=> ?_) (fun hc0=> ?_)
 ·try simp at hc0
  refine sq (rg (ag (nl (th (rt (rb (rt_ ?_)))))))
  have hr0:(20:Int)=(bK m s):=by
   unfold bK;rw[if_neg (by simp[hc0])]
  exact rE () [.tmp 4] J [int 20] ⟨.tmp J,tV⟩ (cA1 (fun x0=>rV [int x0]) hr0) trivial eX
 ·try simp at hc0
  refine sq (rg (lPA J J T.bA J (bI (φs:= [agg [sl 1 rE_ s.aC,sl 2 sE s.sT]]) (φ:=bl (cC s)) ⟨J,tV⟩ (prog2.iB s aS) T.Fa (no J (ag (nl (th ?_)))))))
  refine cd J (fun hc1=> ?_) (fun hc1=> ?_)
  ·try simp at hc1
   refine sq (rg (ag (nl (th (rt (rb (rt_ ?_)))))))
   have hr0:(30:Int)=(bK m s):=by
    unfold bK;rw[if_pos (by simpa using hc0),if_neg (by simp[hc1])]
   exact rE () [.tmp 4] J [int 30] ⟨.tmp J,tV⟩ (cA1 (fun x0=>rV [int x0]) hr0) trivial eX
  ·try simp at hc1
   refine sq (rg (fP J T.hU (lP J J J T.dE (fP J T.eD (lP J J J T.dE (bI (φs:= [sl 1 rE_ m.aC,sl 1 rE_ s.aC]) (φ:=bl (decide (m.aC=s.aC))) ⟨J,J,tV⟩ (prog.iY _ _) T.zI (no J (ag (nl (th ?_))))))))))
   refine cd J (fun hc2=> ?_) (fun hc2=> ?_)
   ·try simp at hc2
    refine sq (rg (ag (nl (th (rt (rb (rt_ ?_)))))))
    have hr0:(10:Int)=(bK m s):=by
     unfold bK;rw[if_pos (by simpa using hc0),if_pos (by simpa using hc1),if_neg hc2]
    exact rE () [.tmp 4] J [int 10] ⟨.tmp J,tV⟩ (cA1 (fun x0=>rV [int x0]) hr0) trivial eX
   ·try simp at hc2
    refine sk (eb (th (sq (rg (ag (nl (th (rt ?_))))))))
    have hr0:(0:Int)=(bK m s):=by
     unfold bK;rw[if_pos (by simpa using hc0),if_pos (by simpa using hc1),if_pos hc2]
    exact rE () [.tmp 4] J [int 0] ⟨.tmp J,tV⟩ (cA1 (fun x0=>rV [int x0]) hr0) trivial eX
theorem GG (m:aA) (hm:bC m) (s:SS) (hs:oK s):
 AL.Fn Tryz.prog 70 [sys m,spec s] [] (ι:= { v:VJ//zP m s v }) (fun _ i=>Wh i.1) (fun _=> []):=by
 refine fnI Tryz.func70 rfl rfl (fun w0 F0=> ?_)
 have f1:=hm.few1;have f2:=hs.few1;have f3:=hs.n8;have f4:=hm.n8;have g0:=hm.few0;have g1:=hs.few0;have hmm:m.sT.length*s.sT.length≤10000*10000:=Nat.mul_le_mul f1 f2
 refine fcC (bW 0 J) (fun hS0=> ?_)
 obtain⟨hma0,hms0,hme0⟩:=cJ hS0
 refine fcC (bW 1 J) (fun hS1=> ?_)
 obtain⟨hsa1,hss1,hse1⟩:=sLn hS1
 refine sq (rg (bx (key:=2) (cs:= [sl 1 rE_ m.aC,sl 1 gE m.sT]) J fun b2=>(bx (key:=3) (cs:= [sl 1 rE_ s.aC,sl 2 sE s.sT]) J fun b3=>(al (key:=4) T.z68 (eC (eC (eC (eC eZ)))) fun b4=>(nl (th (sq (rg (mkm (key:=16) (kE:=cD) (dom:=eQ) (vE:=blV) fun b16=>(bd (css:= [(0,_),(1,_)]) T.xU (eC (eC eZ)) ⟨J,J,p1 (φ:=int 0) J,⟨J,J,p1 (φ:=int 0) J,tV⟩⟩ (AL.insert (q:=(0,0)) (u:=true) J J eK J T.GA ⟨⟨O,O⟩,⟨O,O⟩⟩ (mv (ag (nl (th (sq (rg (bd (css:= [(0,_)]) T.RG (eC (eC eZ)) ⟨J,J,p1 (φ:=int (-1)) J,tV⟩ (bd (css:= [(0,_)]) T.RH (eC (eC (eC (eC eZ)))) ⟨J,J,pA (cs:= [int (-1),int 0]) J,tV⟩ (bsO 21 (enc:=pK) (xs:= [⟨0,0,(-1),0⟩]) (css:= [[int (-1),int 0,int 0,int 0]]) T.KT ⟨J,J,pA (cs:= [int (-1),int 0,int 0,int 0]) J,tV⟩ J J J J fun v21=>(ag (nl (th (sq (sq (rg (ag (nl (th (bk ?_))))))))))))))))))))))))))))))
 have hI0_0:QJ m s ([⟨0,0,(-1),0⟩]:List WalkM.Mt)∧qR (bQ ([]:List ((Int × Int) × Bool)) (0,0) true) ([⟨0,0,(-1),0⟩]:List WalkM.Mt)∧0≤([⟨0,0,(-1),0⟩]:List WalkM.Mt).length∧∀k,k<0→kN m s ([⟨0,0,(-1),0⟩]:List WalkM.Mt) k:=by
  exact⟨Tb hm hs,Mx,by simp,fun k hk=>absurd hk O⟩
 refine lp (κ:=Nat × Value × (List WalkM.Mt) × (List ((Int × Int) × Bool))) (fun p=> [(2,ptr 2 b2 0),(3,ptr 3 b3 0),(4,ptr 4 b4 0),(5,mpv 16 b16),(6,osl 21 p.2.1),(7,int (p.1:Int))]) (fun p=> [(2,cell b2 [sl 1 rE_ m.aC,sl 1 gE m.sT]),(3,cell b3 [sl 1 rE_ s.aC,sl 2 sE s.sT]),(4,cell b4 [bl false,eqv (.slice none 0 0),eqv (.slice none 0 0),int 0]),(16,mp b16 cD eQ blV p.2.2.2),(21,own p.2.1 155 4 pK p.2.2.1)]) (fun p=>QJ m s p.2.2.1∧qR p.2.2.2 p.2.2.1∧p.1≤p.2.2.1.length∧∀k,k<p.1→kN m s p.2.2.1 k) (fun p=>m.sT.length*s.sT.length- p.1) ⟨0,v21,([⟨0,0,(-1),0⟩]:List WalkM.Mt),bQ ([]:List ((Int × Int) × Bool)) (0,0) true⟩ hI0_0 ⟨id,id,id,id,id,id,tV⟩ ⟨rI,rI,rI,rI,rI,tV⟩ ?_
 intro⟨i,v,q,mm⟩ hG0
 obtain⟨hq,hsm,hil,hdone⟩:QJ m s q∧qR mm q∧i≤q.length∧∀k,k<i→kN m s q k:=hG0
 show Ct _ _ _ _ [(2,ptr 2 b2 0),(3,ptr 3 b3 0),(4,ptr 4 b4 0),(5,mpv 16 b16),(6,osl 21 v),(7,int (i:Int))] [(2,cell b2 [sl 1 rE_ m.aC,sl 1 gE m.sT]),(3,cell b3 [sl 1 rE_ s.aC,sl 2 sE s.sT]),(4,cell b4 [bl false,eqv (.slice none 0 0),eqv (.slice none 0 0),int 0]),(16,mp b16 cD eQ blV mm),(21,own v 155 4 pK q)] _
 have hql:=MJ hq
 refine sq (sq (rg (mv (mv (lnO J J T.wU (bi J J aZ (nl (th ?_))))))))
 refine cd J (fun hc0=> ?_) (fun hc0=> ?_)
 ·try simp at hc0
  have hbd:=hq.bd _ (aO hc0)
  have hsy:=hs.st (ix q i).t.toNat O
  have hyl:=hsy.len
  have hoff:∀e∈(ix m.sT (ix q i).s.toNat),0≤e.1∧e.1<8:=fun e he=>by have:=hm.ed (ix q i).s.toNat O e he;omega
  refine sk (th (sq (bk (sq (rg (mv (mv (iO J J J T.wU O O (fO J T.GF (lOA J J gB T.fS (by decide) (al (key:=8) T.z80 (eC (eC eZ)) fun b8=>(sPA (cs':= [int (ix q i).s,int (ix q i).t]) J J J T.fS J J (nl (th (sq (rg (fP J T.bO (lP J J J T.cM (iPA J J T.kL T.aH J (lP J J J T.aH (iF J J T.dB O gB (lFA J T.eO (Nat.le_of_ble_eq_true J) (al (key:=9) T.z79 (eC (eC eZ)) fun b9=>(sPA (cs':= [sl 1 nE (ix s.sT (ix q i).t.toNat).aP,sl 1 nE (ix s.sT (ix q i).t.toNat).next]) J J J T.eO J J (nl (th (sq (sq (dr (nh:=10) [0,0,2,0,8,30,62,126,255,511] T.mixed kR ?_)))))))))))))))))))))))))))))
  refine st_ J (fun _ _ _ gq kq=>lPA (gq.1.trans J) J T.eO J kq) ?_
  refine st_ J (fun _ _ _ gq kq=>fP (gq.1.trans J) T.bY kq) ?_
  refine st_ J (fun _ _ _ gq kq=>lP (gq.1.trans J) J J T.dA kq) ?_
  refine st_ J (fun _ _ _ gq kq=>iPA (gq.1.trans J) J T.kL T.aH J kq) ?_
  refine st_ J (fun _ _ _ gq kq=>lP (gq.1.trans J) J J T.aH kq) ?_
  refine st_ J (fun _ _ _ gq kq=>iF (gq.1.trans J) (gq.2.1.trans J) T.gY O gB kq) ?_
  refine st_ J (fun _ _ _ gq kq=>lF (gq.1.trans J) J T.fK kq) ?_
  refine st_ J (fun _ _ _ gq kq=>bI (φs:= [sl 2 pE (ix m.sT (ix q i).s.toNat)]) (φ:=int (cX (ix m.sT (ix q i).s.toNat))) ⟨(gq.1.trans J),tV⟩ (sysw.tU (ix m.sT (ix q i).s.toNat) aS) T.Fh kq) ?_
  refine st_ J (fun _ _ _ gq kq=>bI (φs:= [agg [sl 1 nE (ix s.sT (ix q i).t.toNat).aP,sl 1 nE (ix s.sT (ix q i).t.toNat).next],int (cX (ix m.sT (ix q i).s.toNat))]) (φ:=bl (decide ((cX (ix m.sT (ix q i).s.toNat))∈(ix s.sT (ix q i).t.toNat).aP))) ⟨(gq.1.trans J),(gq.2.1.trans J),tV⟩ (search.rC (ix s.sT (ix q i).t.toNat) (hs.st _ O).rise (cX (ix m.sT (ix q i).s.toNat))) T.EZ kq) ?_
  refine st_ J (fun _ _ _ gq kq=>no (gq.1.trans J) kq) ?_
  refine pn (nl (th ?_))
  refine cd J (fun hc1=> ?_) (fun hc1=> ?_)
  ·try simp at hc1
   have hnacc:bR m (ix q i).s.toNat∉acc s (ix q i).t.toNat:=by simpa using hc1
   refine sq (fzC 21 6 J J (dr (nh:=6) [0,0,3,0,8,31,63] T.mixed kR ?_))
   refine st_ J (fun _ _ _ gq kq=>mv' (gq.1.trans J) kq) ?_
   refine st_ J (fun _ _ _ gq kq=>mv' (gq.1.trans J) kq) ?_
   refine st_ J (fun _ _ _ gq kq=>bI (φs:= [sl 4 pK q,int (i:Int)]) (φ:=sl 1 nE (fX q i)) ⟨(gq.1.trans J),(gq.2.1.trans J),tV⟩ (satj.Tz q (Td hq) i O) T.Wj kq) ?_
   refine st_ J (fun _ _ _ gq kq=>iPA (gq.1.trans J) J T.kL T.aH J kq) ?_
   refine st_ J (fun _ _ _ gq kq=>lP (gq.1.trans J) J J T.aH kq) ?_
   refine st_ J (fun _ _ _ gq kq=>bd (css:= [(2,_),(3,_)]) T.Qg (eC (eC (eC (eC eZ)))) ⟨J,J,p1 (φ:=sl 1 nE (fX q i)) (by exact(gq.1.trans J)),⟨J,J,p1 (φ:=int (ix q i).s) (by exact(gq.2.1.trans J)),tV⟩⟩ kq) ?_
   refine pn (sPA (cs':= [bl false,eqv (.slice none 0 0),sl 1 nE (fX q i),int (ix q i).s]) J J J T.lU J J (nl (th (rt (rt_ (rb (rt_ (rt_ (rb (rt_ ?_))))))))))
   refine eB 4 1 (sl 2 pE []) rfl rfl slnil ?_
   exact rE ⟨⟨false,[],fX q i,(ix q i).s⟩,⟨fun h=>(nomatch (show false=true from h)),fun _=>⟨VK hq hc0 hnacc,J,q,i,hq,hc0,J,J,hdone,hnacc⟩⟩⟩ [.cell 4 68] J [agg [bl false,sl 2 pE [],sl 1 nE (fX q i),int (ix q i).s]] ⟨.agg J J T.lU J J,tV⟩ J trivial eX
  ·try simp at hc1
   have hacc:bR m (ix q i).s.toNat∈acc s (ix q i).t.toNat:=by simpa using hc1
   refine sk (th (sq (rg (fP J T.bY (lP J J J T.dA (iPA J J T.kL T.aH J (lP J J J T.aH (iF J J T.gY O gB (lF J J T.fK (fc (bL 60 J) fun hm60=>(lnF J T.dU (mv (nl (th (bk ?_)))))))))))))))
   have hI1_0:0≤(ix m.sT (ix q i).s.toNat).length:=by
    first|omega|simp
   have hI1_1:sJ m s q i 0 q mm:=by
    exact MK hq hsm hdone
   refine lp (κ:=Nat × Value × (List WalkM.Mt) × (List ((Int × Int) × Bool))) (fun p=> [(2,ptr 2 b2 0),(3,ptr 3 b3 0),(4,ptr 4 b4 0),(5,mpv 16 b16),(6,osl 21 p.2.1),(7,int (i:Int)),(9,ptr 9 b9 0),(60,sl 2 pE (ix m.sT (ix q i).s.toNat)),(61,int ((ix m.sT (ix q i).s.toNat).length:Int)),(62,int (p.1:Int))]) (fun p=> [(2,cell b2 [sl 1 rE_ m.aC,sl 1 gE m.sT]),(3,cell b3 [sl 1 rE_ s.aC,sl 2 sE s.sT]),(4,cell b4 [bl false,eqv (.slice none 0 0),eqv (.slice none 0 0),int 0]),(8,cell b8 [int (ix q i).s,int (ix q i).t]),(9,cell b9 [sl 1 nE (ix s.sT (ix q i).t.toNat).aP,sl 1 nE (ix s.sT (ix q i).t.toNat).next]),(16,mp b16 cD eQ blV p.2.2.2),(21,own p.2.1 155 4 pK p.2.2.1)]) (fun p=>(p.1≤(ix m.sT (ix q i).s.toNat).length)∧(sJ m s q i p.1 p.2.2.1 p.2.2.2)) (fun p=>(ix m.sT (ix q i).s.toNat).length- p.1) ⟨0,v,q,mm⟩ ⟨hI1_0,hI1_1⟩ ⟨id,id,id,id,id,id,id,id,id,id,tV⟩ ⟨rI,rI,rI,rI,rI,rI,rI,tV⟩ ?_
   intro⟨k1,v2,q2,mm2⟩ hG1
   obtain⟨hk1,hI1⟩:(k1≤(ix m.sT (ix q i).s.toNat).length)∧(sJ m s q i k1 q2 mm2):=hG1
   show Ct _ _ _ _ [(2,ptr 2 b2 0),(3,ptr 3 b3 0),(4,ptr 4 b4 0),(5,mpv 16 b16),(6,osl 21 v2),(7,int (i:Int)),(9,ptr 9 b9 0),(60,sl 2 pE (ix m.sT (ix q i).s.toNat)),(61,int ((ix m.sT (ix q i).s.toNat).length:Int)),(62,int (k1:Int))] [(2,cell b2 [sl 1 rE_ m.aC,sl 1 gE m.sT]),(3,cell b3 [sl 1 rE_ s.aC,sl 2 sE s.sT]),(4,cell b4 [bl false,eqv (.slice none 0 0),eqv (.slice none 0 0),int 0]),(8,cell b8 [int (ix q i).s,int (ix q i).t]),(9,cell b9 [sl 1 nE (ix s.sT (ix q i).t.toNat).aP,sl 1 nE (ix s.sT (ix q i).t.toNat).next]),(16,mp b16 cD eQ blV mm2),(21,own v2 155 4 pK q2)] _
   have hq2l:=MJ hI1.qi
   refine sq (rg (bi J J aZ (nl (th (sq ?_)))))
   refine cd J (fun hc2=> ?_) (fun hc2=> ?_)
   ·try simp at hc2
    have hek:=hm.ed (ix q i).s.toNat O _ (aO hc2)
    have hgo:=zO hm hs (x:=(ix q i).s.toNat) (y:=(ix q i).t.toNat) O O hacc (aO hc2)
    obtain⟨hgo1,hgo2,hgo3⟩:=hgo
    dsimp only [nxt,edg] at hgo1 hgo2 hgo3 hek
    refine sk (th (sq (bk (sq (rg (iF J J T.dU O gB (lFA J T.dP (Nat.le_of_ble_eq_true J) (al (key:=11) T.z94 (eC (eC eZ)) fun b11=>(sPA (cs':= [int ((ix (ix m.sT (ix q i).s.toNat) k1).1),int ((ix (ix m.sT (ix q i).s.toNat) k1).2)]) J J J T.dP J J (nl (th (sq ?_))))))))))))
    refine drH (nh:=11) [0,1,0,4,0,16,60,124,255,0,1023] [(none,[]),(none,[11]),(none,[]),(none,[9]),(none,[]),(none,[11]),(none,[]),(none,[]),(none,[]),(some 12,[]),(some 12,[12])] T.mixed kR kR ?_
    refine stv (d:=66) (fun β0=>ptr 11 b11 1) [] J bH (fun β0 _ _ _ _ gq gh kq=>fP (gq.1.trans J) T.eY kq) ?_
    refine stv (d:=67) (fun β0=>int ((ix (ix m.sT (ix q i).s.toNat) k1).2)) [11] J bH (fun β0 _ _ _ _ gq gh kq=>lP (gq.1.trans J) (gh.1.trans J) J T.aH kq) ?_
    refine stv (d:=68) (fun β0=>ptr 9 b9 1) [] J bH (fun β0 _ _ _ _ gq gh kq=>fP (gq.1.trans J) T.eM kq) ?_
    refine stv (d:=69) (fun β0=>sl 1 nE (ix s.sT (ix q i).t.toNat).next) [9] J bH (fun β0 _ _ _ _ gq gh kq=>lP (gq.1.trans J) (gh.1.trans J) J T.bF kq) ?_
    refine stv (d:=70) (fun β0=>ptr 11 b11 0) [] J bH (fun β0 _ _ _ _ gq gh kq=>fP (gq.1.trans J) T.eE kq) ?_
    refine stv (d:=71) (fun β0=>int ((ix (ix m.sT (ix q i).s.toNat) k1).1)) [11] J bH (fun β0 _ _ _ _ gq gh kq=>lP (gq.1.trans J) (gh.1.trans J) J T.aH kq) ?_
    refine stv (d:=72) (fun β0=>fp [int (ix (ix s.sT (ix q i).t.toNat).next ((ix (ix m.sT (ix q i).s.toNat) k1).1).toNat)]) [] J bH (fun β0 _ _ _ _ gq gh kq=>iF (gq.1.trans J) (gq.2.1.trans J) T.aT O gB kq) ?_
    refine stv (d:=73) (fun β0=>int (ix (ix s.sT (ix q i).t.toNat).next ((ix (ix m.sT (ix q i).s.toNat) k1).1).toNat)) [] J bH (fun β0 _ _ _ _ gq gh kq=>lF (gq.1.trans J) J T.aH kq) ?_
    refine stv (d:=74) (fun β0=>agg [int ((ix (ix m.sT (ix q i).s.toNat) k1).2),int (ix (ix s.sT (ix q i).t.toNat).next ((ix (ix m.sT (ix q i).s.toNat) k1).1).toNat)]) [] J bH (fun β0 _ _ _ _ gq gh kq=>bd (css:= [(0,_),(1,_)]) T.xU (eC (eC eZ)) ⟨J,J,p1 (φ:=int ((ix (ix m.sT (ix q i).s.toNat) k1).2)) (by exact(gq.1.trans J)),⟨J,J,p1 (φ:=int (ix (ix s.sT (ix q i).t.toNat).next ((ix (ix m.sT (ix q i).s.toNat) k1).1).toNat)) (by exact(gq.2.1.trans J)),tV⟩⟩ kq) ?_
    refine sta 12 T.z80 (eC (eC eZ)) ?_
    refine stw 12 (fun β0=>cell (gbk (β0 9)) [int ((ix (ix m.sT (ix q i).s.toNat) k1).2),int (ix (ix s.sT (ix q i).t.toNat).next ((ix (ix m.sT (ix q i).s.toNat) k1).1).toNat)]) [12] J (fun β β' hb=>by first|rw[hb 9 J]|(dsimp only;rw[hb 9 J])) (fun β0 _ _ _ _ gq gh kq=>sPA (cs':= [int ((ix (ix m.sT (ix q i).s.toNat) k1).2),int (ix (ix s.sT (ix q i).t.toNat).next ((ix (ix m.sT (ix q i).s.toNat) k1).1).toNat)]) (gq.1.trans J) (gh.1.trans J) (gq.2.1.trans J) T.fS J J kq) ?_
    refine pnH fun β0=>(nl (th (sq (rg (mv (lPA J J T.fS J (lookup (z:=false) (q:=((ix (ix m.sT (ix q i).s.toNat) k1).2,ix (ix s.sT (ix q i).t.toNat).next ((ix (ix m.sT (ix q i).s.toNat) k1).1).toNat)) J J eK T.GA ⟨⟨O,O⟩,⟨O,O⟩⟩ T.Qe (no J (nl (th ?_))))))))))
    refine cd J (fun hc3=> ?_) (fun hc3=> ?_)
    ·try simp at hc3
     refine sq (rg (mv (lPA J J T.fS J (mapUpdate (q:=((ix (ix m.sT (ix q i).s.toNat) k1).2,ix (ix s.sT (ix q i).t.toNat).next ((ix (ix m.sT (ix q i).s.toNat) k1).1).toNat)) (u:=true) J J eK J T.GA ⟨⟨O,O⟩,⟨O,O⟩⟩ (nl (th (rg (mv (mv (fP J T.eE (lP J J J T.aH (bd (css:= [(0,_),(1,_)]) T.RG (eC (eC eZ)) ⟨J,J,p1 (φ:=int (i:Int)) J,⟨J,J,p1 (φ:=int ((ix (ix m.sT (ix q i).s.toNat) k1).1)) J,tV⟩⟩ (lPA J J T.fS J (bd (css:= [(0,_),(2,_)]) T.RH (eC (eC (eC (eC eZ)))) ⟨J,J,pA (cs:= [int (i:Int),int ((ix (ix m.sT (ix q i).s.toNat) k1).1)]) J,⟨J,J,pA (cs:= [int ((ix (ix m.sT (ix q i).s.toNat) k1).2),int (ix (ix s.sT (ix q i).t.toNat).next ((ix (ix m.sT (ix q i).s.toNat) k1).1).toNat)]) J,tV⟩⟩ (bsE (enc:=pK) (xs:= [⟨((ix (ix m.sT (ix q i).s.toNat) k1).2),(ix (ix s.sT (ix q i).t.toNat).next ((ix (ix m.sT (ix q i).s.toNat) k1).1).toNat),(i:Int),((ix (ix m.sT (ix q i).s.toNat) k1).1)⟩]) (css:= [[int (i:Int),int ((ix (ix m.sT (ix q i).s.toNat) k1).1),int ((ix (ix m.sT (ix q i).s.toNat) k1).2),int (ix (ix s.sT (ix q i).t.toNat).next ((ix (ix m.sT (ix q i).s.toNat) k1).1).toNat)]]) T.KT ⟨J,J,pA (cs:= [int (i:Int),int ((ix (ix m.sT (ix q i).s.toNat) k1).1),int ((ix (ix m.sT (ix q i).s.toNat) k1).2),int (ix (ix s.sT (ix q i).t.toNat).next ((ix (ix m.sT (ix q i).s.toNat) k1).1).toNat)]) J,tV⟩ J J J J (ap (key:=21) (zs:= [⟨((ix (ix m.sT (ix q i).s.toNat) k1).2),(ix (ix s.sT (ix q i).t.toNat).next ((ix (ix m.sT (ix q i).s.toNat) k1).1).toNat),(i:Int),((ix (ix m.sT (ix q i).s.toNat) k1).1)⟩]) cB J J J T.KT (by unfold aN at*;simp;omega) (by unfold aN at*;simp;omega) fun v89=>(ag (nl (eb (th (rg (bi J J (aM i6) (mv (nl ?_))))))))))))))))))))))))
     have hN0:(k1+1)≤(ix m.sT (ix q i).s.toNat).length:=by
      first|omega|simp_all
     have hN1:sJ m s q i (k1+1) (q2++ [⟨((ix (ix m.sT (ix q i).s.toNat) k1).2),(ix (ix s.sT (ix q i).t.toNat).next ((ix (ix m.sT (ix q i).s.toNat) k1).1).toNat),(i:Int),((ix (ix m.sT (ix q i).s.toNat) k1).1)⟩]) (bQ mm2 ((ix (ix m.sT (ix q i).s.toNat) k1).2,ix (ix s.sT (ix q i).t.toNat).next ((ix (ix m.sT (ix q i).s.toNat) k1).1).toNat) true):=by
      exact ML hm hs hI1 hc0 hacc hc2 rfl rfl (by simpa using hc3)
     exact ln (⟨k1+1,v89,q2++ [⟨((ix (ix m.sT (ix q i).s.toNat) k1).2),(ix (ix s.sT (ix q i).t.toNat).next ((ix (ix m.sT (ix q i).s.toNat) k1).1).toNat),(i:Int),((ix (ix m.sT (ix q i).s.toNat) k1).1)⟩],bQ mm2 ((ix (ix m.sT (ix q i).s.toNat) k1).2,ix (ix s.sT (ix q i).t.toNat).next ((ix (ix m.sT (ix q i).s.toNat) k1).1).toNat) true⟩:Nat × Value × (List WalkM.Mt) × (List ((Int × Int) × Bool))) ⟨hN0,hN1⟩ dO ⟨id,id,id,id,id,id,id,id,id,id,tV⟩ ⟨rI,rI,rI,rI,rI,rI,rI,tV⟩
    ·try simp at hc3
     refine sk (eb (th (rg (bi J J (aM i6) (mv (nl ?_))))))
     have hN0:(k1+1)≤(ix m.sT (ix q i).s.toNat).length:=by
      first|omega|simp_all
     have hN1:sJ m s q i (k1+1) q2 mm2:=by
      exact MM hI1 hc2 rfl rfl (by simpa using hc3)
     exact ln (⟨k1+1,v2,q2,mm2⟩:Nat × Value × (List WalkM.Mt) × (List ((Int × Int) × Bool))) ⟨hN0,hN1⟩ dO ⟨id,id,id,id,id,id,id,id,id,id,tV⟩ ⟨rI,rI,rI,rI,rI,rI,rI,tV⟩
   ·try simp at hc2
    refine ex (xt_ (xt_ (xb (eb (th (rg (mv (bi J J (aM i6) (ag (nl ?_))))))))))
    have hN0:QJ m s q2∧qR mm2 q2∧(i+1)≤q2.length∧∀k,k<(i+1)→kN m s q2 k:=by
     exact PG hI1 hc0 hacc O
    exact ln (⟨i+1,v2,q2,mm2⟩:Nat × Value × (List WalkM.Mt) × (List ((Int × Int) × Bool))) hN0 dO ⟨id,id,id,id,id,id,tV⟩ ⟨rI,rI,rI,rI,rI,tV⟩
 ·try simp at hc0
  refine ex (xt_ (xt_ (xb (th (sq (rg (bd (css:= [(0,_)]) T.Qg (eC (eC (eC (eC eZ)))) ⟨J,J,p1 (φ:=bl true) J,tV⟩ (al (key:=13) T.z68 (eC (eC (eC (eC eZ)))) fun b13=>(sPA (cs':= [bl true,eqv (.slice none 0 0),eqv (.slice none 0 0),int 0]) J J J T.lU J J (nl (th (sq (sq (rg (mv (lnO J J T.wU (mv (nl (th (bk ?_))))))))))))))))))))
  refine nwC 130 80 2 pE (nS 13 1 (osl 130 (.slice none 0 0)) rfl rfl dR ?_)
  have hI2_0:0≤q.length:=by
   first|omega|simp
  have hI2_1:([]:List (Int × Int))=(q.take 0).map dF:=by
   rfl
  refine lp (κ:=Nat × Value × (List (Int × Int))) (fun p=> [(4,ptr 4 b4 0),(13,ptr 13 b13 0),(92,osl 21 v),(93,int (q.length:Int)),(94,int (p.1:Int))]) (fun p=> [(2,cell b2 [sl 1 rE_ m.aC,sl 1 gE m.sT]),(3,cell b3 [sl 1 rE_ s.aC,sl 2 sE s.sT]),(4,cell b4 [bl false,eqv (.slice none 0 0),eqv (.slice none 0 0),int 0]),(13,cell b13 [bl true,osl 130 p.2.1,eqv (.slice none 0 0),int 0]),(16,mp b16 cD eQ blV mm),(21,own v 155 4 pK q),(130,own p.2.1 80 2 pE p.2.2)]) (fun p=>(p.1≤q.length)∧(p.2.2=(q.take p.1).map dF)) (fun p=>q.length- p.1) ⟨0,(.slice none 0 0),([]:List (Int × Int))⟩ ⟨hI2_0,hI2_1⟩ ⟨id,id,id,id,id,tV⟩ ⟨rI,rI,rI,rI,rI,rI,rI,tV⟩ ?_
  intro⟨k2,vp,prs⟩ hG2
  obtain⟨hk2,hI2⟩:(k2≤q.length)∧(prs=(q.take k2).map dF):=hG2
  show Ct _ _ _ _ [(4,ptr 4 b4 0),(13,ptr 13 b13 0),(92,osl 21 v),(93,int (q.length:Int)),(94,int (k2:Int))] [(2,cell b2 [sl 1 rE_ m.aC,sl 1 gE m.sT]),(3,cell b3 [sl 1 rE_ s.aC,sl 2 sE s.sT]),(4,cell b4 [bl false,eqv (.slice none 0 0),eqv (.slice none 0 0),int 0]),(13,cell b13 [bl true,osl 130 vp,eqv (.slice none 0 0),int 0]),(16,mp b16 cD eQ blV mm),(21,own v 155 4 pK q),(130,own vp 80 2 pE prs)] _
  have hpl:prs.length≤k2:=by rw[hI2];simp;omega
  refine sq (rg (bi J J aZ (nl (th (sq ?_)))))
  refine cd J (fun hc4=> ?_) (fun hc4=> ?_)
  ·try simp at hc4
   refine sk (th (sq (bk (sq (rg (iO J J J T.wU O O (lOA J J gB T.Nj (by decide) (al (key:=15) T.Yj (eC (eC (eC (eC eZ)))) fun b15=>(sPA (cs':= [int (ix q k2).before,int (ix q k2).action,int (ix q k2).s,int (ix q k2).t]) J J J T.Nj J J (nl (th (rg (fP J T.DF (lP J J J T.pS (fP J T.GF (lPA J J T.fS J (bs (css:= [[int (ix q k2).s,int (ix q k2).t]]) T.rT ⟨J,J,pA (cs:= [int (ix q k2).s,int (ix q k2).t]) J,tV⟩ J J J (ap (key:=130) (zs:= [((ix q k2).s,(ix q k2).t)]) cB J J J T.rT (by unfold aN at*;simp;omega) (by unfold aN at*;simp;omega) fun v103=>(fP J T.DF (cK J J J J T.pS J (nl (eb (th (rg (bi J J (aM i6) (mv (nl ?_)))))))))))))))))))))))))))
   have hN0:(k2+1)≤q.length:=by
    first|omega|simp_all
   have hN1:(prs++ [((ix q k2).s,(ix q k2).t)])=(q.take (k2+1)).map dF:=by
    rw[hI2,bN hc4,List.map_append];rfl
   exact ln (⟨k2+1,v103,prs++ [((ix q k2).s,(ix q k2).t)]⟩:Nat × Value × (List (Int × Int))) ⟨hN0,hN1⟩ dO ⟨id,id,id,id,id,tV⟩ ⟨rI,rI,rI,rI,rI,rI,rI,tV⟩
  ·try simp at hc4
   refine ex (xt_ (xt_ (xb (th (sq (rg (fP J T.DF (lP J J J T.pS ?_))))))))
   have hbp:∀p∈prs,bdP p:=by rw[hI2,show k2=q.length by omega,List.take_length];exact Wi hm hs hq
   refine cal (Hi:= [(130,own vp 80 2 pE prs)]) (φs:= [osl 5 vp,eqv (.func (.func 118) #[] #[])]) ⟨dV.trans dV.symm,rfl,tV⟩ (nM 5 130 (sortE.Io vp prs aS)) T.Nk ⟨rI,tV⟩ fun _ _=>(nl (th (sq (rg (fzc 13 130 1 rfl rfl rfl rfl (lPA rfl rfl T.lU rfl (sPA (cs':= [bl true,sl 2 pE (bT prs),eqv (.slice none 0 0),int 0]) rfl rfl rfl T.lU rfl rfl (nl (th (rt ?_))))))))))
   refine eB 4 2 (sl 1 nE []) rfl rfl slnil ?_
   exact rE ⟨⟨true,bT prs,[],0⟩,⟨fun _=>⟨Te hm hs hq (fun k hk=>hdone k O),J,J,q,hq,fun k hk=>hdone k O,by rw[hI2,show k2=q.length by omega,List.take_length]⟩,fun h=>(nomatch (show true=false from h))⟩⟩ [.cell 4 68] J [agg [bl true,sl 2 pE (bT prs),sl 1 nE [],int 0]] ⟨.agg J J T.lU J J,tV⟩ J trivial eX
theorem sU (m:aA) (s:SS) (hsm:dH s):
 AL.Fn Tryz.prog 43 [sys m,spec s] [] (ι:= { v:VJ//oH m s v }) (fun _ i=>tup [Wh i.1,int (bK m s)]) (fun _=> []):=by
 refine fnI Tryz.func43 rfl rfl (fun w0 F0=> ?_)
 refine fcC (bW 0 J) (fun hS0=> ?_)
 obtain⟨hma0,hms0,hme0⟩:=cJ hS0
 refine fcC (bW 1 J) (fun hS1=> ?_)
 obtain⟨hsa1,hss1,hse1⟩:=sLn hS1
 refine sq (rg (bx (key:=2) (cs:= [sl 1 rE_ m.aC,sl 1 gE m.sT]) J fun b2=>(bx (key:=3) (cs:= [sl 1 rE_ s.aC,sl 2 sE s.sT]) J fun b3=>(al (key:=4) T.z68 (eC (eC (eC (eC eZ)))) fun b4=>(ag (nl (th (sq (sq (rg (lPA J J T.aU J (lPA J J T.bA J (bI (φs:= [agg [sl 1 rE_ m.aC,sl 1 gE m.sT],agg [sl 1 rE_ s.aC,sl 2 sE s.sT]]) (φ:=int (bK m s)) ⟨J,J,tV⟩ (satj.vA m s aS) T.KU (ag (nl (th (sq (rg (mv (bi J J fV (nl (th ?_))))))))))))))))))))))
 refine cd J (fun hc0=> ?_) (fun hc0=> ?_)
 ·try simp at hc0
  refine sq (rg (bd (css:= []) T.Qg (eC (eC (eC (eC eZ)))) trivial (mv (sPA (cs':= [bl false,eqv (.slice none 0 0),eqv (.slice none 0 0),int 0]) J J J T.lU J J (ag (nl (th (rt (rt_ ?_)))))))))
  refine eB 4 1 (sl 2 pE []) rfl rfl slnil ?_
  refine eB 4 2 (sl 1 nE []) rfl rfl slnil ?_
  exact rE ⟨⟨false,[],[],0⟩,⟨fun h=>absurd h hc0,fun _=>J⟩⟩ [.cell 4 68,.tmp 5] J [agg [bl false,sl 2 pE [],sl 1 nE [],int 0],int (bK m s)] ⟨.agg J J T.lU J J,.tmp J,tV⟩ J trivial eX
 ·try simp at hc0
  obtain⟨hmv,hsv,hac⟩:=lB hc0
  have hm:=cU hmv
  have hs:=eJ hsv
  refine sk (th (sq (rg (lPA J J T.aU J (lPA J J T.bA J (cl (satj.GG m aS s aS) T.RI trivial fun N16 i16=>(sPA (cs':= [bl i16.1.holds,sl 2 pE i16.1.pairs,sl 1 nE i16.1.word,int i16.1.state]) J J J T.lU J J (ag (nl (th (rt ?_)))))))))))
  have hr0:(0:Int)=(bK m s):=by
   exact hc0.symm
  exact rE ⟨i16.1,⟨fun _=>i16.2,fun h=>absurd hc0 h⟩⟩ [.cell 4 68,.tmp 5] J [agg [bl i16.1.holds,sl 2 pE i16.1.pairs,sl 1 nE i16.1.word,int i16.1.state],int 0] ⟨.agg J J T.lU J J,.tmp J,tV⟩ (cA1 (fun x0=>rV [agg [bl i16.1.holds,sl 2 pE i16.1.pairs,sl 1 nE i16.1.word,int i16.1.state],int x0]) hr0) trivial eX
end satj
end
section
namespace BesM
open ref01 ref03 ref04 ref06 Part Rungs LeftM TrimM RoundM MergeM BisM BisM4 BisM5 Keys WalkM WitM JudgM LevM divr divs divd dive divf divv judg sysw satj ChsM BisS TrimI QuoM FailM DivM RefM GenW CompM CompP prodp
abbrev Sd:=List Int × Int
def Yk (m:aA) (l:List Int):List Int:=l.map fun x=>bR m x.toNat
def sA (m:aA) (t:SS) (p:Sd):List Int:=Nc (Yk m p.1) (acc t p.2.toNat)
def sN (m:aA) (t:SS) (p:Sd) (a:Nat):Sd:=(Xx m p.1 (a:Int),ix (nxt t p.2.toNat) a)
structure sOk (m:aA) (t:SS) (p:Sd):Prop where
 rise:p.1.Pairwise (· < ·)
 bd:∀x∈p.1,0≤x∧x<(m.sT.length:Int)
 x0:0≤p.2
 x1:p.2<(t.sT.length:Int)
structure Yl (m:aA) (t:SS) (l:List Sd) (D:SS):Prop where
 numb:yH (sA m t) (sN m t) m.aC.length ([0],0) l D
 ok:∀p∈l,sOk m t p
 acts:D.aC=m.aC
structure Yz (m:aA) (t D:SS):Prop where
 hol:ix (hOl t) 0=true→D=nothing t.aC
 num:ix (hOl t) 0=false→∃l,Yl m (tR t).1 l D∧l.length≤2^m.sT.length*t.sT.length
end BesM
end
section
namespace TogM
open ref01 ref03 ref04 ref06 Part Rungs LeftM TrimM RoundM BisM BisM5 BisM6 WalkM WitM JudgM FailM FitM PartM QuoM
variable {m n:aA} {t:SS}
theorem goT (hm:bC m) (hn:bC n) (ht:oK t) {p:T3} (hp:0≤p.1∧p.1<(m.sT.length:Int)∧0≤p.2.1∧p.2.1<(n.sT.length:Int)∧0≤p.2.2∧p.2.2<(t.sT.length:Int)) (hb:¬KR m n t p) {d e:PP} (hd:d∈edg m p.1.toNat) (he:e∈edg n p.2.1.toNat) (h:d.1=e.1):
 0≤d.2∧d.2<(m.sT.length:Int)∧0≤e.2∧e.2<(n.sT.length:Int)∧0≤ix (nxt t p.2.2.toNat) d.1.toNat∧ix (nxt t p.2.2.toNat) d.1.toNat<(t.sT.length:Int)∧d.1.toNat<t.aC.length:=by
 obtain⟨p0,p1,p2,p3,p4,p5⟩:=hp
 have h1:=hm.ed p.1.toNat O d hd
 have h2:=hn.ed p.2.1.toNat O e he
 have hz:p.2.2.toNat<t.sT.length:=by omega
 have hin:bS (bR m p.1.toNat) (bR n p.2.1.toNat)∈acc t p.2.2.toNat:=Classical.byContradiction hb
 have hg:=LeftM.FX (ht.st _ hz) hin (a:=d.1.toNat) (by rw[QuoM.oV,gQ.2 ⟨d,hd,rfl⟩,gQ.2 ⟨e,he,by rw[h]⟩];rfl)
 exact⟨h1.2.2.1,h1.2.2.2,h2.2.2.1,h2.2.2.2,hg.2,((ht.st _ hz).nx _ hg.1).2,hg.1⟩
theorem mZ (hm:bC m) (hn:bC n) (ht:oK t) {p:T3} (h:mY m n t p):0≤p.1∧p.1<(m.sT.length:Int)∧0≤p.2.1∧p.2.1<(n.sT.length:Int)∧0≤p.2.2∧p.2.2<(t.sT.length:Int):=by
 induction h with
 |zero=>
  have f1:=hm.few0
  have f2:=hn.few0
  have f3:=ht.few0
  exact⟨by simp,by show(0:Int)<_;omega,by simp,by show(0:Int)<_;omega,by simp,by show(0:Int)<_;omega⟩
 |step h1 h2 h3 h4 h5 ih=>
  have:=goT hm hn ht ih h2 h3 h4 h5
  exact⟨this.1,this.2.1,this.2.2.1,this.2.2.2.1,this.2.2.2.2.1,this.2.2.2.2.2.1⟩
def Qh (t:SS) (p:T3) (d e:PP):T3:=(d.2,e.2,ix (nxt t p.2.2.toNat) d.1.toNat)
structure TW (m n:aA) (t:SS) (i:Nat) (l:List T3):Prop where
 nd:l.Nodup
 z:((0,0,0):T3)∈l
 rch:∀p∈l,mY m n t p
 il:i≤l.length
 dn:∀j,j<i→¬KR m n t (ix l j)∧∀d∈edg m (ix l j).1.toNat,∀e∈edg n (ix l j).2.1.toNat,d.1=e.1→Qh t (ix l j) d e∈l
structure TN (m n:aA) (t:SS) (i:Nat) (l:List T3) (k1 k2:Nat) (l2:List T3):Prop where
 nd:l2.Nodup
 rch:∀p∈l2,mY m n t p
 pre:l<+:l2
 al1:∀d∈(edg m (ix l i).1.toNat).take k1,∀e∈edg n (ix l i).2.1.toNat,d.1=e.1→Qh t (ix l i) d e∈l2
 al2:∀e∈(edg n (ix l i).2.1.toNat).take k2,(ix (edg m (ix l i).1.toNat) k1).1=e.1→Qh t (ix l i) (ix (edg m (ix l i).1.toNat) k1) e∈l2
variable {i k1 k2:Nat} {l l2:List T3}
def Xz (b c:Nat) (p:T3):Nat:=(p.1.toNat*b+p.2.1.toNat)*c+p.2.2.toNat
def Ym (a b c:Nat) (p:T3):Prop:=0≤p.1∧p.1<(a:Int)∧0≤p.2.1∧p.2.1<(b:Int)∧0≤p.2.2∧p.2.2<(c:Int)
structure Tab (a b c:Nat) (l:List T3) (inn:List Bool):Prop where
 len:inn.length=a*b*c
 at_:∀p,Ym a b c p→ix inn (Xz b c p)=decide (p∈l)
end TogM
end
section
namespace BrkM
open ref01 ref03 ref04 ref06 Part Rungs LeftM TrimM RoundM BisM BisM5 BisM6 WalkM WitM JudgM FailM FitM PartM QuoM TogM
def pm (p:T3):T3:=(p.2.2,p.1,p.2.1)
structure BW (m x:aA) (t:SS) (i:Nat) (l:List T3) (mm:List (T3 × Bool)):Prop where
 tw:TW m x t i (l.map pm)
 sm:lT mm l
structure BN (m x:aA) (t:SS) (i:Nat) (l:List T3) (k1 k2:Nat) (l2:List T3) (mm2:List (T3 × Bool)):Prop where
 tn:TN m x t i (l.map pm) k1 k2 (l2.map pm)
 sm:lT mm2 l2
variable {m x:aA} {t:SS} {i k1 k2:Nat} {l l2:List T3} {mm mm2:List (T3 × Bool)}
def tgt (t:SS) (p:T3) (d e:PP):T3:=(e.2,ix (nxt t p.2.1.toNat) e.1.toNat,d.2)
end BrkM
end
section
namespace ProdM
open ref01 ref03 ref04 ref06 Part Rungs LeftM TrimM RoundM BisM BisM5 BisM6 WalkM WitM JudgM FailM FitM PartM QuoM TogM sysw
abbrev pos (q:List PP) (p:PP):Nat:=q.idxOf p
theorem vG {q:List PP} {p:PP} (h:p∈q):pos q p<q.length:=List.idxOf_lt_length_of_mem h
theorem Cz {q:List PP} {p:PP} (h:p∈q):ix q (pos q p)=p:=by rw[aG (vG h)];exact List.getElem_idxOf _
theorem TA {q r:List PP} {p:PP} (h:p∈q):pos (q++r) p=pos q p:=wL h
def lC (q F:List PP) (d:PP):List PP:=(F.filter fun e=>decide (d.1=e.1)).map fun e=>(d.1,(pos q ((d.2,e.2):PP):Int))
def kH (q E F:List PP):List PP:=E.flatMap (lC q F)
def sV (q E F:List PP):Prop:=∀d∈E,∀e∈F,d.1=e.1→((d.2,e.2):PP)∈q
theorem wV {q F:List PP} {d x:PP}:x∈lC q F d↔∃e∈F,d.1=e.1∧x=(d.1,(pos q ((d.2,e.2):PP):Int)):=by
 unfold lC
 rw[List.mem_map]
 constructor
 ·rintro⟨e,he,rfl⟩
  rw[List.mem_filter] at he
  exact⟨e,he.1,of_decide_eq_true he.2,rfl⟩
 ·rintro⟨e,he,h,rfl⟩
  exact⟨e,List.mem_filter.2 ⟨he,decide_eq_true h⟩,rfl⟩
theorem AW {q E F:List PP} {x:PP}:x∈kH q E F↔∃d∈E,∃e∈F,d.1=e.1∧x=(d.1,(pos q ((d.2,e.2):PP):Int)):=by
 unfold kH
 rw[List.mem_flatMap]
 exact⟨fun⟨d,hd,h⟩=>⟨d,hd,wV.1 h⟩,fun⟨d,hd,h⟩=>⟨d,hd,wV.2 h⟩⟩
theorem GH {q r F:List PP} {d:PP} (h:∀e∈F,d.1=e.1→((d.2,e.2):PP)∈q):lC (q++r) F d=lC q F d:=by
 unfold lC
 apply List.map_congr_left
 intro e he
 rw[List.mem_filter] at he
 rw[TA (h e he.1 (of_decide_eq_true he.2))]
theorem vH {α β:Type} {f g:α→List β}:∀{l:List α},(∀a∈l,f a=g a)→l.flatMap f=l.flatMap g
 | [],_=>rfl
 |a::l,h=>by rw[List.flatMap_cons,List.flatMap_cons,h a (List.mem_cons_self ..),vH (fun b hb=>h b (List.mem_cons_of_mem _ hb))]
theorem GI {q r E F:List PP} (h:sV q E F):kH (q++r) E F=kH q E F:=vH fun d hd=>GH (h d hd)
theorem Jy {q:List PP} {x y:PP} (hx:x∈q) (hy:y∈q) (h:pos q x=pos q y):x=y:=by
 have h1:=Cz hx
 have h2:=Cz hy
 rw[h] at h1
 exact h1.symm.trans h2
theorem KV {q F:List PP} {d:PP} (hF:F.Nodup) (h:∀e∈F,d.1=e.1→((d.2,e.2):PP)∈q):(lC q F d).Nodup:=by
 unfold lC
 rw[List.nodup_iff_pairwise_ne,List.pairwise_map]
 refine List.Pairwise.imp_of_mem ?_ (List.Nodup.sublist List.filter_sublist hF)
 intro a b ha hb hne e
 rw[List.mem_filter] at ha hb
 have a1:=of_decide_eq_true ha.2
 have b1:=of_decide_eq_true hb.2
 simp only [Prod.mk.injEq,true_and] at e
 have:=Jy (h a ha.1 a1) (h b hb.1 b1) O
 exact hne (Prod.ext (a1.symm.trans b1) (Prod.mk.inj this).2)
theorem CB {q F:List PP} (hF:F.Nodup):∀{E:List PP},E.Nodup→sV q E F→(kH q E F).Nodup
 | [],_,_=>List.nodup_nil
 |d::E,hE,h=>by
  unfold kH
  rw[List.flatMap_cons,List.nodup_append]
  have hd:=List.nodup_cons.1 hE
  refine⟨KV hF (h d (List.mem_cons_self ..)),CB hF hd.2 (fun a ha=>h a (List.mem_cons_of_mem _ ha)),fun x hx y hy e=> ?_⟩
  obtain⟨e1,he1,h1,rfl⟩:=wV.1 hx
  obtain⟨d2,hd2,e2,he2,h2,rfl⟩:=AW.1 (show y∈kH q E F from hy)
  simp only [Prod.mk.injEq] at e
  have:=Jy (h d (List.mem_cons_self ..) e1 he1 h1) (h d2 (List.mem_cons_of_mem _ hd2) e2 he2 h2) O
  have:d=d2:=Prod.ext e.1 (Prod.mk.inj this).1
  exact hd.1 (this▸hd2)
theorem GJ {q F:List PP} {d:PP}:(lC q F d).length≤F.length:=by
 unfold lC
 rw[List.length_map];exact List.length_filter_le _ _
theorem AX {q F:List PP}:∀{E:List PP},(kH q E F).length≤E.length*F.length
 | []=>by simp[kH]
 |d::E=>by
  unfold kH
  rw[List.flatMap_cons,List.length_append,List.length_cons,Nat.add_mul]
  have h1:=GJ (q:=q) (F:=F) (d:=d)
  have h2:(kH q E F).length≤E.length*F.length:=AX
  unfold kH at h2
  omega
theorem IA {A N:Nat} {l:List PP} (h:eW A N l=true):l.Nodup:=by
 unfold eW at h
 rw[Bool.and_eq_true] at h
 have hstep:∀j,j+1<l.length→ltP (ix l j) (ix l (j+1))=true:=fun j hj=>List.all_eq_true.1 h.2 j (List.mem_range.2 O)
 have key:∀d j,j+d+1<l.length→(ix l j).1<(ix l (j+d+1)).1∨((ix l j).1=(ix l (j+d+1)).1∧(ix l j).2<(ix l (j+d+1)).2):=by
  intro d
  induction d with
  |zero=>intro j hj;exact pH.1 (hstep j hj)
  |succ d ih=>
   intro j hj
   have h1:=ih j O
   have h2:=pH.1 (hstep (j+d+1) hj)
   rw[show j+(d+1)+1=j+d+1+1 by omega]
   omega
 rw[List.nodup_iff_pairwise_ne,List.pairwise_iff_getElem]
 intro i j hi hj hij e
 have:=key (j- i- 1) i O
 rw[show i+(j- i- 1)+1=j by omega,aG hi,aG hj,e] at this
 omega
theorem Ez {m:aA} (h:bM m=true) {x:Nat} (hx:x<m.sT.length):(edg m x).Nodup:=by
 unfold bM at h
 simp only [Bool.and_eq_true] at h
 exact IA (uW h.1.2 hx)
structure jC (m n k:aA) (q:List PP):Prop where
 acts:k.aC=m.aC
 ne:0<q.length
 hd:ix q 0=((0,0):PP)
 nd:q.Nodup
 box:∀p∈q,0≤p.1∧p.1<(m.sT.length:Int)∧0≤p.2∧p.2<(n.sT.length:Int)
 len:k.sT.length=q.length
 all:∀i,i<q.length→sV q (edg m (ix q i).1.toNat) (edg n (ix q i).2.toNat)
 row:∀i,i<q.length→edg k i=bT (kH q (edg m (ix q i).1.toNat) (edg n (ix q i).2.toNat))
variable {m n k:aA} {t:SS} {q:List PP}
theorem pL (h:jC m n k q) {i:Nat} (hi:i<q.length) {x:PP}:x∈edg k i↔∃d∈edg m (ix q i).1.toNat,∃e∈edg n (ix q i).2.toNat,d.1=e.1∧x=(d.1,(pos q ((d.2,e.2):PP):Int)):=by
 rw[h.row i hi,(fJ _).mem_iff,AW]
theorem Qi {a b c:Int} (ha:0≤a) (h:∀i:Nat,has a (i:Int)=(has b (i:Int)&&has c (i:Int))):a=bS b c:=by
 have h1:a.toNat=b.toNat&&&c.toNat:=by
  apply Nat.eq_of_testBit_eq
  intro i
  have:=h i
  unfold has at this
  simp only [Int.toNat_natCast] at this
  rw[Nat.testBit_and];exact this
 unfold bS
 omega
theorem GK (hm:bC m) (hn:bC n) (h:jC m n k q) {i:Nat} (hi:i<q.length):bR k i=bS (bR m (ix q i).1.toNat) (bR n (ix q i).2.toNat):=by
 have hb:=h.box _ (aO hi)
 refine Qi (oW _) fun a=> ?_
 rw[Bool.eq_iff_iff,Bool.and_eq_true]
 show has (cX (edg k i)) (a:Int)=true↔has (cX (edg m _)) (a:Int)=true∧has (cX (edg n _)) (a:Int)=true
 rw[gQ,gQ,gQ]
 constructor
 ·rintro⟨x,hx,rfl⟩
  obtain⟨d,hd,e,he,hde,rfl⟩:=(pL h hi).1 hx
  exact⟨⟨d,hd,rfl⟩,⟨e,he,by rw[←hde]⟩⟩
 ·rintro⟨⟨d,hd,h1⟩,⟨e,he,h2⟩⟩
  have b1:=hm.ed _ O d hd
  have b2:=hn.ed _ O e he
  exact⟨_,(pL h hi).2 ⟨d,hd,e,he,O,rfl⟩,h1⟩
theorem GL (hm:bC m) (hn:bC n) (ht:oK t) (h:jC m n k q):eR k t↔oG m n t:=by
 constructor
 ·rintro⟨R,hR,h00⟩ p hp
  have key:∃i,i<q.length∧ix q i=((p.1,p.2.1):PP)∧R i p.2.2.toNat:=by
   induction hp with
   |zero=>exact⟨0,h.ne,h.hd,h00⟩
   |step h1 h2 hd he hde ih=>
    rename_i p d e
    obtain⟨i,hi,hq,hr⟩:=ih
    have e1:(ix q i).1=p.1:=congrArg Prod.fst hq
    have e2:(ix q i).2=p.2.1:=congrArg Prod.snd hq
    have hb:=mZ hm hn ht h1
    have hx:=(pL h hi (x:=(d.1,(pos q ((d.2,e.2):PP):Int)))).2 ⟨d,by rw[e1];exact hd,e,by rw[e2];exact he,hde,rfl⟩
    have hin:=h.all i hi d (by rw[e1];exact hd) e (by rw[e2];exact he) hde
    have hm2:(d.1.toNat,pos q ((d.2,e.2):PP))∈edM k i:=List.mem_map.2 ⟨_,hx,rfl⟩
    have hn2:=hR.nxt hr _ hm2
    exact⟨_,vG hin,Cz hin,hn2.2⟩
  obtain⟨i,hi,hq,hr⟩:=key
  have hac:=hR.acc hr
  rw[GK hm hn h hi,hq] at hac
  exact fun hb=>hb hac
 ·intro hw
  have f2:=ht.few0
  refine⟨fun i z=>i<q.length∧mY m n t ((ix q i).1,(ix q i).2,(z:Int)),⟨fun {i z} ⟨hi,hr⟩=> ?_,fun {i z} ⟨hi,hr⟩=> ?_,fun {i z} ⟨hi,hr⟩ x hx=> ?_,fun {i z} ⟨hi,hr⟩ x hx=> ?_⟩,h.ne,by rw[h.hd];exact .zero⟩
  ·have:=(mZ hm hn ht hr).2.2.2.2.2
   have this:(z:Int)<(t.sT.length:Int):=this
   omega
  ·have hb:=hw _ hr
   rw[GK hm hn h hi]
   have hb:¬bS (bR m (ix q i).1.toNat) (bR n (ix q i).2.toNat)∉acc t (z:Int).toNat:=hb
   rw[Int.toNat_natCast] at hb
   exact Classical.byContradiction hb
  ·obtain⟨x',hx',rfl⟩:=List.mem_map.1 hx
   obtain⟨d,hd,e,he,hde,rfl⟩:=(pL h hi).1 hx'
   have hg:=goT hm hn ht (mZ hm hn ht hr) (hw _ hr) hd he hde
   have hbx:=(mZ hm hn ht hr).2.2.2.2.2
   have hbx:(z:Int)<(t.sT.length:Int):=hbx
   have hl:=(ht.st z O).len
   show d.1.toNat<(ix t.sT z).next.length
   rw[hl];exact hg.2.2.2.2.2.2
  ·obtain⟨x',hx',rfl⟩:=List.mem_map.1 hx
   obtain⟨d,hd,e,he,hde,rfl⟩:=(pL h hi).1 hx'
   have hg:=goT hm hn ht (mZ hm hn ht hr) (hw _ hr) hd he hde
   have hin:=h.all i hi d hd e he hde
   have hs:=mY.step hr (hw _ hr) hd he hde
   have e0:ix (nxt t (z:Int).toNat) d.1.toNat=ix (nxt t z) d.1.toNat:=by rw[Int.toNat_natCast]
   have g0:0≤ix (nxt t z) d.1.toNat:=by rw[←e0];exact hg.2.2.2.2.1
   refine⟨g0,vG hin,?_⟩
   show mY m n t ((ix q (pos q ((d.2,e.2):PP))).1,(ix q (pos q ((d.2,e.2):PP))).2,((ix (nxt t z) d.1.toNat).toNat:Int))
   rw[Cz hin,Int.toNat_of_nonneg g0,←e0]
   exact hs
theorem CC {α:Type} [DecidableEq α] (w:α→Nat):∀(q all:List α),q.Nodup→(∀p∈q,p∈all)→(q.map w).sum≤(all.map w).sum
 | [],_,_,_=>by simp
 |p::q,all,hnd,hs=>by
  have hp:=hs p (List.mem_cons_self ..)
  have h1:(all.map w).sum=w p+((all.erase p).map w).sum:=by
   have:=(List.perm_cons_erase hp).map w
   have:=this.sum_nat
   rw[this];simp
  have hd:=List.nodup_cons.1 hnd
  have h2:=CC w q (all.erase p) hd.2 (fun x hx=>(List.mem_erase_of_ne (show x≠p from fun e=>hd.1 (e▸hx))).2 (hs x (List.mem_cons_of_mem _ hx)))
  rw[h1,List.map_cons,List.sum_cons];omega
theorem EA (c:Nat):∀l:List Nat,(l.map fun x=>c*x).sum=c*l.sum
 | []=>by simp
 |x::l=>by rw[List.map_cons,List.sum_cons,EA c l,List.sum_cons,Nat.mul_add]
theorem TB (f g:List Nat):∀(q:List PP),q.Nodup→(∀p∈q,0≤p.1∧p.1<(f.length:Int)∧0≤p.2∧p.2<(g.length:Int))→(q.map fun p=>ix f p.1.toNat*ix g p.2.toNat).sum≤f.sum*g.sum:=by
 intro q hnd hb
 have h1:=CC (fun p:PP=>ix f p.1.toNat*ix g p.2.toNat) q ((List.range f.length).flatMap fun i:Nat=>(List.range g.length).map fun j:Nat=>(((i:Nat):Int),((j:Nat):Int))) hnd (fun p hp=>by
  obtain⟨p0,p1,p2,p3⟩:=hb p hp
  rw[List.mem_flatMap]
  refine⟨p.1.toNat,List.mem_range.2 O,List.mem_map.2 ⟨p.2.toNat,List.mem_range.2 O,Prod.ext ?_ ?_⟩⟩
  ·show((p.1.toNat:Nat):Int)=p.1;omega
  ·show((p.2.toNat:Nat):Int)=p.2;omega)
 refine Nat.le_trans h1 (Nat.le_of_eq ?_)
 have hg:(List.range g.length).map (fun j=>ix g j)=g:=by
  apply List.ext_getElem (by simp)
  intro i h2 h3
  rw[List.getElem_map,List.getElem_range,aG h3]
 have hf:(List.range f.length).map (fun j=>ix f j)=f:=by
  apply List.ext_getElem (by simp)
  intro i h2 h3
  rw[List.getElem_map,List.getElem_range,aG h3]
 have key:∀l:List Nat,((l.flatMap fun i=>(List.range g.length).map fun j=>(((i:Nat):Int),((j:Nat):Int))).map fun p:PP=>ix f p.1.toNat*ix g p.2.toNat).sum=(l.map fun i=>ix f i).sum*g.sum:=by
  intro l
  induction l with
  |nil=>simp
  |cons i l ih=>
   rw[List.flatMap_cons,List.map_append,List.sum_append_nat,ih,List.map_cons,List.sum_cons,Nat.add_mul,List.map_map]
   congr 1
   have:((fun p:PP=>ix f p.1.toNat*ix g p.2.toNat) ∘ fun j:Nat=>(((i:Nat):Int),((j:Nat):Int)))=fun j=>ix f i*ix g j:=by
    funext j
    show ix f (i:Int).toNat*ix g (j:Int).toNat=_
    rw[Int.toNat_natCast,Int.toNat_natCast]
   rw[this]
   have h2:=EA (ix f i) ((List.range g.length).map fun j=>ix g j)
   rw[List.map_map] at h2
   rw[hg] at h2
   exact h2
 rw[key,hf]
structure PI (m n:aA) (i:Nat) (q:List PP) (mm:List (PP × Int)) (aD:List (List PP)):Prop where
 ne:0<q.length
 hd:ix q 0=((0,0):PP)
 nd:q.Nodup
 box:∀p∈q,0≤p.1∧p.1<(m.sT.length:Int)∧0≤p.2∧p.2<(n.sT.length:Int)
 im:kG mm q
 il:i≤q.length
 dn:∀j,j<i→sV q (edg m (ix q j).1.toNat) (edg n (ix q j).2.toNat)
 out:aD=(List.range i).map fun j=>bT (kH q (edg m (ix q j).1.toNat) (edg n (ix q j).2.toNat))
structure PN (m n:aA) (i:Nat) (p:PP) (q:List PP) (mm:List (PP × Int)) (aD:List (List PP)) (k1 k2:Nat) (l:List PP):Prop where
 pi:PI m n i q mm aD
 hi:i<q.length
 pe:ix q i=p
 al1:sV q ((edg m p.1.toNat).take k1) (edg n p.2.toNat)
 al2:∀e∈(edg n p.2.toNat).take k2,(ix (edg m p.1.toNat) k1).1=e.1→(((ix (edg m p.1.toNat) k1).2,e.2):PP)∈q
 es:l=kH q ((edg m p.1.toNat).take k1) (edg n p.2.toNat)++lC q ((edg n p.2.toNat).take k2) (ix (edg m p.1.toNat) k1)
theorem TC (hm:1≤m.sT.length) (hn:1≤n.sT.length):PI m n 0 [(0,0)] (bQ [] (0,0) 0) []:=by
 refine⟨by simp,rfl,by simp,fun p hp=> ?_,Gm _,by simp,fun k hk=>absurd hk O,rfl⟩
 rw[List.mem_singleton.1 hp]
 exact⟨by simp,by show(0:Int)<_;omega,by simp,by show(0:Int)<_;omega⟩
theorem Af {q r E F:List PP} (h:sV q E F):sV (q++r) E F:=fun d hd e he hde=>List.mem_append_left _ (h d hd e he hde)
variable {i k1 k2:Nat} {mm:List (PP × Int)} {aD:List (List PP)} {p:PP} {l:List PP}
theorem GM (h:PI m n i q mm aD):q.length≤m.sT.length*n.sT.length:=pW _ _ q h.nd h.box
theorem TD (h:PI m n i q mm aD) {p:PP} (hp:p∉q) (hb:0≤p.1∧p.1<(m.sT.length:Int)∧0≤p.2∧p.2<(n.sT.length:Int)):PI m n i (q++ [p]) (bQ mm p (q.length:Int)) aD:=by
 have hil:=h.il
 refine⟨by simp,by rw[kV h.ne];exact h.hd,?_,fun r hr=> ?_,nL h.im hp,by simp;omega,fun k hk=> ?_,?_⟩
 ·rw[List.nodup_append]
  exact⟨h.nd,by simp,fun a ha b hb e=>hp (by have:b=p:=(by simpa using hb);rw[←this,←e];exact ha)⟩
 ·rcases List.mem_append.1 hr with hr|hr
  ·exact h.box r hr
  ·have:r=p:=by simpa using hr
   subst this;exact hb
 ·rw[kV O]
  exact Af (h.dn k hk)
 ·rw[h.out]
  refine List.map_congr_left (fun k hk=> ?_)
  have hk:=List.mem_range.1 hk
  rw[kV O,GI (h.dn k hk)]
theorem TE (h:PI m n i q mm aD) (hi:i<q.length):PN m n i (ix q i) q mm aD 0 0 []:=⟨h,hi,rfl,fun d hd=>by simp at hd,fun e he=>by simp at he,by simp[kH,lC]⟩
theorem yL {q F:List PP} {d:PP} {k:Nat} (hk:k<F.length):lC q (F.take (k+1)) d=lC q (F.take k) d++(if d.1=(ix F k).1 then [(d.1,(pos q ((d.2,(ix F k).2):PP):Int))] else []):=by
 unfold lC
 rw[bN hk,List.filter_append,List.map_append]
 congr 1
 by_cases g:d.1=(ix F k).1
 ·rw[if_pos g];simp[g]
 ·rw[if_neg g];simp[g]
theorem TF (h:PN m n i p q mm aD k1 k2 l) (hk:k2<(edg n p.2.toNat).length) (hne:¬(ix (edg m p.1.toNat) k1).1=(ix (edg n p.2.toNat) k2).1):PN m n i p q mm aD k1 (k2+1) l:=by
 refine⟨h.pi,h.hi,h.pe,h.al1,fun e he hde=> ?_,?_⟩
 ·rw[bN hk,List.mem_append] at he
  rcases he with g|g
  ·exact h.al2 e g hde
  ·have:e=_:=List.mem_singleton.1 g
   subst this;exact absurd hde hne
 ·rw[yL hk,if_neg hne,List.append_nil];exact h.es
theorem Wk (h:PN m n i p q mm aD k1 k2 l) (hk:k2<(edg n p.2.toNat).length) (he:(ix (edg m p.1.toNat) k1).1=(ix (edg n p.2.toNat) k2).1) (hn:(bJ mm ((ix (edg m p.1.toNat) k1).2,(ix (edg n p.2.toNat) k2).2)).isSome=true):
 PN m n i p q mm aD k1 (k2+1) (l++ [((ix (edg m p.1.toNat) k1).1,(bJ mm ((ix (edg m p.1.toNat) k1).2,(ix (edg n p.2.toNat) k2).2)).getD 0)]):=by
 rw[h.pi.im] at hn ⊢
 unfold zL at hn ⊢
 by_cases hm:(((ix (edg m p.1.toNat) k1).2,(ix (edg n p.2.toNat) k2).2):PP)∈q
 ·rw[if_pos hm]
  refine⟨h.pi,h.hi,h.pe,h.al1,fun e hee hde=> ?_,?_⟩
  ·rw[bN hk,List.mem_append] at hee
   rcases hee with g|g
   ·exact h.al2 e g hde
   ·have:e=_:=List.mem_singleton.1 g
    subst this;exact hm
  ·rw[yL hk,if_pos he,←List.append_assoc,←h.es];rfl
 ·rw[if_neg hm] at hn;cases hn
theorem Wl (h:PN m n i p q mm aD k1 k2 l) (hk:k2<(edg n p.2.toNat).length) (he:(ix (edg m p.1.toNat) k1).1=(ix (edg n p.2.toNat) k2).1) (hb:0≤(ix (edg m p.1.toNat) k1).2∧(ix (edg m p.1.toNat) k1).2<(m.sT.length:Int)∧0≤(ix (edg n p.2.toNat) k2).2∧(ix (edg n p.2.toNat) k2).2<(n.sT.length:Int))
 (hn:(bJ mm ((ix (edg m p.1.toNat) k1).2,(ix (edg n p.2.toNat) k2).2)).isSome=false):
 PN m n i p (q++ [((ix (edg m p.1.toNat) k1).2,(ix (edg n p.2.toNat) k2).2)]) (bQ mm ((ix (edg m p.1.toNat) k1).2,(ix (edg n p.2.toNat) k2).2) (q.length:Int)) aD k1 (k2+1) (l++ [((ix (edg m p.1.toNat) k1).1,(q.length:Int))]):=by
 have hnq:(((ix (edg m p.1.toNat) k1).2,(ix (edg n p.2.toNat) k2).2):PP)∉q:=fun hm=>by
  rw[h.pi.im] at hn
  unfold zL at hn
  rw[if_pos hm] at hn;cases hn
 have hi:=h.hi
 refine⟨TD h.pi hnq hb,by simp;omega,by rw[kV h.hi];exact h.pe,Af h.al1,fun e hee hde=> ?_,?_⟩
 ·rw[bN hk,List.mem_append] at hee
  rcases hee with g|g
  ·exact List.mem_append_left _ (h.al2 e g hde)
  ·have:e=_:=List.mem_singleton.1 g
   subst this;simp
 ·rw[GI h.al1,yL hk,if_pos he,GH h.al2,←List.append_assoc,←h.es]
  congr 3
  exact(congrArg (fun x:Nat=>(x:Int)) (Dn hnq)).symm
theorem Wm (h:PN m n i p q mm aD k1 k2 l) (hk1:k1<(edg m p.1.toNat).length) (hk:(edg n p.2.toNat).length≤k2):PN m n i p q mm aD (k1+1) 0 l:=by
 have h2:=h.al2
 have h3:=h.es
 rw[List.take_of_length_le hk] at h2 h3
 refine⟨h.pi,h.hi,h.pe,fun d hd e he hde=> ?_,fun e he=>by simp at he,?_⟩
 ·rw[bN hk1,List.mem_append] at hd
  rcases hd with g|g
  ·exact h.al1 d g e he hde
  ·have:d=_:=List.mem_singleton.1 g
   subst this
   exact h2 e he hde
 ·rw[h3]
  unfold kH
  rw[bN hk1,List.flatMap_append]
  simp[lC]
theorem Wn (h:PN m n i p q mm aD k1 k2 l) (hk2:k2=0) (hk1:(edg m p.1.toNat).length≤k1):PI m n (i+1) q mm (aD++ [bT l]):=by
 have h1:=h.al1
 have h3:=h.es
 rw[List.take_of_length_le hk1] at h1 h3
 subst hk2
 have h4:l=kH q (edg m p.1.toNat) (edg n p.2.toNat):=by rw[h3];simp[lC]
 have hi:=h.hi
 have hpe:=h.pe
 refine⟨h.pi.ne,h.pi.hd,h.pi.nd,h.pi.box,h.pi.im,O,fun j hj=> ?_,?_⟩
 ·by_cases g:j=i
  ·rw[g,hpe];exact h1
  ·exact h.pi.dn j O
 ·rw[List.range_succ,List.map_append,←h.pi.out,h4]
  simp[hpe]
theorem Nl (h:PN m n i p q mm aD k1 k2 l):l.length≤k1*(edg n p.2.toNat).length+k2:=by
 rw[h.es,List.length_append]
 have h1:=AX (q:=q) (F:=edg n p.2.toNat) (E:=(edg m p.1.toNat).take k1)
 have h2:=GJ (q:=q) (F:=(edg n p.2.toNat).take k2) (d:=ix (edg m p.1.toNat) k1)
 have h3:((edg m p.1.toNat).take k1).length≤k1:=List.length_take_le _ _
 have h4:((edg n p.2.toNat).take k2).length≤k2:=List.length_take_le _ _
 have h5:=Nat.mul_le_mul_right (edg n p.2.toNat).length h3
 omega
theorem XA (hm:bC m) (h:PN m n i p q mm aD k1 k2 l):∀x∈l,0≤x.1∧x.1<8∧0≤x.2∧x.2<(q.length:Int):=fun x hx=>by
 obtain⟨b0,b1,_,_⟩:=h.pi.box p (by rw[←h.pe];exact aO h.hi)
 have hm8:=hm.n8
 rw[h.es,List.mem_append] at hx
 rcases hx with g|g
 ·obtain⟨d,hd,e,he,hde,rfl⟩:=AW.1 g
  have h1:=hm.ed _ O d (List.mem_of_mem_take hd)
  have h2:=vG (h.al1 d hd e he hde)
  exact⟨h1.1,by show d.1<8;omega,by show(0:Int)≤((pos q _:Nat):Int);omega,by show((pos q _:Nat):Int)<_;omega⟩
 ·obtain⟨e,he,hde,rfl⟩:=wV.1 g
  have h2:=vG (h.al2 e he hde)
  by_cases hk:k1<(edg m p.1.toNat).length
  ·have h1:=hm.ed _ O _ (aO hk)
   exact⟨h1.1,by show(ix (edg m p.1.toNat) k1).1<8;omega,by show(0:Int)≤((pos q _:Nat):Int);omega,by show((pos q _:Nat):Int)<_;omega⟩
  ·have e0:ix (edg m p.1.toNat) k1=(0,0):=by unfold ix;rw[List.getD_eq_getElem?_getD,List.getElem?_eq_none O];rfl
   rw[e0]
   rw[e0] at h2
   exact⟨by show(0:Int)≤0;omega,by show(0:Int)<8;omega,by show(0:Int)≤((pos q _:Nat):Int);omega,by show((pos q _:Nat):Int)<_;omega⟩
theorem TG (h:PI m n i q mm aD) (hi:q.length≤i):jC m n ⟨m.aC,aD⟩ q:=by
 have hil:=h.il
 have e:i=q.length:=by omega
 subst e
 refine⟨rfl,h.ne,h.hd,h.nd,h.box,by rw[h.out];simp,h.dn,fun j hj=> ?_⟩
 show ix aD j=_
 rw[h.out,aG (by simpa using hj)]
 simp
def wgt (m n:aA) (p:PP):Nat:=(edg m p.1.toNat).length*(edg n p.2.toNat).length
def gZ (m n:aA) (q:List PP) (i:Nat):Nat:=((q.take i).map (wgt m n)).sum
theorem TH {r:List PP} (hi:i≤q.length):gZ m n (q++r) i=gZ m n q i:=by
 unfold gZ
 rw[List.take_append_of_le_length hi]
theorem wW (hi:i<q.length):gZ m n q (i+1)=gZ m n q i+wgt m n (ix q i):=by
 unfold gZ
 rw[bN hi,List.map_append,List.sum_append_nat];simp
theorem Jz (hnd:q.Nodup) (hbx:∀p∈q,0≤p.1∧p.1<(m.sT.length:Int)∧0≤p.2∧p.2<(n.sT.length:Int)) (j:Nat):gZ m n q j≤bP m.sT*bP n.sT:=by
 have h1:=TB (m.sT.map List.length) (n.sT.map List.length) (q.take j) (List.Nodup.sublist (List.take_sublist _ _) hnd) (fun p hp=>by simpa using hbx p (List.mem_of_mem_take hp))
 unfold bP
 refine Nat.le_trans (Nat.le_of_eq ?_) h1
 unfold gZ
 congr 1
 refine List.map_congr_left fun p hp=> ?_
 obtain⟨p0,p1,p2,p3⟩:=hbx p (List.mem_of_mem_take hp)
 unfold wgt
 have e1:ix (m.sT.map List.length) p.1.toNat=(edg m p.1.toNat).length:=by rw[aG (by simp;omega),List.getElem_map,←aG (xs:=m.sT) O]
 have e2:ix (n.sT.map List.length) p.2.toNat=(edg n p.2.toNat).length:=by rw[aG (by simp;omega),List.getElem_map,←aG (xs:=n.sT) O]
 rw[e1,e2]
theorem GP (h:PI m n i q mm aD) (j:Nat):gZ m n q j≤bP m.sT*bP n.sT:=Jz h.nd h.box j
theorem Qj (h:jC m n k q):q.length≤m.sT.length*n.sT.length:=pW _ _ q h.nd h.box
theorem Qk (h:jC m n k q):bP k.sT≤gZ m n q q.length:=by
 have key:∀j,j≤q.length→bP (k.sT.take j)≤gZ m n q j:=by
  intro j
  induction j with
  |zero=>intro _;simp[bP]
  |succ j ih=>
   intro hj
   have hl:=h.len
   rw[bN (show j<k.sT.length by omega),mG,wW O]
   have h1:=ih O
   have h2:(ix k.sT j).length≤wgt m n (ix q j):=by
    have:=h.row j O
    have e:(ix k.sT j)=bT _:=this
    rw[e,(fJ _).length_eq]
    exact AX
   omega
 have:=key q.length (Nat.le_refl _)
 rwa [List.take_of_length_le (by rw[h.len];exact Nat.le_refl _)] at this
theorem KW (hm:bM m=true) (hn:bM n=true) (h:jC m n k q) (h5:q.length≤5000) (h4:bP k.sT≤400000):bM k=true:=by
 have hm1:=cU hm
 have hn1:=cU hn
 have hed:∀j,j<q.length→eW k.aC.length k.sT.length (edg k j)=true:=fun j hj=>by
  obtain⟨b0,b1,b2,b3⟩:=h.box _ (aO hj)
  have hnd:(edg k j).Nodup:=by
   rw[h.row j hj]
   exact(fJ _).nodup_iff.2 (CB (Ez hn O) (Ez hm O) (h.all j hj))
  have hso:(edg k j).Pairwise (fun p q=>p.1<q.1∨(p.1=q.1∧p.2≤q.2)):=by rw[h.row j hj];exact sB _
  refine wO (fun i hi=> ?_) (fun i hi=> ?_)
  ·obtain⟨d,hd,e,he,hde,hx⟩:=(pL h hj).1 (aO hi)
   have g1:=hm1.ed _ O d hd
   have g2:=vG (h.all j hj d hd e he hde)
   rw[gU,hx,h.acts,h.len]
   exact⟨g1.1,g1.2.1,by show(0:Int)≤((pos q _:Nat):Int);omega,by show((pos q _:Nat):Int)<_;omega⟩
  ·rw[aG (show i<(edg k j).length by omega),aG hi]
   have g1:=(List.pairwise_iff_getElem.1 hso) i (i+1) O hi O
   have g2:=(List.pairwise_iff_getElem.1 hnd) i (i+1) O hi O
   rw[pH]
   rcases g1 with g|⟨g,g'⟩
   ·exact .inl g
   ·refine .inr ⟨g,?_⟩
    rcases Int.lt_or_eq_of_le g' with c|c
    ·exact c
    ·exact absurd (Prod.ext g c) g2
 have hne:=h.ne
 have hl:=h.len
 unfold bM
 rw[h.acts,hm1.acts,decide_eq_true (show 1≤k.sT.length by omega),decide_eq_true (show k.sT.length≤5000 by omega),decide_eq_true h4]
 simp only [Bool.true_and,Bool.and_true]
 refine List.all_eq_true.2 fun l hl2=> ?_
 obtain⟨x,hx,rfl⟩:=List.getElem_of_mem hl2
 rw[←h.acts,←aG hx]
 exact hed x O
end ProdM
end
section
namespace SatC
open ref01 ref03 ref04 ref06 Part Rungs LeftM TrimM RoundM MergeM BisM BisM4 BisM5 BisM6 Keys WalkM WitM JudgM LevM divr divs divd dive divf divv judg sysw satj ChsM BisS TrimI QuoM FailM DivM RefM GenW CompM CompP prodp TogM ProdM BesM
variable {m n k:aA} {q:List PP}
end SatC
end
section
namespace OrdM
open ref01 ref03 ref04 ref06 Part Rungs LeftM TrimM RoundM MergeM BisM BisM2 BisM4 BisM5 BisM6 Keys WalkM WitM JudgM JudgM2 LevM divr divs divd dive divf divv judg sysw satj ChsM BisS TrimI QuoM FailM DivM RefM GenW CompM CompP prodp TogM ProdM BesM SevM SatC
theorem EB {s:SS} (hs:oK s) (e:ix (hOl s) 0=false):∀x,x<(tR s).1.sT.length→acc (tR s).1 x≠[]:=fun x hx=>by
 have h:(tR s).1=tS s:=by rw[dC e]
 rw[h] at hx ⊢
 exact List.ne_nil_of_length_pos (RB hs e hx)
section
variable {S T:SS} (hS:oK S) (hT:oK T) (h1:∀x,x<S.sT.length→acc S x≠[]) (h2:∀x,x<T.sT.length→acc T x≠[]) (hc:(cL S T).length≤500)
include hS hT h1 h2 hc
end
end OrdM
end
section
namespace KeepK
open ref01 ref03 ref04 ref06 Part Rungs LeftM TrimM RoundM MergeM BisM BisM4 BisM5 BisM6 Keys WalkM WitM JudgM JudgM2 LevM divr divs divd dive divf divv judg sysw satj ChsM BisS TrimI QuoM FailM DivM RefM GenW CompM
def zU (u:Int) (x:SA):SA:=⟨x.aP.filter fun v=>decide (bS v u=u),x.next⟩
def aW (u:Int) (s:SS):SS:=⟨s.aC,s.sT.map (zU u)⟩
theorem nO (u:Int) (s:SS):(aW u s).sT.length=s.sT.length:=by simp[aW]
theorem AY {u:Int} {s:SS} {k:Nat} (hk:k<s.sT.length):ix (aW u s).sT k=zU u (ix s.sT k):=Dj hk
theorem tX {u:Int} {s:SS} {k:Nat} (hk:k<s.sT.length) {v:Int}:v∈acc (aW u s) k↔v∈acc s k∧bS v u=u:=by
 show v∈(ix (aW u s).sT k).aP↔_
 rw[AY hk]
 show v∈(ix s.sT k).aP.filter _↔_
 rw[List.mem_filter,decide_eq_true_eq]
theorem rD {u:Int} {s:SS} {k:Nat} (hk:k<s.sT.length):nxt (aW u s) k=nxt s k:=by
 show(ix (aW u s).sT k).next=_
 rw[AY hk];rfl
theorem iM {s:SS} (hs:oK s) (u:Int):oK (aW u s):=by
 refine⟨hs.acts,hs.n8,by rw[nO];exact hs.few0,by rw[nO];exact hs.few1,fun k hk=> ?_⟩
 rw[nO] at hk ⊢
 have h:=hs.st k hk
 rw[AY hk]
 have hin:∀{i:Nat},i<((ix s.sT k).aP.filter fun v=>decide (bS v u=u)).length→∃j,j<(ix s.sT k).aP.length∧ix (ix s.sT k).aP j=ix ((ix s.sT k).aP.filter fun v=>decide (bS v u=u)) i:=fun {i} hi=>mD (List.mem_filter.1 (aO hi)).1
 refine⟨h.len,h.nx,fun i hi=> ?_,fun i hi a ha=> ?_,yA ((nJ h.rise).filter _)⟩
 ·obtain⟨j,hj,e⟩:=hin hi
  have:=h.ac j hj
  rw[e] at this;exact this
 ·obtain⟨j,hj,e⟩:=hin hi
  exact h.go j hj a (by rw[e];exact ha)
theorem yM {s:SS} (hs:oK s) (hf:s.sT.length≤500) (u:Int):Same (tR (aW u s)).1 (aW u s):=by
 have hk:=iM hs u
 have hr:=PM hk hk rfl ⟨Gt hk,Gt hk⟩
 have:=AK hk
 rw[nO] at this
 exact⟨nN hk,O,qI _,MR hk,hr.1,hr.2⟩
inductive AZ (m:aA):Nat→Prop
 |zero:AZ m 0
 |step {x:Nat} {e:PP}:AZ m x→e∈edg m x→AZ m e.2.toNat
def oI (m:aA) (u:Int):Prop:=∀x,AZ m x→bS (bR m x) u=u
theorem yN {m:aA} {s:SS} {u:Int}:eR m (aW u s)↔eR m s∧oI m u:=by
 constructor
 ·rintro⟨R,hR,r⟩
  have hb:∀{x y},R x y→y<s.sT.length:=fun h=>by have:=hR.bd h;rwa [nO] at this
  refine⟨⟨R,⟨fun h=>hb h,fun h=>((tX (hb h)).1 (hR.acc h)).1,fun {x y} h e he=>by have:=hR.len h e he;rwa [rD (hb h)] at this,fun {x y} h e he=>by have:=hR.nxt h e he;rwa [rD (hb h)] at this⟩,r⟩,fun x hx=> ?_⟩
  have key:∃y,R x y:=by
   induction hx with
   |zero=>exact⟨0,r⟩
   |step h1 h2 ih=>
    rename_i x e
    obtain⟨y,hy⟩:=ih
    exact⟨_,(hR.nxt hy (e.1.toNat,e.2.toNat) (List.mem_map.2 ⟨e,h2,rfl⟩)).2⟩
  obtain⟨y,hy⟩:=key
  exact((tX (hb hy)).1 (hR.acc hy)).2
 ·rintro⟨⟨R,hR,r⟩,hk⟩
  refine⟨fun x y=>R x y∧AZ m x,⟨fun h=>by rw[nO];exact hR.bd h.1,fun {x y} h=>(tX (hR.bd h.1)).2 ⟨hR.acc h.1,hk _ h.2⟩,fun {x y} h e he=>by rw[rD (hR.bd h.1)];exact hR.len h.1 e he,fun {x y} h e he=> ?_⟩,r,.zero⟩
  rw[rD (hR.bd h.1)]
  have:=hR.nxt h.1 e he
  obtain⟨e',he',rfl⟩:=List.mem_map.1 he
  exact⟨this.1,this.2,.step h.2 he'⟩
theorem Nn {m:aA} {s:SS} (hs:oK s) {u:Int}:eR m (tR (aW u s)).1↔eR m s∧oI m u:=by
 rw[←yN]
 unfold eR
 rw[nK (nN (iM hs u)) (qF m),nK (iM hs u) (qF m)]
 exact⟨fun h=>vB h (pI (iM hs u)),fun h=>vB h (pI (iM hs u)).symm⟩
end KeepK
end
section
open ref01 ref03 ref04 ref06 prog prog2 prog3 prog6 prog9 Part Rungs LeftM TrimM RoundM MergeM BisM BisM4 BisM5 QuoM KeepK
theorem Np {u:Int} {l:List Int} {k:Nat} (hk:k<l.length) (h:bS (ix l k) u=u):(l.take (k+1)).filter (fun v=>decide (bS v u=u))=(l.take k).filter (fun v=>decide (bS v u=u))++ [ix l k]:=by
 rw[bN hk,List.filter_append]
 simp[h]
theorem KX {u:Int} {l:List Int} {k:Nat} (hk:k<l.length) (h:¬bS (ix l k) u=u):(l.take (k+1)).filter (fun v=>decide (bS v u=u))=(l.take k).filter (fun v=>decide (bS v u=u)):=by
 rw[bN hk,List.filter_append]
 simp[h]
theorem GQ {n:Nat} {u:Int} (hn:n≤8) (h:fR (n:Int) u=true):0≤u∧u<256:=by
 unfold fR at h
 rw[Bool.and_eq_true,decide_eq_true_eq,decide_eq_true_eq,Int.toNat_natCast] at h
 have h2:2^n≤2^8:=Nat.pow_le_pow_right O hn
 omega
namespace T
theorem KZ:Ent Tryz.prog 73:=aR kR
end T
namespace mkk
theorem Nq (n s:Int) (h0:0≤n) (h1:n<63):
 Fn0 Tryz.prog 61 [int n,int s] (bl (fR n s)):=by
 refine fnI Tryz.func61 rfl rfl (fun w0 F0=> ?_)
 refine sq (rg (ag (nl (th (sq (rg (mv (bi J J jG (mv ?_)))))))))
 apply fT (t:=7) (pd:=12) rfl
 rotate_left
 ·intro hg0 fin
  have hg0':=hg0
  try simp at hg0'
  exact gy J J J hg0 (mv (gy J J J hg0 (mv (gy J J J hg0 (bi J J (Bu O O) (gy J J J hg0 (bi J J aZ (pkT J hg0 J (drp (X:= [(11,_),(10,_),(9,_),(8,_)]) ⟨J,J,J,J,tV⟩ fin)))))))))
 ·intro hg0 fin
  exact gn J J J hg0 J J (gn J J J hg0 J J (gn J J J hg0 J J (gn J J J hg0 J J (pkF J hg0 J (drp (X:= [(11,_),(10,_),(9,_),(8,_)]) ⟨J,J,J,J,tV⟩ fin)))))
 refine ag (nl (th (rt ?_)))
 have hr0:((decide (0≤s))&&(decide (s<((2^n.toNat:Nat):Int))))=(fR n s):=by
  first|rfl|simp_all|omega
 exact rE () [.tmp 4] J [bl ((decide (0≤s))&&(decide (s<((2^n.toNat:Nat):Int))))] ⟨.tmp J,tV⟩ (cA1 (fun x0=>rV [bl x0]) hr0) trivial eX
theorem La (s:SS) (hs:oK s) (u:Int) (h0:0≤u) (h1:u<256):
 Fn0 Tryz.prog 72 [spec s,int u] (spec (tR (aW u s)).1):=by
 refine fnI Tryz.func72 rfl rfl (fun w0 F0=> ?_)
 have hko:=iM hs u;have hf1:=hs.few1;have hn8:=hs.n8
 refine fcC (bW 0 J) (fun hS0=> ?_)
 obtain⟨hsa0,hss0,hse0⟩:=sLn hS0
 refine sq (rg (bx (key:=2) (cs:= [sl 1 rE_ s.aC,sl 2 sE s.sT]) J fun b2=>(al (key:=4) T.z28 (eC (eC eZ)) fun b4=>(nl (th (sq (rg (fP J T.eD (lP J J J T.dE (bd (css:= [(0,_)]) T.uB (eC (eC eZ)) ⟨J,J,p1 (φ:=sl 1 rE_ s.aC) J,tV⟩ (al (key:=5) T.z28 (eC (eC eZ)) fun b5=>(sPA (cs':= [sl 1 rE_ s.aC,eqv (.slice none 0 0)]) J J J T.bA J J (nl (th (sq (sq (rg (fP J T.bO (lP J J J T.cM (fc (bL 15 J) fun hm15=>(lnF J T.dB (mv (nl (th (bk ?_)))))))))))))))))))))))))
 refine nwC 50 79 2 sE (nS 5 1 (osl 50 (.slice none 0 0)) rfl rfl dR ?_)
 have hI0_0:0≤s.sT.length:=by
  first|omega|simp
 have hI0_1:([]:List SA)=(s.sT.take 0).map (zU u):=by
  rfl
 refine lp (κ:=Nat × Value × (List SA)) (fun p=> [(1,int u),(4,ptr 4 b4 0),(5,ptr 5 b5 0),(15,sl 2 sE s.sT),(16,int (s.sT.length:Int)),(17,int (p.1:Int))]) (fun p=> [(2,cell b2 [sl 1 rE_ s.aC,sl 2 sE s.sT]),(4,cell b4 [eqv (.slice none 0 0),eqv (.slice none 0 0)]),(5,cell b5 [sl 1 rE_ s.aC,osl 50 p.2.1]),(50,own p.2.1 79 2 sE p.2.2)]) (fun p=>(p.1≤s.sT.length)∧(p.2.2=(s.sT.take p.1).map (zU u))) (fun p=>s.sT.length- p.1) ⟨0,(.slice none 0 0),([]:List SA)⟩ ⟨hI0_0,hI0_1⟩ ⟨id,id,id,id,id,id,tV⟩ ⟨rI,rI,rI,rI,tV⟩ ?_
 intro⟨k,v5x,aD⟩ hG0
 obtain⟨hk0,hI0⟩:(k≤s.sT.length)∧(aD=(s.sT.take k).map (zU u)):=hG0
 show Ct _ _ _ _ [(1,int u),(4,ptr 4 b4 0),(5,ptr 5 b5 0),(15,sl 2 sE s.sT),(16,int (s.sT.length:Int)),(17,int (k:Int))] [(2,cell b2 [sl 1 rE_ s.aC,sl 2 sE s.sT]),(4,cell b4 [eqv (.slice none 0 0),eqv (.slice none 0 0)]),(5,cell b5 [sl 1 rE_ s.aC,osl 50 v5x]),(50,own v5x 79 2 sE aD)] _
 have hol:aD.length≤k:=by rw[hI0];simp;omega
 refine sq (rg (bi J J aZ (nl (th (sq ?_)))))
 refine cd J (fun hc0=> ?_) (fun hc0=> ?_)
 ·try simp at hc0
  have hst:=hs.st k O
  have hacl:=hst.acl
  have hsl:=hst.len
  refine sk (th (sq (bk (sq (rg (iF J J T.dB O gB (lFA J T.eO (Nat.le_of_ble_eq_true J) (al (key:=7) T.z79 (eC (eC eZ)) fun b7=>(sPA (cs':= [sl 1 nE (ix s.sT k).aP,sl 1 nE (ix s.sT k).next]) J J J T.eO J J (nl (th (sq (rg (fP J T.eM (lP J J J T.bF (bd (css:= [(1,_)]) T.Aq (eC (eC eZ)) ⟨J,J,p1 (φ:=sl 1 nE (ix s.sT k).next) J,tV⟩ (al (key:=8) T.z79 (eC (eC eZ)) fun b8=>(sPA (cs':= [eqv (.slice none 0 0),sl 1 nE (ix s.sT k).next]) J J J T.eO J J (nl (th (sq (sq (rg (fP J T.cY (lP J J J T.bF (fc (bL 25 J) fun hm25=>(lnF J T.aT (mv (nl (th (bk ?_)))))))))))))))))))))))))))))))
  refine nwC 80 3 1 nE (nS 8 0 (osl 80 (.slice none 0 0)) rfl rfl dR ?_)
  have hI1_0:0≤(ix s.sT k).aP.length:=by
   first|omega|simp
  have hI1_1:([]:List Int)=((ix s.sT k).aP.take 0).filter (fun v=>decide (bS v u=u)):=by
   rfl
  refine lp (κ:=Nat × Value × (List Int)) (fun p=> [(1,int u),(4,ptr 4 b4 0),(5,ptr 5 b5 0),(8,ptr 8 b8 0),(15,sl 2 sE s.sT),(16,int (s.sT.length:Int)),(17,int (k:Int)),(25,sl 1 nE (ix s.sT k).aP),(26,int ((ix s.sT k).aP.length:Int)),(27,int (p.1:Int))]) (fun p=> [(2,cell b2 [sl 1 rE_ s.aC,sl 2 sE s.sT]),(4,cell b4 [eqv (.slice none 0 0),eqv (.slice none 0 0)]),(5,cell b5 [sl 1 rE_ s.aC,osl 50 v5x]),(7,cell b7 [sl 1 nE (ix s.sT k).aP,sl 1 nE (ix s.sT k).next]),(8,cell b8 [osl 80 p.2.1,sl 1 nE (ix s.sT k).next]),(50,own v5x 79 2 sE aD),(80,own p.2.1 3 1 nE p.2.2)]) (fun p=>(p.1≤(ix s.sT k).aP.length)∧(p.2.2=((ix s.sT k).aP.take p.1).filter (fun v=>decide (bS v u=u)))) (fun p=>(ix s.sT k).aP.length- p.1) ⟨0,(.slice none 0 0),([]:List Int)⟩ ⟨hI1_0,hI1_1⟩ ⟨id,id,id,id,id,id,id,id,id,id,tV⟩ ⟨rI,rI,rI,rI,rI,rI,rI,tV⟩ ?_
  intro⟨k1,v8x,ou2⟩ hG1
  obtain⟨hk1,hI1⟩:(k1≤(ix s.sT k).aP.length)∧(ou2=((ix s.sT k).aP.take k1).filter (fun v=>decide (bS v u=u))):=hG1
  show Ct _ _ _ _ [(1,int u),(4,ptr 4 b4 0),(5,ptr 5 b5 0),(8,ptr 8 b8 0),(15,sl 2 sE s.sT),(16,int (s.sT.length:Int)),(17,int (k:Int)),(25,sl 1 nE (ix s.sT k).aP),(26,int ((ix s.sT k).aP.length:Int)),(27,int (k1:Int))] [(2,cell b2 [sl 1 rE_ s.aC,sl 2 sE s.sT]),(4,cell b4 [eqv (.slice none 0 0),eqv (.slice none 0 0)]),(5,cell b5 [sl 1 rE_ s.aC,osl 50 v5x]),(7,cell b7 [sl 1 nE (ix s.sT k).aP,sl 1 nE (ix s.sT k).next]),(8,cell b8 [osl 80 v8x,sl 1 nE (ix s.sT k).next]),(50,own v5x 79 2 sE aD),(80,own v8x 3 1 nE ou2)] _
  have Dw:ou2.length≤256:=by rw[hI1];refine Nat.le_trans (List.length_filter_le _ _) ?_;simp;omega
  refine sq (rg (bi J J aZ (nl (th (sq ?_)))))
  refine cd J (fun hc1=> ?_) (fun hc1=> ?_)
  ·try simp at hc1
   have hak:=hst.ac k1 O
   refine sk (th (sq (bk (sq (rg (iF J J T.aT O gB (lF J J T.aH (ag (nl (th (sq (rg (mv (mv (bi J J (Bv O O O O) (mv (bi J J gF (nl (th ?_)))))))))))))))))))
   refine cd J (fun hc2=> ?_) (fun hc2=> ?_)
   ·try simp at hc2
    refine rg (fP J T.cY (lP J J J T.bF (mv (bsE (enc:=nE) (xs:= [(ix (ix s.sT k).aP k1)]) (css:= [[int (ix (ix s.sT k).aP k1)]]) T.cQ ⟨J,J,p1 (φ:=int (ix (ix s.sT k).aP k1)) J,tV⟩ J J J J (ap (key:=80) (zs:= [(ix (ix s.sT k).aP k1)]) cB J J J T.cQ (by unfold aN at*;simp;omega) (by unfold aN at*;simp;omega) fun v40=>(fP J T.cY (cK J J J J T.bF J (nl (eb (th (rg (bi J J (aM i6) (mv (nl ?_))))))))))))))
    have hN0:(k1+1)≤(ix s.sT k).aP.length:=by
     first|omega|simp_all
    have hN1:(ou2++ [(ix (ix s.sT k).aP k1)])=((ix s.sT k).aP.take (k1+1)).filter (fun v=>decide (bS v u=u)):=by
     rw[Np O (by simpa [bS] using hc2),←hI1]
    exact ln (⟨k1+1,v40,ou2++ [(ix (ix s.sT k).aP k1)]⟩:Nat × Value × (List Int)) ⟨hN0,hN1⟩ dO ⟨id,id,id,id,id,id,id,id,id,id,tV⟩ ⟨rI,rI,rI,rI,rI,rI,rI,tV⟩
   ·try simp at hc2
    refine sk (eb (th (rg (bi J J (aM i6) (mv (nl ?_))))))
    have hN0:(k1+1)≤(ix s.sT k).aP.length:=by
     first|omega|simp_all
    have hN1:ou2=((ix s.sT k).aP.take (k1+1)).filter (fun v=>decide (bS v u=u)):=by
     rw[KX O (by simpa [bS] using hc2),←hI1]
    exact ln (⟨k1+1,v8x,ou2⟩:Nat × Value × (List Int)) ⟨hN0,hN1⟩ dO ⟨id,id,id,id,id,id,id,id,id,id,tV⟩ ⟨rI,rI,rI,rI,rI,rI,rI,tV⟩
  ·try simp at hc1
   refine ex (xt_ (xt_ (xb (th (rg (fP J T.bO (lP J J J T.cM (fzc 8 80 0 J J J J (lPA J J T.eO J (bsE (enc:=sE) (xs:= [(⟨ou2,(ix s.sT k).next⟩)]) (css:= [[sl 1 nE ou2,sl 1 nE (ix s.sT k).next]]) T.rP ⟨J,J,pA (cs:= [sl 1 nE ou2,sl 1 nE (ix s.sT k).next]) J,tV⟩ J J J J (ap (key:=50) (zs:= [(⟨ou2,(ix s.sT k).next⟩)]) cB J J J T.rP (by unfold aN at*;simp;omega) (by unfold aN at*;simp;omega) fun v47=>(fP J T.bO (cK J J J J T.cM J (nl (eb (th (rg (bi J J (aM i6) (mv (nl ?_))))))))))))))))))))
   have hN0:(k+1)≤s.sT.length:=by
    first|omega|simp_all
   have hN1:(aD++ [(⟨ou2,(ix s.sT k).next⟩)])=(s.sT.take (k+1)).map (zU u):=by
    rw[hI0,bN O,List.map_append,hI1,show k1=(ix s.sT k).aP.length by omega,List.take_length];rfl
   exact ln (⟨k+1,v47,aD++ [(⟨ou2,(ix s.sT k).next⟩)]⟩:Nat × Value × (List SA)) ⟨hN0,hN1⟩ dO ⟨id,id,id,id,id,id,tV⟩ ⟨rI,rI,rI,rI,tV⟩
 ·try simp at hc0
  refine ex (xt_ (xt_ (xb (th (sq (rg (fzc 5 50 1 J J J J (lPA J J T.bA J (kn 51 (spec (aW u s)) J (by rw[show aD=(aW u s).sT by rw[hI0,show k=s.sT.length by omega,List.take_length];rfl];exact fun h=>h) (eI (φs:= [agg [sl 1 rE_ (aW u s).aC,sl 2 sE (aW u s).sT]]) (φ:=tup [agg [sl 1 rE_ ((tR (aW u s)).1.aC),sl 2 sE ((tR (aW u s)).1.sT)],sl 1 nE ((tR (aW u s)).2)]) ⟨J,tV⟩ (prog9.wB (aW u s) aS) T.KZ (fun N hN=>fun h=>pZ (cs:= [agg [fre N (sl 1 rE_ ((tR (aW u s)).1.aC)),frb (ix (hOl (aW u s)) 0) N (sl 2 sE ((tR (aW u s)).1.sT))],sl 1 nE ((tR (aW u s)).2)]) (ds:= [agg [sl 1 rE_ ((tR (aW u s)).1.aC),sl 2 sE ((tR (aW u s)).1.sT)],sl 1 nE ((tR (aW u s)).2)]) ⟨fun h=>cV (cs:= [fre N (sl 1 rE_ ((tR (aW u s)).1.aC)),frb (ix (hOl (aW u s)) 0) N (sl 2 sE ((tR (aW u s)).1.sT))]) (ds:= [sl 1 rE_ ((tR (aW u s)).1.aC),sl 2 sE ((tR (aW u s)).1.sT)]) ⟨fun h=>bV h,fun h=>BK h,tV⟩ h,fun h=>h,tV⟩ h) (mv (xt J J (xt J J (sPA (cs':= [sl 1 rE_ ((tR (aW u s)).1.aC),sl 2 sE ((tR (aW u s)).1.sT)]) J J J T.bA J J (nl (th (sq (rg (lPA J J T.bA J (sPA (cs':= [sl 1 rE_ ((tR (aW u s)).1.aC),sl 2 sE ((tR (aW u s)).1.sT)]) J J J T.bA J J (nl (th (rt ?_)))))))))))))))))))))))
  have hr0:((tR (aW u s)).1.aC)=((tR (aW u s)).1).aC:=by
   first|rfl|simp_all|omega
  have hr1:((tR (aW u s)).1.sT)=((tR (aW u s)).1).sT:=by
   first|rfl|simp_all|omega
  exact rE () [.cell 4 28] J [agg [sl 1 rE_ ((tR (aW u s)).1.aC),sl 2 sE ((tR (aW u s)).1.sT)]] ⟨.agg J J T.bA J J,tV⟩ (cA2 (fun x0 x1=>rV [agg [sl 1 rE_ x0,sl 2 sE x1]]) hr0 hr1) trivial eX
end mkk
end
section
namespace GuardM
open ref01 ref03 ref04 ref06 Part Rungs LeftM TrimM RoundM MergeM BisM BisM4 BisM5 BisM6 Keys WalkM WitM JudgM LevM divr divs divd dive divf divv judg sysw satj ChsM BisS TrimI QuoM FailM DivM RefM GenW CompM FitM TogM
abbrev LP:=List PP
def uJ (p q:PP):Prop:=p.1<q.1∨(p.1=q.1∧p.2<q.2)
theorem EC {α:Type} {lt:α→α→Prop} (asym:∀a b,lt a b→¬lt b a):∀{l m:List α},l.Pairwise lt→m.Pairwise lt→(∀u,u∈l↔u∈m)→l=m
 | [],[],_,_,_=>rfl
 | [],y::m,_,_,h=>by have:=(h y).2 (by simp);cases this
 |x::l,[],_,_,h=>by have:=(h x).1 (by simp);cases this
 |x::l,y::m,hl,hm,h=>by
  obtain⟨l1,l2⟩:=List.pairwise_cons.1 hl
  obtain⟨m1,m2⟩:=List.pairwise_cons.1 hm
  have e:x=y:=by
   rcases List.mem_cons.1 ((h x).1 (by simp)) with g|g
   ·exact g
   ·rcases List.mem_cons.1 ((h y).2 (by simp)) with k|k
    ·exact k.symm
    ·exact absurd (l1 y k) (asym _ _ (m1 x g))
  subst e
  have irr:∀a,¬lt a a:=fun a g=>asym a a g g
  rw[EC asym l2 m2 fun u=>⟨fun hu=>by
   rcases List.mem_cons.1 ((h u).1 (by simp[hu])) with g|g
   ·subst g;exact absurd (l1 u hu) (irr u)
   ·exact g,fun hu=>by
   rcases List.mem_cons.1 ((h u).2 (by simp[hu])) with g|g
   ·subst g;exact absurd (m1 u hu) (irr u)
   ·exact g⟩]
theorem Nr (p q:PP) (h:uJ p q):¬uJ q p:=by
 unfold uJ at h ⊢;omega
def qU (x y:Nat):LP:=(List.range x).flatMap fun(i:Nat)=>(List.range y).map fun(j:Nat)=>(((i:Int),(j:Int)):PP)
theorem pM {x y:Nat} {p:PP}:p∈qU x y↔0≤p.1∧p.1<(x:Int)∧0≤p.2∧p.2<(y:Int):=by
 unfold qU
 rw[List.mem_flatMap]
 constructor
 ·rintro⟨i,hi,h⟩
  obtain⟨j,hj,rfl⟩:=List.mem_map.1 h
  have:=List.mem_range.1 hi
  have:=List.mem_range.1 hj
  show 0≤(i:Int)∧(i:Int)<x∧0≤(j:Int)∧(j:Int)<y
  omega
 ·intro h
  exact⟨p.1.toNat,List.mem_range.2 O,List.mem_map.2 ⟨p.2.toNat,List.mem_range.2 O,Prod.ext (by show((p.1.toNat:Nat):Int)=p.1;omega) (by show((p.2.toNat:Nat):Int)=p.2;omega)⟩⟩
theorem IB (x y:Nat):(qU x y).Pairwise uJ:=by
 unfold qU
 rw[List.pairwise_flatMap]
 refine⟨fun i _=> ?_,?_⟩
 ·rw[List.pairwise_map]
  refine List.pairwise_lt_range.imp fun {a b} h=> .inr ⟨rfl,?_⟩
  show(a:Int)<(b:Int)
  omega
 ·refine List.pairwise_lt_range.imp fun {a b} h p hp q hq=> ?_
  obtain⟨j,_,rfl⟩:=List.mem_map.1 hp
  obtain⟨k,_,rfl⟩:=List.mem_map.1 hq
  refine .inl ?_
  show(a:Int)<(b:Int)
  omega
theorem Ba (x y:Nat):(qU x y).length=x*y:=by
 unfold qU
 induction x with
 |zero=>simp
 |succ n ih=>rw[List.range_succ,List.flatMap_append,List.length_append,ih,Nat.succ_mul];simp
def DG {α:Type}:List α→List (List α)
 | []=> [[]]
 |x::l=>DG l++(DG l).map (x:: ·)
theorem JA {α:Type}:∀l:List α,(DG l).length=2^l.length
 | []=>rfl
 |x::l=>by
  show(DG l++(DG l).map _).length=_
  rw[List.length_append,List.length_map,JA l,List.length_cons,Nat.pow_succ];omega
theorem TI {α:Type} {l m:List α} (h:l.Sublist m):l∈DG m:=by
 induction h with
 |slnil=>exact List.mem_singleton.2 rfl
 |cons x _ ih=>exact List.mem_append.2 (.inl ih)
 |cons_cons x _ ih=>exact List.mem_append.2 (.inr (List.mem_map.2 ⟨_,ih,rfl⟩))
def gA (m:aA) (t:SS) (l:LP):List Int:=(cH t.aC.length).filter fun u=>l.all fun p=>decide (bS u (bR m p.1.toNat)∈acc t p.2.toNat)
def gN (m:aA) (t:SS) (l:LP) (a:Nat):LP:=(qU m.sT.length t.sT.length).filter fun q=>l.any fun p=>(edg m p.1.toNat).any fun e=>decide (e.1=(a:Int)∧e.2=q.1∧ix (nxt t p.2.toNat) a=q.2)
def gOk (m:aA) (t:SS) (l:LP):Prop:=l.Sublist (qU m.sT.length t.sT.length)
def pk_:LP→List UInt8
 | []=> []
 |p::l=>Lib.itoa p.1++32::(Lib.itoa p.2++32::pk_ l)
def pkB (l:LP):ByteArray:=⟨(pk_ l).toArray⟩
theorem Nt:∀{l r:LP},(∀p∈l,0≤p.1∧0≤p.2)→(∀p∈r,0≤p.1∧0≤p.2)→pk_ l=pk_ r→l=r
 | [],[],_,_,_=>rfl
 | [],q::r,_,_,h=>by simp[pk_] at h
 |p::l,[],_,_,h=>by simp[pk_] at h
 |p::l,q::r,hl,hr,h=>by
  have h:Lib.itoa p.1++32::(Lib.itoa p.2++32::pk_ l)=Lib.itoa q.1++32::(Lib.itoa q.2++32::pk_ r):=h
  have hp:=hl p (by simp)
  have hq:=hr q (by simp)
  obtain⟨e1,k⟩:=Cd (nI hp.1) (nI hq.1) (.inr ⟨_,rfl⟩) (.inr ⟨_,rfl⟩) h
  obtain⟨e2,k2⟩:=Cd (nI hp.2) (nI hq.2) (.inr ⟨_,rfl⟩) (.inr ⟨_,rfl⟩) (List.cons.inj k).2
  rw[Prod.ext (wC hp.1 hq.1 e1) (wC hp.2 hq.2 e2),Nt (fun x hx=>hl x (by simp[hx])) (fun x hx=>hr x (by simp[hx])) (List.cons.inj k2).2]
theorem nP {m:aA} {t:SS} {l:LP} (h:gOk m t l) {p:PP} (hp:p∈l):0≤p.1∧p.1<(m.sT.length:Int)∧0≤p.2∧p.2<(t.sT.length:Int):=pM.1 (h.subset hp)
theorem yO {m:aA} {t:SS} {l:LP} {u:Int}:u∈gA m t l↔u∈cH t.aC.length∧∀p∈l,bS u (bR m p.1.toNat)∈acc t p.2.toNat:=by
 unfold gA
 rw[List.mem_filter,List.all_eq_true]
 exact⟨fun h=>⟨h.1,fun p hp=>of_decide_eq_true (h.2 p hp)⟩,fun h=>⟨h.1,fun p hp=>decide_eq_true (h.2 p hp)⟩⟩
theorem GR {m:aA} {t:SS} {l:LP} {a:Nat} {q:PP}:q∈gN m t l a↔q∈qU m.sT.length t.sT.length∧∃p∈l,∃e∈edg m p.1.toNat,e.1=(a:Int)∧e.2=q.1∧ix (nxt t p.2.toNat) a=q.2:=by
 unfold gN
 rw[List.mem_filter,List.any_eq_true]
 constructor
 ·rintro⟨h,p,hp,g⟩
  obtain⟨e,he,k⟩:=List.any_eq_true.1 g
  exact⟨h,p,hp,e,he,of_decide_eq_true k⟩
 ·rintro⟨h,p,hp,e,he,k⟩
  exact⟨h,p,hp,List.any_eq_true.2 ⟨e,he,decide_eq_true k⟩⟩
theorem zV (m:aA) (t:SS) (l:LP) (a:Nat):gOk m t (gN m t l a):=List.filter_sublist
theorem Lb {m:aA} {t:SS} (ht:oK t):GS (gA m t) (gN m t) (gOk m t) pkB t.aC.length (2^ (m.sT.length*t.sT.length)) where
 inj:=fun p q hp hq h=>Nt (fun x hx=>by have:=nP hp hx;omega) (fun x hx=>by have:=nP hq hx;omega) (Mo h)
 acts:=fun p _ a _=>zV m t p a.toNat
 few:=fun l hn h=>by
  have:=List.Nodup.length_le_of_subset hn (fun p hp=>TI (h p hp))
  rw[JA,Ba] at this;exact this
 hasn:=fun p _ a h=>by
  obtain⟨u,hu,hh⟩:=(cO _ _).1 h
  exact Tn (yO.1 hu).1 hh
 n8:=ht.n8
theorem GU {m:aA} {t:SS} (hm:bC m) (ht:oK t):gOk m t [(0,0)]:=by
 have f1:=hm.few0
 have f2:=ht.few0
 refine List.singleton_sublist.2 (pM.2 ⟨by simp,by show(0:Int)<_;omega,by simp,by show(0:Int)<_;omega⟩)
noncomputable def gL (m:aA) (t:SS):List LP:=iU (gA m t) (gN m t) (2^ (m.sT.length*t.sT.length)) 0 [[(0,0)]]
noncomputable def gD (m:aA) (t:SS):SS:=⟨t.aC,(gL m t).map (ofL (gA m t) (gN m t) t.aC.length (gL m t))⟩
theorem Nu {m:aA} {t:SS} (hm:bC m) (ht:oK t):sK (gA m t) (gN m t) (gOk m t) [(0,0)] (gL m t).length (gL m t):=VW (Lb ht) (GU hm ht)
theorem Wo {m:aA} {t:SS} (hm:bC m) (ht:oK t):yH (gA m t) (gN m t) t.aC.length [(0,0)] (gL m t) (gD m t):=VX (Lb ht) (Nu hm ht) _
structure Lc (m:aA) (t:SS) (l:List LP) (D:SS):Prop where
 numb:yH (gA m t) (gN m t) t.aC.length [(0,0)] l D
 ok:∀p∈l,gOk m t p
 acts:D.aC=t.aC
theorem CE {m:aA} {t:SS} (hm:bC m) (ht:oK t):Lc m t (gL m t) (gD m t):=⟨Wo hm ht,(Nu hm ht).ok,rfl⟩
theorem JB {n:Nat} (hn:n≤8) {u:Int} (h:u∈cH n):0≤u∧u<256:=by
 have:=wQ.1 h
 have h2:2^n≤2^8:=Nat.pow_le_pow_right O hn
 omega
theorem DI {m:aA} {t:SS} (ht:oK t) {l:List LP} {D:SS} (h:Lc m t l D) (hl:l.length≤10000):oK D:=
 Tk h.numb (by rw[h.acts];exact ht.acts) (by rw[h.acts]) hl (fun p _ u hu=>JB ht.n8 (yO.1 hu).1) (fun p _ a g=>(Lb (m:=m) ht).hasn p (h.ok p aS) a g) (fun p _=>yA ((MW _).filter _))
noncomputable def aY (m:aA) (t:SS):SS × Bool:=if (gL m t).length≤500 then((tR (gD m t)).1,true) else(⟨[],[]⟩,false)
noncomputable def gdS (m:aA) (t:SS):SS × Int:=
 if bK m t=0 then(if (aY m t).2=true then((aY m t).1,0) else(⟨[],[]⟩,2)) else(⟨[],[]⟩,bK m t)
theorem Ql {x:aA} (hx:bC x) {q:Nat} (hq:q<x.sT.length):bR x q∈cH x.aC.length:=by
 rw[wQ]
 have h0:=DD hx hq
 refine⟨h0.1,?_⟩
 have hlt:(bR x q).toNat<2^x.aC.length:=by
  refine Nat.lt_pow_two_of_testBit _ fun i hi=> ?_
  cases e:(bR x q).toNat.testBit i with
  |false=>rfl
  |true=>
   obtain⟨d,hd,rfl⟩:=gQ.1 (show has (bR x q) (i:Int)=true by unfold has;rw[Int.toNat_natCast];exact e)
   have:=hx.ed q hq d hd
   omega
 omega
theorem Nv {m x:aA} {t D:SS} (hm:bC m) (hx:bC x) (ht:oK t) (hxt:x.aC=t.aC) {L:List LP} (h:Lc m t L D):eR x D↔oG m x t:=by
 have hN:=h.numb
 constructor
 ·rintro⟨R,hR,r⟩
  have key:∀{p:T3},mY m x t p→∃i,R p.2.1.toNat i∧(p.1,p.2.2)∈ix L i∧i<L.length:=fun {p} hp=>by
   induction hp with
   |zero=>exact⟨0,r,by rw[hN.hd];exact List.mem_singleton.2 rfl,hN.ne⟩
   |step h1 h2 hd he hde ih=>
    rename_i p d e
    obtain⟨i,hi,hin,hl⟩:=ih
    have hg:=goT hm hx ht (mZ hm hx ht h1) h2 hd he hde
    have ha:=hR.acc hi
    rw[hN.acc i hl] at ha
    have hh:has (aV (gA m t (ix L i))) ((e.1.toNat:Nat):Int)=true:=(cO _ _).2 ⟨_,ha,gQ.2 ⟨e,he,rfl⟩⟩
    have han:e.1.toNat<t.aC.length:=by rw[←hde];exact hg.2.2.2.2.2.2
    have hcl:=hN.cl i hl e.1.toNat han hh
    have hn:=(hR.nxt hi (e.1.toNat,e.2.toNat) (List.mem_map.2 ⟨e,he,rfl⟩)).2
    have hn:R e.2.toNat (ix (nxt D i) e.1.toNat).toNat:=hn
    rw[hN.nx i hl _ han,if_pos hh,Int.toNat_natCast] at hn
    have h1e:=hx.ed p.2.1.toNat (by have:=mZ hm hx ht h1;omega) e he
    refine⟨_,hn,?_,QuoM.yI hcl⟩
    rw[QuoM.vD hcl]
    refine GR.2 ⟨pM.2 ⟨hg.1,hg.2.1,hg.2.2.2.2.1,hg.2.2.2.2.2.1⟩,(p.1,p.2.2),hin,d,hd,?_,rfl,?_⟩
    ·rw[hde];omega
    ·show ix (nxt t p.2.2.toNat) e.1.toNat=ix (nxt t p.2.2.toNat) d.1.toNat
     rw[hde]
  intro p hp hb
  obtain⟨i,hi,hin,hl⟩:=key hp
  have ha:=hR.acc hi
  rw[hN.acc i hl] at ha
  refine hb ?_
  rw[FitM.tW]
  exact(yO.1 ha).2 _ hin
 ·intro hw
  have f1:=hx.few0
  have hsat:∀{q i:Nat},(q<x.sT.length∧i<L.length∧∀p∈ix L i,mY m x t (p.1,(q:Int),p.2))→bR x q∈gA m t (ix L i):=fun {q i} ⟨hq,hi,hp⟩=>by
   refine yO.2 ⟨by rw[←hxt];exact Ql hx hq,fun p hpm=> ?_⟩
   have:=hw _ (hp p hpm)
   have:=Classical.not_not.1 this
   rw[FitM.tW]
   have this:bS (bR m p.1.toNat) (bR x (q:Int).toNat)∈acc t p.2.toNat:=this
   rw[Int.toNat_natCast] at this
   exact this
  refine⟨fun q i=>q<x.sT.length∧i<L.length∧∀p∈ix L i,mY m x t (p.1,(q:Int),p.2),⟨fun {q i} ⟨_,hi,_⟩=>by rw[hN.len];exact hi,fun {q i} hp=>by rw[hN.acc i hp.2.1];exact hsat hp,fun {q i} hp d hd=> ?_,fun {q i} hp d hd=> ?_⟩,O,hN.ne,fun p hp=> ?_⟩
  ·obtain⟨e,he,rfl⟩:=List.mem_map.1 hd
   have:=hx.ed q hp.1 e he
   rw[hN.nl i hp.2.1,←hxt]
   show e.1.toNat<_
   omega
  ·obtain⟨e,he,rfl⟩:=List.mem_map.1 hd
   have h1:=hx.ed q hp.1 e he
   have ha:=hsat hp
   have hh:has (aV (gA m t (ix L i))) ((e.1.toNat:Nat):Int)=true:=(cO _ _).2 ⟨_,ha,gQ.2 ⟨e,he,rfl⟩⟩
   have han:e.1.toNat<t.aC.length:=by rw[←hxt];omega
   have hcl:=hN.cl i hp.2.1 e.1.toNat han hh
   have hnx:=hN.nx i hp.2.1 _ han
   rw[if_pos hh] at hnx
   show 0≤ix (nxt D i) e.1.toNat∧(e.2.toNat<x.sT.length∧(ix (nxt D i) e.1.toNat).toNat<L.length∧∀p∈ix L (ix (nxt D i) e.1.toNat).toNat,mY m x t (p.1,((e.2.toNat:Nat):Int),p.2))
   rw[hnx,Int.toNat_natCast]
   refine⟨O,O,QuoM.yI hcl,fun p' hp'=> ?_⟩
   rw[QuoM.vD hcl] at hp'
   obtain⟨_,p,hpm,d,hd2,e1,e2,e3⟩:=GR.1 hp'
   have hr:=hp.2.2 p hpm
   have:=mY.step (e:=e) hr (hw _ hr) hd2 (by show e∈edg x (q:Int).toNat;rw[Int.toNat_natCast];exact he) (by rw[e1];omega)
   have e4:(d.2,e.2,ix (nxt t p.2.toNat) d.1.toNat)=((p'.1,((e.2.toNat:Nat):Int),p'.2):T3):=by
    rw[e2,show d.1.toNat=e.1.toNat by omega,e3]
    refine Prod.ext rfl (Prod.ext ?_ rfl)
    show e.2=((e.2.toNat:Nat):Int)
    omega
   rw[←e4];exact this
  ·rw[hN.hd] at hp
   rw[List.mem_singleton.1 hp]
   exact .zero
end GuardM
end
section
namespace MakeM
open ref01 ref03 ref04 ref06 Part Rungs LeftM TrimM RoundM MergeM BisM BisM4 BisM5 BisM6 Keys WalkM WitM JudgM JudgM2 LevM divr divs divd dive divf divv judg sysw satj ChsM BisS TrimI QuoM FailM DivM RefM GenW CompM FitM TogM KeepK GuardM
structure BisY (m n:aA) (R:Nat→Nat→Prop):Prop where
 fw:∀{x y},R x y→∀e∈edg m x,∃d∈edg n y,d.1=e.1∧R e.2.toNat d.2.toNat
 bw:∀{x y},R x y→∀d∈edg n y,∃e∈edg m x,e.1=d.1∧R e.2.toNat d.2.toNat
theorem BisY.symm {m n:aA} {R:Nat→Nat→Prop} (h:BisY m n R):BisY n m (fun y x=>R x y):=
 ⟨fun g d hd=>h.bw g d hd,fun g e he=>h.fw g e he⟩
theorem TJ {l r:List PP} (h1:∀e∈l,∃d∈r,d.1=e.1) (h2:∀d∈r,∃e∈l,e.1=d.1):cX l=cX r:=by
 have key:∀a:Nat,has (cX l) (a:Int)=has (cX r) (a:Int):=fun a=>by
  rw[Bool.eq_iff_iff,gQ,gQ]
  exact⟨fun⟨e,he,g⟩=>by obtain⟨d,hd,k⟩:=h1 e he;exact⟨d,hd,by rw[k];exact g⟩,fun⟨d,hd,g⟩=>by obtain⟨e,he,k⟩:=h2 d hd;exact⟨e,he,by rw[k];exact g⟩⟩
 have n1:0≤cX l:=oW _
 have n2:0≤cX r:=oW _
 have:(cX l).toNat=(cX r).toNat:=by
  apply Nat.eq_of_testBit_eq
  intro i
  have:=key i
  unfold has at this
  rwa [Int.toNat_natCast] at this
 omega
theorem Qm {m n:aA} {R:Nat→Nat→Prop} (h:BisY m n R) {x y:Nat} (g:R x y):bR m x=bR n y:=
 TJ (fun e he=>by obtain⟨d,hd,k,_⟩:=h.fw g e he;exact⟨d,hd,k⟩) (fun d hd=>by obtain⟨e,he,k,_⟩:=h.bw g d hd;exact⟨e,he,k⟩)
theorem GV {m n:aA} {s:SS} {R:Nat→Nat→Prop} (h:BisY m n R) (h0:R 0 0) (hs:eR m s):eR n s:=by
 obtain⟨Q,hQ,q0⟩:=hs
 refine⟨fun y z=> ∃x,R x y∧Q x z,⟨fun⟨x,_,q⟩=>hQ.bd q,fun {y z} ⟨x,g,q⟩=>by rw[←Qm h g];exact hQ.acc q,fun {y z} ⟨x,g,q⟩ e he=> ?_,fun {y z} ⟨x,g,q⟩ e he=> ?_⟩,0,h0,q0⟩
 ·obtain⟨d,hd,rfl⟩:=List.mem_map.1 he
  obtain⟨e,he2,k,_⟩:=h.bw g d hd
  have:=hQ.len q (e.1.toNat,e.2.toNat) (List.mem_map.2 ⟨e,he2,rfl⟩)
  show d.1.toNat<_
  rw[←k];exact this
 ·obtain⟨d,hd,rfl⟩:=List.mem_map.1 he
  obtain⟨e,he2,k,r⟩:=h.bw g d hd
  have:=hQ.nxt q (e.1.toNat,e.2.toNat) (List.mem_map.2 ⟨e,he2,rfl⟩)
  show 0≤ix (nxt s z) d.1.toNat∧∃x,R x d.2.toNat∧Q x (ix (nxt s z) d.1.toNat).toNat
  rw[←k]
  exact⟨this.1,e.2.toNat,r,this.2⟩
def mkE (n:Nat) (u:Int) (nx:List Int):List PP:=(aL n u).map fun a=>(a,ix nx a.toNat)
def mkM (ch:Nat→Int) (s:SS):aA:=⟨s.aC,(List.range s.sT.length).map fun y=>mkE s.aC.length (ch y) (nxt s y)⟩
theorem vI {ch:Nat→Int} {s:SS} {y:Nat} (hy:y<s.sT.length):edg (mkM ch s) y=mkE s.aC.length (ch y) (nxt s y):=by
 show ix ((List.range s.sT.length).map _) y=_
 exact cG hy
theorem DJ {n:Nat} {u:Int} {nx:List Int} {e:PP}:e∈mkE n u nx↔∃a:Nat,a<n∧has u (a:Int)=true∧e=((a:Int),ix nx a):=by
 unfold mkE
 rw[List.mem_map]
 constructor
 ·rintro⟨x,hx,rfl⟩
  obtain⟨a,rfl,ha,hh⟩:=dZ.1 hx
  exact⟨a,ha,hh,by rw[Int.toNat_natCast]⟩
 ·rintro⟨a,ha,hh,rfl⟩
  exact⟨(a:Int),dZ.2 ⟨a,rfl,ha,hh⟩,by rw[Int.toNat_natCast]⟩
section
variable {s:SS} (hs:oK s) {ch:Nat→Int} (hc:∀y,y<s.sT.length→ch y∈acc s y)
include hs hc
theorem TK {y:Nat} (hy:y<s.sT.length):bR (mkM ch s) y=ch y:=by
 have hin:=hc y hy
 have hb:=CompM.qC hs hy _ hin
 have n1:0≤bR (mkM ch s) y:=oW _
 have key:∀a:Nat,has (bR (mkM ch s) y) (a:Int)=has (ch y) (a:Int):=fun a=>by
  rw[Bool.eq_iff_iff,gQ,vI hy]
  constructor
  ·rintro⟨e,he,g⟩
   obtain⟨b,hb,hh,rfl⟩:=DJ.1 he
   have g:(b:Int).toNat=a:=g
   rw[Int.toNat_natCast] at g
   rw[←g];exact hh
  ·intro hh
   have:=(oD hs hy ((cO _ _).2 ⟨_,hin,hh⟩)).1
   exact⟨_,DJ.2 ⟨a,this,hh,rfl⟩,by show((a:Int)).toNat=a;rw[Int.toNat_natCast]⟩
 have:(bR (mkM ch s) y).toNat=(ch y).toNat:=by
  apply Nat.eq_of_testBit_eq
  intro i
  have:=key i
  unfold has at this
  rwa [Int.toNat_natCast] at this
 omega
theorem GX {y:Nat} (hy:y<s.sT.length) {e:PP} (he:e∈edg (mkM ch s) y):e.1.toNat<s.aC.length∧0≤e.1∧e.2=ix (nxt s y) e.1.toNat∧0≤e.2∧e.2<(s.sT.length:Int):=by
 rw[vI hy] at he
 obtain⟨a,ha,hh,rfl⟩:=DJ.1 he
 have:=oD hs hy ((cO _ _).2 ⟨_,hc y hy,hh⟩)
 show((a:Int)).toNat<_∧0≤(a:Int)∧ix (nxt s y) a=ix (nxt s y) (a:Int).toNat∧0≤ix (nxt s y) a∧ix (nxt s y) a<_
 rw[Int.toNat_natCast]
 exact⟨ha,Int.natCast_nonneg _,rfl,this.2.1,this.2.2⟩
theorem JC:eR (mkM ch s) s:=by
 have f0:=hs.few0
 refine⟨fun x y=>x=y∧y<s.sT.length,⟨fun h=>h.2,fun {x y} ⟨e,hy⟩=>by subst e;rw[TK hs hc hy];exact hc _ hy,fun {x y} ⟨e,hy⟩ d hd=> ?_,fun {x y} ⟨e,hy⟩ d hd=> ?_⟩,rfl,O⟩
 ·subst e
  obtain⟨e,he,rfl⟩:=List.mem_map.1 hd
  have:=GX hs hc hy he
  have hl:(nxt s x).length=s.aC.length:=(hs.st x hy).len
  rw[hl];exact this.1
 ·subst e
  obtain⟨e,he,rfl⟩:=List.mem_map.1 hd
  obtain⟨h1,h2,h3,h4,h5⟩:=GX hs hc hy he
  show 0≤ix (nxt s x) e.1.toNat∧(e.2.toNat=(ix (nxt s x) e.1.toNat).toNat∧(ix (nxt s x) e.1.toNat).toNat<s.sT.length)
  rw[←h3]
  exact⟨h4,rfl,O⟩
theorem vJ:bC (mkM ch s):=by
 have f0:=hs.few0
 have f1:=hs.few1
 have e:(mkM ch s).sT.length=s.sT.length:=by simp[mkM]
 refine⟨hs.acts,hs.n8,by rw[e];exact f0,by rw[e];exact f1,fun x hx d hd=> ?_,fun x hx=> ?_⟩
 ·rw[e] at hx ⊢
  obtain⟨h1,h2,h3,h4,h5⟩:=GX hs hc hx hd
  exact⟨h2,by show d.1<(s.aC.length:Int);omega,h4,h5⟩
 ·rw[e] at hx
  rw[vI hx]
  show((aL s.aC.length (ch x)).map _).length≤400000
  rw[List.length_map]
  have h1:(aL s.aC.length (ch x)).length≤s.aC.length:=by
   unfold aL
   first
     |(refine Nat.le_trans (List.length_filterMap_le _ _) ?_;simp)
     |(rw[List.length_map];exact Nat.le_trans (List.length_filter_le _ _) (by simp))
     |(exact Nat.le_trans (List.length_filter_le _ _) (by simp))
  have:=hs.n8
  omega
end
end MakeM
end
section
namespace LsysM
open ref01 ref03 ref04 ref06 Part Rungs LeftM TrimM RoundM MergeM BisM BisM3 BisM4 BisM5 BisM6 Keys WalkM WitM JudgM JudgM2 LevM divr divs divd dive divf divv judg sysw satj ChsM BisS TrimI QuoM FailM DivM RefM GenW CompM CrossM FitM TogM KeepK GuardM MakeM
theorem iA {α:Type} [Inhabited α] {zs:List α} {i:Nat} (hi:i<zs.length):zs.toArray[i]! =ix zs i:=by
 rw[aG hi,getElem!_pos _ i (by simpa using hi)];simp
theorem ED {α:Type} [Inhabited α] [DecidableEq α] {zs:List α} {x:α}:x∈Lib.compact zs↔x∈zs:=by
 unfold Lib.compact Lib.compactUpTo
 rw[List.mem_map]
 constructor
 ·rintro⟨i,hi,rfl⟩
  have hi':i<zs.length:=List.mem_range.1 (List.mem_filter.1 hi).1
  rw[iA hi'];exact aO hi'
 ·intro hx
  obtain⟨i,hi,rfl⟩:=List.getElem_of_mem hx
  have key:∀i,i<zs.length→∃j,j∈(List.range zs.length).filter (Lib.keeps zs.toArray)∧ix zs j=ix zs i:=by
   intro i
   induction i with
   |zero=>intro hi;exact⟨0,List.mem_filter.2 ⟨List.mem_range.2 hi,by simp[Lib.keeps]⟩,rfl⟩
   |succ i ih=>
    intro hi
    by_cases e:ix zs (i+1)=ix zs i
    ·obtain⟨j,h1,h2⟩:=ih O
     exact⟨j,h1,h2.trans e.symm⟩
    ·refine⟨i+1,List.mem_filter.2 ⟨List.mem_range.2 hi,?_⟩,rfl⟩
     refine Lib.keeps_pos ?_
     rw[iA hi,show i+1- 1=i from rfl,iA O];exact e
  obtain⟨j,h1,h2⟩:=key i hi
  refine⟨j,h1,?_⟩
  rw[iA (List.mem_range.1 (List.mem_filter.1 h1).1),h2,aG hi]
theorem EE {α:Type} [Inhabited α] [DecidableEq α] (zs:List α):(Lib.compact zs).length≤zs.length:=by
 unfold Lib.compact Lib.compactUpTo
 rw[List.length_map]
 exact Nat.le_trans (List.length_filter_le _ _) (by simp)
theorem CF {zs:List PP} (h:zs.Pairwise (fun p q=>p.1<q.1∨(p.1=q.1∧p.2≤q.2))):(Lib.compact zs).Pairwise uJ:=by
 have hs:∀i j,i≤j→j<zs.length→(ix zs i).1<(ix zs j).1∨((ix zs i).1=(ix zs j).1∧(ix zs i).2≤(ix zs j).2):=fun i j hij hj=>by
  rcases Nat.lt_or_ge i j with g|g
  ·rw[aG O,aG hj]
   exact List.pairwise_iff_getElem.1 h i j O hj g
  ·have:i=j:=by omega
   subst this;exact .inr ⟨rfl,Int.le_refl _⟩
 unfold Lib.compact Lib.compactUpTo
 rw[List.pairwise_map]
 refine List.Pairwise.imp_of_mem (R:=(· < ·)) (fun {i j} hi hj hij=> ?_) (List.pairwise_lt_range.filter _)
 obtain⟨hi1,_⟩:=List.mem_filter.1 hi
 obtain⟨hj1,hj2⟩:=List.mem_filter.1 hj
 have hi1:=List.mem_range.1 hi1
 have hj1:=List.mem_range.1 hj1
 have hne:ix zs j≠ix zs (j- 1):=by
  unfold Lib.keeps at hj2
  have:=of_decide_eq_true hj2
  rcases this with g|g
  ·omega
  ·rwa [iA hj1,iA O] at g
 rw[iA hi1,iA hj1]
 have h1:=hs i (j- 1) O O
 have h2:=hs (j- 1) j O hj1
 have h3:¬((ix zs j).1=(ix zs (j- 1)).1∧(ix zs j).2=(ix zs (j- 1)).2):=fun g=>hne (Prod.ext g.1 g.2)
 unfold uJ
 omega
def iI (m:aA) (x:Int):List Int:=(edg m x.toNat).map Prod.snd
def bqY (m:aA):Nat→List Int
 |0=> [0]
 |i+1=>if i<(bqY m i).length then visit (bqY m i) (iI m (ix (bqY m i) i)) else bqY m i
def bD (m:aA):List Int:=bqY m m.sT.length
structure QY (m:aA) (i:Nat) (l:List Int):Prop where
 nd:l.Nodup
 bd:∀x∈l,0≤x∧x<(m.sT.length:Int)
 ne:0<l.length
 hd:ix l 0=0
 dn:∀j,j<i→j<l.length→∀e∈edg m (ix l j).toNat,e.2∈l
 rch:∀x∈l,AZ m x.toNat
theorem CG {n:Nat} {l:List Int} (hn:l.Nodup) (hb:∀x∈l,0≤x∧x<(n:Int)):l.length≤n:=by
 have h:=List.Nodup.length_le_of_subset (l₂:=(List.range n).map fun(k:Nat)=>(k:Int)) hn (fun x hx=>by
  have:=hb x hx
  exact List.mem_map.2 ⟨x.toNat,List.mem_range.2 O,O⟩)
 simpa using h
theorem TL {m:aA} (hm:bC m):QY m 0 [0]:=by
 have f:=hm.few0
 exact⟨by simp,fun x hx=>by rw[List.mem_singleton.1 hx];omega,by simp,rfl,fun j hj=>absurd hj O,fun x hx=>by rw[List.mem_singleton.1 hx];exact .zero⟩
theorem TM {m:aA} (hm:bC m) {i:Nat} {l:List Int} (h:QY m i l) (hi:i<l.length):QY m (i+1) (visit l (iI m (ix l i))):=by
 have hp:=gV (iI m (ix l i)) l
 have hle:=hp.length_le
 have hne:=h.ne
 have hbi:=h.bd _ (aO hi)
 have hed:∀y∈iI m (ix l i),∃e∈edg m (ix l i).toNat,e.2=y:=fun y hy=>by
  obtain⟨e,he,rfl⟩:=List.mem_map.1 hy
  exact⟨e,he,rfl⟩
 have hnn:∀e∈edg m (ix l i).toNat,0≤e.2∧e.2<(m.sT.length:Int):=fun e he=>by have:=hm.ed _ O e he;omega
 refine⟨uD _ _ h.nd,fun x hx=> ?_,O,(sL hp hne).trans h.hd,fun j hj hjl e he=> ?_,fun x hx=> ?_⟩
 ·rcases tK _ _ hx with g|g
  ·exact h.bd x g
  ·obtain⟨e,he,rfl⟩:=hed x g
   exact hnn e he
 ·by_cases c:j=i
  ·subst c
   rw[sL hp hi] at he
   exact tN (hnn e he).1 _ _ (List.mem_map.2 ⟨e,he,rfl⟩)
  ·have hjl2:j<l.length:=by omega
   rw[sL hp hjl2] at he
   exact hp.subset (h.dn j O hjl2 e he)
 ·rcases tK _ _ hx with g|g
  ·exact h.rch x g
  ·obtain⟨e,he,rfl⟩:=hed x g
   exact .step (h.rch _ (aO hi)) he
theorem vK {m:aA} (hm:bC m):∀i,QY m i (bqY m i)
 |0=>TL hm
 |i+1=>by
  have ih:=vK hm i
  show QY m (i+1) (if i<(bqY m i).length then visit (bqY m i) (iI m (ix (bqY m i) i)) else bqY m i)
  by_cases c:i<(bqY m i).length
  ·rw[if_pos c];exact TM hm ih c
  ·rw[if_neg c]
   exact { ih with dn:=fun j hj hjl=>ih.dn j O hjl }
theorem lD {m:aA} (hm:bC m):QY m m.sT.length (bD m):=vK hm _
theorem rJ {m:aA} (hm:bC m):(bD m).length≤m.sT.length:=CG (lD hm).nd (lD hm).bd
theorem mH {m:aA} (hm:bC m) {i:Nat} (hi:i<(bD m).length) {e:PP} (he:e∈edg m (ix (bD m) i).toNat):e.2∈bD m:=by
 have:=rJ hm
 exact(lD hm).dn i O hi e he
def uK (l:List Int) (es:List PP):List PP:=bT (es.map fun e=>(e.1,dN l e.2))
def aF (m:aA):aA:=⟨m.aC,(bD m).map fun x=>uK (bD m) (edg m x.toNat)⟩
theorem lG (m:aA):(aF m).sT.length=(bD m).length:=by simp[aF]
theorem vL {m:aA} {i:Nat} (hi:i<(bD m).length):edg (aF m) i=uK (bD m) (edg m (ix (bD m) i).toNat):=Dj hi
theorem Bb {l:List Int} {es:List PP} {d:PP}:d∈uK l es↔∃e∈es,d=(e.1,dN l e.2):=by
 unfold uK
 rw[(fJ _).mem_iff,List.mem_map]
 exact⟨fun⟨e,he,g⟩=>⟨e,he,g.symm⟩,fun⟨e,he,g⟩=>⟨e,he,g.symm⟩⟩
theorem TP {m:aA} (hm:bC m):BisY (aF m) m (fun i x=>i<(bD m).length∧x=(ix (bD m) i).toNat):=by
 refine⟨fun {i x} ⟨hi,hx⟩ d hd=> ?_,fun {i x} ⟨hi,hx⟩ e he=> ?_⟩
 ·subst hx
  rw[vL hi] at hd
  obtain⟨e,he,rfl⟩:=Bb.1 hd
  obtain⟨p1,p2⟩:=kD (mH hm hi he)
  have p0:=(fZ (bD m) e.2).1
  exact⟨e,he,rfl,by show(dN (bD m) e.2).toNat<_;omega,by show e.2.toNat=(ix (bD m) (dN (bD m) e.2).toNat).toNat;rw[p2]⟩
 ·subst hx
  obtain⟨p1,p2⟩:=kD (mH hm hi he)
  have p0:=(fZ (bD m) e.2).1
  refine⟨(e.1,dN (bD m) e.2),by rw[vL hi];exact Bb.2 ⟨e,he,rfl⟩,rfl,by show(dN (bD m) e.2).toNat<_;omega,by show e.2.toNat=(ix (bD m) (dN (bD m) e.2).toNat).toNat;rw[p2]⟩
theorem qJ {m:aA} (hm:bC m):bC (aF m):=by
 have hq:=lD hm
 have hl:=rJ hm
 have f1:=hm.few1
 refine⟨hm.acts,hm.n8,by rw[lG];exact hq.ne,by rw[lG];omega,fun i hi d hd=> ?_,fun i hi=> ?_⟩
 ·rw[lG] at hi ⊢
  rw[vL hi] at hd
  obtain⟨e,he,rfl⟩:=Bb.1 hd
  have hb:=hq.bd _ (aO hi)
  have:=hm.ed _ O e he
  obtain⟨p1,p2⟩:=kD (mH hm hi he)
  exact⟨this.1,this.2.1,(fZ (bD m) e.2).1,p1⟩
 ·rw[lG] at hi
  rw[vL hi]
  unfold uK
  rw[(fJ _).length_eq,List.length_map]
  have hb:=hq.bd _ (aO hi)
  exact hm.many _ O
def pN (n:Nat) (cl:List Int) (es:List PP):List Int:=Lib.compact (fC (es.map fun e=>e.1*((n:Int)+1)+ix cl e.2.toNat))
theorem jT {n:Nat} {cl:List Int} {es:List PP} {v:Int}:v∈pN n cl es↔∃e∈es,v=e.1*((n:Int)+1)+ix cl e.2.toNat:=by
 unfold pN
 rw[PV]
 unfold fC
 rw[(List.mergeSort_perm _ _).mem_iff,List.mem_map]
 exact⟨fun⟨e,he,g⟩=>⟨e,he,g.symm⟩,fun⟨e,he,g⟩=>⟨e,he,g.symm⟩⟩
theorem EF (n:Nat) (cl:List Int) (es:List PP):(pN n cl es).Pairwise (· < ·):=Nf (VZ _)
abbrev KY:=Int × List Int
def dY (m:aA) (cl:List Int) (x:Nat):KY:=(ix cl x,pN cl.length cl (edg m x))
def cW (m:aA) (cl:List Int):List KY:=(List.range m.sT.length).map (dY m cl)
def gR (ks:List KY):List KY:=ks.foldl eS []
def dX (m:aA) (cl:List Int):List Int:=(cW m cl).map fun k=>(pxa (gR (cW m cl)) k:Int)
def gH (m:aA) (cl:List Int):Nat:=(gR (cW m cl)).length
theorem JD:∀(ks l:List KY) {k:KY},k∈ks.foldl eS l↔k∈l∨k∈ks
 | [],l,k=>by simp
 |x::ks,l,k=>by
  rw[List.foldl_cons,JD ks]
  constructor
  ·rintro(h|h)
   ·rcases Jr h with g|g
    ·exact .inl g
    ·exact .inr (by rw[g];simp)
   ·exact .inr (List.mem_cons_of_mem _ h)
  ·rintro(h|h)
   ·exact .inl ((uI l x).subset h)
   ·rcases List.mem_cons.1 h with g|g
    ·exact .inl (by rw[g];exact AO l x)
    ·exact .inr g
theorem Nw:∀(ks l:List KY),l.Nodup→(ks.foldl eS l).Nodup
 | [],l,h=>h
 |x::ks,l,h=>Nw ks _ (Dr h)
theorem lH {ks:List KY} {k:KY}:k∈gR ks↔k∈ks:=by unfold gR;rw[JD];simp
theorem DK (ks:List KY):(gR ks).Nodup:=Nw ks [] (by simp)
theorem rK {m:aA} {cl:List Int} {x:Nat} (hx:x<m.sT.length):dY m cl x∈cW m cl:=List.mem_map.2 ⟨x,List.mem_range.2 hx,rfl⟩
theorem GY (m:aA) (cl:List Int):(dX m cl).length=m.sT.length:=by simp[dX,cW]
theorem vM {m:aA} {cl:List Int} {x:Nat} (hx:x<m.sT.length):ix (dX m cl) x=(pxa (gR (cW m cl)) (dY m cl x):Int):=by
 unfold dX
 rw[Dj (by simpa [cW] using hx)]
 unfold cW
 rw[cG hx]
theorem zW {m:aA} {cl:List Int} {x y:Nat} (hx:x<m.sT.length) (hy:y<m.sT.length):ix (dX m cl) x=ix (dX m cl) y↔dY m cl x=dY m cl y:=by
 rw[vM hx,vM hy]
 constructor
 ·intro h
  have h:pxa (gR (cW m cl)) (dY m cl x)=pxa (gR (cW m cl)) (dY m cl y):=by omega
  have e1:=QuoM.vD (lH.2 (rK (cl:=cl) hx))
  have e2:=QuoM.vD (lH.2 (rK (cl:=cl) hy))
  have e1:ix (gR (cW m cl)) (pxa (gR (cW m cl)) (dY m cl x))=dY m cl x:=e1
  rw[h] at e1
  exact e1.symm.trans e2
 ·intro h;rw[h]
structure Lab (n k:Nat) (cl:List Int):Prop where
 len:cl.length=n
 bd:∀x,x<n→0≤ix cl x∧ix cl x<(k:Int)
 on:∀c:Nat,c<k→∃x,x<n∧ix cl x=(c:Int)
theorem Bc (m:aA) (cl:List Int):Lab m.sT.length (gH m cl) (dX m cl):=by
 refine⟨GY m cl,fun x hx=> ?_,fun c hc=> ?_⟩
 ·rw[vM hx]
  have:pxa (gR (cW m cl)) (dY m cl x)<(gR (cW m cl)).length:=QuoM.yI (lH.2 (rK hx))
  unfold gH
  omega
 ·have hin:ix (gR (cW m cl)) c∈cW m cl:=lH.1 (aO hc)
  obtain⟨x,hx,e⟩:=List.mem_map.1 hin
  have hx:=List.mem_range.1 hx
  refine⟨x,hx,?_⟩
  rw[vM hx,e]
  have hc:c<(gR (cW m cl)).length:=hc
  have h1:pxa (gR (cW m cl)) (ix (gR (cW m cl)) c)≤c:=QuoM.MV hc rfl
  have h2:=QuoM.vD (aO hc)
  have h2:ix (gR (cW m cl)) (pxa (gR (cW m cl)) (ix (gR (cW m cl)) c))=ix (gR (cW m cl)) c:=h2
  generalize pxa (gR (cW m cl)) (ix (gR (cW m cl)) c)=j at h1 h2 ⊢
  rcases Nat.lt_or_ge j c with g|g
  ·exfalso
   rw[aG O,aG hc] at h2
   exact(List.pairwise_iff_getElem.1 (DK (cW m cl)) _ _ O hc g) h2
  ·omega
theorem CH {m:aA} {k:Nat} {cl:List Int} (h:Lab m.sT.length k cl) (hk:gH m cl≤k) {x y:Nat} (hx:x<m.sT.length) (hy:y<m.sT.length) (e:ix cl x=ix cl y):ix (dX m cl) x=ix (dX m cl) y:=by
 rw[zW hx hy]
 refine Classical.byContradiction fun hne=> ?_
 have hD:=DK (cW m cl)
 have m1:=lH.2 (rK (cl:=cl) hx)
 have m2:=lH.2 (rK (cl:=cl) hy)
 have hcov:∀c∈(List.range k).map (fun(c:Nat)=>(c:Int)),c∈((gR (cW m cl)).erase (dY m cl y)).map Prod.fst:=fun v hv=>by
  obtain⟨c,hc,hcv⟩:=List.mem_map.1 hv
  subst hcv
  obtain⟨z,hz,ez⟩:=h.on c (List.mem_range.1 hc)
  have m3:=lH.2 (rK (cl:=cl) hz)
  by_cases g:dY m cl z=dY m cl y
  ·refine List.mem_map.2 ⟨dY m cl x,(List.Nodup.mem_erase_iff hD).2 ⟨hne,m1⟩,?_⟩
   have:ix cl z=ix cl y:=congrArg Prod.fst g
   show ix cl x=(c:Int)
   rw[e,←this,ez]
  ·exact List.mem_map.2 ⟨dY m cl z,(List.Nodup.mem_erase_iff hD).2 ⟨g,m3⟩,ez⟩
 have hn:((List.range k).map (fun(c:Nat)=>(c:Int))).Nodup:=by
  rw[List.nodup_iff_pairwise_ne,List.pairwise_map]
  exact List.pairwise_lt_range.imp fun h=>by omega
 have:=List.Nodup.length_le_of_subset hn hcov
 rw[List.length_map,List.length_map,List.length_range,List.length_erase_of_mem m2] at this
 have hp:0<(gR (cW m cl)).length:=List.length_pos_of_mem m2
 unfold gH at hk
 omega
theorem DL {m:aA} (hm:bC m) {k:Nat} {cl:List Int} (h:Lab m.sT.length k cl) (hkn:k≤m.sT.length) {x y:Nat} (hx:x<m.sT.length) (hy:y<m.sT.length):
 dY m cl x=dY m cl y↔ix cl x=ix cl y∧(∀e∈edg m x,∃d∈edg m y,d.1=e.1∧ix cl d.2.toNat=ix cl e.2.toNat)∧(∀d∈edg m y,∃e∈edg m x,e.1=d.1∧ix cl e.2.toNat=ix cl d.2.toNat):=by
 have hb:∀{z:Nat},z<m.sT.length→∀e∈edg m z,0≤ix cl e.2.toNat∧ix cl e.2.toNat<(cl.length:Int)+1:=fun {z} hz e he=>by
  have g:=hm.ed z hz e he
  have:=h.bd e.2.toNat O
  rw[h.len]
  omega
 have inj:∀{a b c d n:Int},0≤b→b<n→0≤d→d<n→a*n+b=c*n+d→a=c∧b=d:=fun {a b c d n} h1 h2 h3 h4 he=>by
  have hn:0<n:=by omega
  have e1:(a*n+b)/n=a:=by
   rw[Int.add_comm,Int.add_mul_ediv_right _ _ O,Int.ediv_eq_zero_of_lt h1 h2];omega
  have e2:(c*n+d)/n=c:=by
   rw[Int.add_comm,Int.add_mul_ediv_right _ _ O,Int.ediv_eq_zero_of_lt h3 h4];omega
  rw[he] at e1
  have:a=c:=by omega
  subst this
  exact⟨rfl,O⟩
 unfold dY
 rw[Prod.mk.injEq]
 constructor
 ·rintro⟨h1,h2⟩
  refine⟨h1,fun e he=> ?_,fun d hd=> ?_⟩
  ·have:e.1*((cl.length:Int)+1)+ix cl e.2.toNat∈pN cl.length cl (edg m y):=by rw[←h2];exact jT.2 ⟨e,he,rfl⟩
   obtain⟨d,hd,g⟩:=jT.1 this
   obtain⟨g1,g2⟩:=inj (hb hx e he).1 (hb hx e he).2 (hb hy d hd).1 (hb hy d hd).2 g
   exact⟨d,hd,g1.symm,g2.symm⟩
  ·have:d.1*((cl.length:Int)+1)+ix cl d.2.toNat∈pN cl.length cl (edg m x):=by rw[h2];exact jT.2 ⟨d,hd,rfl⟩
   obtain⟨e,he,g⟩:=jT.1 this
   obtain⟨g1,g2⟩:=inj (hb hy d hd).1 (hb hy d hd).2 (hb hx e he).1 (hb hx e he).2 g
   exact⟨e,he,g1.symm,g2.symm⟩
 ·rintro⟨h1,h2,h3⟩
  refine⟨h1,Cg (EF _ _ _) (EF _ _ _) fun v=>⟨fun hv=> ?_,fun hv=> ?_⟩⟩
  ·obtain⟨e,he,rfl⟩:=jT.1 hv
   obtain⟨d,hd,g1,g2⟩:=h2 e he
   exact jT.2 ⟨d,hd,by rw[g1,g2]⟩
  ·obtain⟨d,hd,rfl⟩:=jT.1 hv
   obtain⟨e,he,g1,g2⟩:=h3 d hd
   exact jT.2 ⟨e,he,by rw[g1,g2]⟩
end LsysM
end
section
namespace LsysM2
open ref01 ref03 ref04 ref06 Part Rungs LeftM TrimM RoundM MergeM BisM BisM3 BisM4 BisM5 BisM6 Keys WalkM WitM JudgM JudgM2 LevM divr divs divd dive divf divv judg sysw satj ChsM BisS TrimI QuoM FailM DivM RefM GenW CompM CrossM FitM TogM KeepK GuardM MakeM LsysM
theorem DN (m:aA) (cl:List Int):gH m cl≤m.sT.length:=by
 have h:=List.Nodup.length_le_of_subset (DK (cW m cl)) (fun k hk=>lH.1 hk)
 unfold cW at h
 rw[List.length_map,List.length_range] at h
 exact h
def wX (m:aA):Nat→Nat→List Int→List Int
 |0,_,cl=>cl
 |f+1,k,cl=>if k<gH m cl then wX m f (gH m cl) (dX m cl) else dX m cl
def yP (m:aA) (cl:List Int):Prop:=∀R,BisY m m R→∀x y,x<m.sT.length→y<m.sT.length→R x y→ix cl x=ix cl y
theorem Ag {m:aA} (hm:bC m) {k:Nat} {cl:List Int} (h:Lab m.sT.length k cl) (hk:k≤m.sT.length) (hc:yP m cl):yP m (dX m cl):=fun R hR x y hx hy r=>by
 rw[zW hx hy,DL hm h hk hx hy]
 refine⟨hc R hR x y hx hy r,fun e he=> ?_,fun d hd=> ?_⟩
 ·obtain⟨d,hd,g,r2⟩:=hR.fw r e he
  have b1:=hm.ed x hx e he
  have b2:=hm.ed y hy d hd
  exact⟨d,hd,g,(hc R hR _ _ O O r2).symm⟩
 ·obtain⟨e,he,g,r2⟩:=hR.bw r d hd
  have b1:=hm.ed x hx e he
  have b2:=hm.ed y hy d hd
  exact⟨e,he,g,hc R hR _ _ O O r2⟩
structure pX (m:aA) (k:Nat) (nx:List Int):Prop where
 lab:Lab m.sT.length k nx
 few:k≤m.sT.length
 bis:BisY m m (fun x y=>x<m.sT.length∧y<m.sT.length∧ix nx x=ix nx y)
 co:yP m nx
theorem TQ {m:aA} (hm:bC m) {k:Nat} {cl:List Int} (h:Lab m.sT.length k cl) (hk:k≤m.sT.length) (hc:yP m cl) (hs:gH m cl≤k):pX m (gH m cl) (dX m cl):=by
 refine⟨Bc m cl,DN m cl,⟨fun {x y} ⟨hx,hy,e⟩ d hd=> ?_,fun {x y} ⟨hx,hy,e⟩ d hd=> ?_⟩,Ag hm h hk hc⟩
 ·rw[zW hx hy,DL hm h hk hx hy] at e
  obtain⟨d',hd',g1,g2⟩:=e.2.1 d hd
  have b1:=hm.ed x hx d hd
  have b2:=hm.ed y hy d' hd'
  exact⟨d',hd',g1,O,O,CH h hs O O g2.symm⟩
 ·rw[zW hx hy,DL hm h hk hx hy] at e
  obtain⟨d',hd',g1,g2⟩:=e.2.2 d hd
  have b1:=hm.ed x hx d' hd'
  have b2:=hm.ed y hy d hd
  exact⟨d',hd',g1,O,O,CH h hs O O g2⟩
def sW (m:aA):List Int:=List.replicate m.sT.length 0
def aI (m:aA):List Int:=wX m (m.sT.length+1) 1 (sW m)
theorem GZ {m:aA} (hm:bC m):Lab m.sT.length 1 (sW m):=by
 have f:=hm.few0
 refine⟨by simp[sW],fun x hx=> ?_,fun c hc=>⟨0,O,?_⟩⟩
 ·have:ix (sW m) x=0:=Cx 0 hx
  rw[this];omega
 ·have:ix (sW m) 0=0:=Cx 0 O
  rw[this];omega
def qE (nx:List Int) (es:List PP):List PP:=Lib.compact (bT (es.map fun e=>(e.1,ix nx e.2.toNat)))
def jK (m:aA) (k:Nat) (nx:List Int):aA:=⟨m.aC,(List.range k).map fun(c:Nat)=>qE nx (edg m (nx.idxOf (c:Int)))⟩
theorem Ha {nx:List Int} {es:List PP} {d:PP}:d∈qE nx es↔∃e∈es,d=(e.1,ix nx e.2.toNat):=by
 unfold qE
 rw[ED,(fJ _).mem_iff,List.mem_map]
 exact⟨fun⟨e,he,g⟩=>⟨e,he,g.symm⟩,fun⟨e,he,g⟩=>⟨e,he,g.symm⟩⟩
theorem TR (nx:List Int) (es:List PP):(qE nx es).Pairwise uJ:=CF (sB _)
theorem Nx (nx:List Int) (es:List PP):(qE nx es).length≤es.length:=by
 unfold qE
 have h1:=EE (bT (es.map fun e=>((e.1,ix nx e.2.toNat):PP)))
 have h2:=(fJ (es.map fun e=>((e.1,ix nx e.2.toNat):PP))).length_eq
 rw[List.length_map] at h2
 omega
theorem vN {m:aA} {k:Nat} {nx:List Int} {c:Nat} (hc:c<k):edg (jK m k nx) c=qE nx (edg m (nx.idxOf (c:Int))):=by
 show ix ((List.range k).map _) c=_
 exact cG hc
theorem rL (m:aA) (k:Nat) (nx:List Int):(jK m k nx).sT.length=k:=by simp[jK]
section
variable {m:aA} {k:Nat} {nx:List Int}
theorem yQ (h:Lab m.sT.length k nx) {c:Nat} (hc:c<k):nx.idxOf (c:Int)<m.sT.length∧ix nx (nx.idxOf (c:Int))=(c:Int):=by
 obtain⟨x,hx,e⟩:=h.on c hc
 have hin:(c:Int)∈nx:=by rw[←e];exact aO (by rw[h.len];exact hx)
 have h1:=List.idxOf_lt_length_of_mem hin
 refine⟨by rw[←h.len];exact h1,?_⟩
 rw[aG h1]
 exact List.getElem_idxOf h1
theorem TS (hm:bC m) (h:pX m k nx):BisY m (jK m k nx) (fun x c=>x<m.sT.length∧c<k∧ix nx x=(c:Int)):=by
 refine⟨fun {x c} ⟨hx,hc,e⟩ d hd=> ?_,fun {x c} ⟨hx,hc,e⟩ d hd=> ?_⟩
 ·obtain⟨r1,r2⟩:=yQ h.lab hc
  obtain⟨d',hd',g1,b1,b2,g2⟩:=h.bis.fw (x:=x) (y:=nx.idxOf (c:Int)) ⟨hx,r1,by rw[e,r2]⟩ d hd
  have hb:=h.lab.bd d.2.toNat b1
  have hn:ix nx d'.2.toNat=ix nx d.2.toNat:=g2.symm
  refine⟨(d'.1,ix nx d'.2.toNat),by rw[vN hc];exact Ha.2 ⟨d',hd',rfl⟩,g1,b1,?_,?_⟩
  ·show(ix nx d'.2.toNat).toNat<k
   rw[hn];omega
  ·show ix nx d.2.toNat=(((ix nx d'.2.toNat).toNat:Nat):Int)
   rw[hn];omega
 ·obtain⟨r1,r2⟩:=yQ h.lab hc
  rw[vN hc] at hd
  obtain⟨d',hd',rfl⟩:=Ha.1 hd
  obtain⟨e',he',g1,b1,b2,g2⟩:=h.bis.bw (x:=x) (y:=nx.idxOf (c:Int)) ⟨hx,r1,by rw[e,r2]⟩ d' hd'
  have hb:=h.lab.bd e'.2.toNat b1
  refine⟨e',he',g1,b1,?_,?_⟩
  ·show(ix nx d'.2.toNat).toNat<k
   rw[←g2];omega
  ·show ix nx e'.2.toNat=(((ix nx d'.2.toNat).toNat:Nat):Int)
   rw[←g2];omega
theorem Ny (hm:bC m) (h:pX m k nx):bC (jK m k nx):=by
 have f0:=hm.few0
 have f1:=hm.few1
 have hk:=h.few
 have hb0:=h.lab.bd 0 O
 refine⟨hm.acts,hm.n8,by rw[rL];omega,by rw[rL];omega,fun c hc d hd=> ?_,fun c hc=> ?_⟩
 ·rw[rL] at hc ⊢
  rw[vN hc] at hd
  obtain⟨r1,_⟩:=yQ h.lab hc
  obtain⟨e,he,rfl⟩:=Ha.1 hd
  have:=hm.ed _ r1 e he
  have hb:=h.lab.bd e.2.toNat O
  exact⟨this.1,this.2.1,hb.1,hb.2⟩
 ·rw[rL] at hc
  rw[vN hc]
  exact Nat.le_trans (Nx _ _) (hm.many _ (yQ h.lab hc).1)
end
theorem Nz {m:aA} (hm:bC m) {k:Nat} {nx:List Int} (h:pX (aF m) k nx) (h0:ix nx 0=0) {s:SS} (hs:eR m s):eR (jK (aF m) k nx) s:=by
 have hp:=qJ hm
 have f0:=hp.few0
 have hb:=h.lab.bd 0 O
 have h1:eR (aF m) s:=GV (TP hm).symm ⟨(lD hm).ne,by show 0=(ix (bD m) 0).toNat;rw[(lD hm).hd];rfl⟩ hs
 exact GV (TS hp h) ⟨O,O,by rw[h0];rfl⟩ h1
end LsysM2
end
section
namespace KeepB
open ref01 ref03 ref04 ref06 Part Rungs LeftM TrimM RoundM MergeM BisM BisM3 BisM4 BisM5 BisM6 Keys WalkM WitM JudgM JudgM2 LevM divr divs divd dive divf divv judg sysw satj ChsM BisS TrimI QuoM FailM DivM RefM GenW CompM CrossM FitM TogM KeepK GuardM MakeM LsysM LsysM2
def kG (mm:List (Int × Bool)) (l:List Int):Prop:=∀k,(bJ mm k).getD false=decide (k∈l)
theorem nL {mm:List (Int × Bool)} {l:List Int} (h:kG mm l) (k:Int):kG (bQ mm k true) (l++ [k]):=fun q=>by
 rw[kO]
 by_cases e:k=q
 ·subst e;rw[if_pos rfl];simp
 ·rw[if_neg e,h q]
  have:q∈l++ [k]↔q∈l:=by
   rw[List.mem_append]
   exact⟨fun h=>h.resolve_right (fun h=>e (List.mem_singleton.1 h).symm),.inl⟩
  rw[decide_eq_decide];exact this.symm
theorem NA:kG (bQ ([]:List (Int × Bool)) 0 true) [0]:=nL (l:= []) (fun q=>by rw[decide_eq_false (by simp)];rfl) 0
noncomputable def jD (m:aA) (u:Int):Bool:=(bD m).all fun x=>decide (bS (bR m x.toNat) u=u)
theorem TT (m:aA) (i:Nat):bqY m i<+:bqY m (i+1):=by
 show bqY m i<+:(if i<(bqY m i).length then visit (bqY m i) (iI m (ix (bqY m i) i)) else bqY m i)
 split
 ·exact gV _ _
 ·exact List.prefix_rfl
theorem Hb (m:aA) {i:Nat}:∀{j:Nat},i≤j→bqY m i<+:bqY m j
 |0,h=>by rw[show i=0 by omega];exact List.prefix_rfl
 |j+1,h=>by
  by_cases e:i=j+1
  ·rw[e];exact List.prefix_rfl
  ·exact(Hb m (j:=j) O).trans (TT m j)
theorem Hc {m:aA} {i:Nat} (h:(bqY m i).length≤i):∀j,i≤j→bqY m j=bqY m i
 |0,hj=>by rw[show i=0 by omega]
 |j+1,hj=>by
  by_cases e:i=j+1
  ·rw[e]
  ·have ih:=Hc h j O
   show(if j<(bqY m j).length then visit (bqY m j) (iI m (ix (bqY m j) j)) else bqY m j)=_
   rw[if_neg (by rw[ih];omega),ih]
theorem JE {m:aA} (hm:bC m) {i:Nat} (hi:i≤m.sT.length) (h:(bqY m i).length≤i):bqY m i=bD m:=(Hc h _ hi).symm
theorem Wp {m:aA} {i:Nat} (hi:i≤m.sT.length) {x:Int} (hx:x∈bqY m i):x∈bD m:=(Hb m hi).subset hx
theorem Hd {m:aA} (hm:bC m) (i:Nat):(bqY m i).length≤m.sT.length:=CG (vK hm i).nd (vK hm i).bd
theorem He {m:aA} {i:Nat} (hi:i<(bqY m i).length):bqY m (i+1)=visit (bqY m i) (iI m (ix (bqY m i) i)):=by
 show(if i<(bqY m i).length then visit (bqY m i) (iI m (ix (bqY m i) i)) else bqY m i)=_
 rw[if_pos hi]
theorem CJ {m:aA} {x:Int} {k:Nat} (hk:k<(edg m x.toNat).length):(iI m x).take (k+1)=(iI m x).take k++ [(ix (edg m x.toNat) k).2]:=by
 unfold iI
 rw[←List.map_take,←List.map_take,bN hk,List.map_append];rfl
theorem EG {l ks:List Int} {y:Int} (h0:0≤y) (h:y∉visit l ks):visit l (ks++ [y])=visit l ks++ [y]:=by rw[tP,wE h0 h]
theorem EH {l ks:List Int} {y:Int} (h:y∈visit l ks):visit l (ks++ [y])=visit l ks:=by rw[tP,tO (.inr h)]
theorem Qn {m:aA} {u:Int} {i:Nat} (hi:i≤m.sT.length) (hl:i<(bqY m i).length) (h:bS (bR m (ix (bqY m i) i).toNat) u≠u):jD m u=false:=by
 unfold jD
 rw[Bool.eq_false_iff]
 intro g
 have:=List.all_eq_true.1 g _ (Wp hi (aO hl))
 exact h (of_decide_eq_true this)
theorem NB {m:aA} (hm:bC m) {u:Int} {i:Nat} (hi:i≤m.sT.length) (hl:(bqY m i).length≤i) (h:∀j,j<i→j<(bqY m i).length→bS (bR m (ix (bqY m i) j).toNat) u=u):jD m u=true:=by
 unfold jD
 rw[←JE hm hi hl]
 refine List.all_eq_true.2 fun x hx=> ?_
 obtain⟨j,hj,rfl⟩:=List.getElem_of_mem hx
 rw[←aG hj]
 exact decide_eq_true (h j O hj)
theorem Wq {m:aA} (hm:bC m) {x:Nat} (h:AZ m x):(x:Int)∈bD m:=by
 have hq:=lD hm
 induction h with
 |zero=>
  have:ix (bD m) 0∈bD m:=aO hq.ne
  rw[hq.hd] at this;exact this
 |step h1 h2 ih=>
  rename_i x e
  obtain⟨j,hj,g⟩:=List.getElem_of_mem ih
  have e1:ix (bD m) j=(x:Int):=by rw[aG hj];exact g
  have:=mH hm hj (e:=e) (by rw[e1,Int.toNat_natCast];exact h2)
  have hb:=hq.bd _ this
  rw[show((e.2.toNat:Nat):Int)=e.2 by omega];exact this
theorem EI {m:aA} (hm:bC m) {u:Int}:jD m u=true↔oI m u:=by
 unfold jD oI
 rw[List.all_eq_true]
 constructor
 ·intro h x hx
  have:=of_decide_eq_true (h _ (Wq hm hx))
  rwa [Int.toNat_natCast] at this
 ·intro h x hx
  exact decide_eq_true (h _ ((lD hm).rch x hx))
end KeepB
end
end Go.Proofs.YtnlfjojfgghchaaGreatDoor
