/- The walks of the functions and the plain laws. Own texts of this claim, packed: Mkdivp, Mkprodm, MkEncM, Mkprodp, Mksatj, MkBesM, MkTogM, MkBrkM, MkProdM, MkSatC, MkOrdM, MkKeepK, Mkmkk, MkGuardM, MkMakeM, MkLsysM, MkLsysM2, MkKeepB. -/
import Derived.Test.YtnlfjojfgghchaaGreatDoorX14
import Derived.Test.YtnlfjojfgghchaaGreatDoorX21
import Derived.Test.YtnlfjojfgghchaaGreatDoorX20
import Derived.Test.YtnlfjojfgghchaaGreatDoorX16
import Derived.Test.YtnlfjojfgghchaaGreatDoorX19
import Derived.Test.YtnlfjojfgghchaaGreatDoorX17
import Derived.Test.YtnlfjojfgghchaaGreatDoorX10
import Derived.Test.YtnlfjojfgghchaaGreatDoorX06
import Derived.Test.YtnlfjojfgghchaaGreatDoorX12
import Derived.Test.YtnlfjojfgghchaaGreatDoorX04
set_option linter.all false
namespace Go.Proofs.YtnlfjojfgghchaaGreatDoor
open AL Go
set_option maxRecDepth 100000
section
open ref01 ref03 ref04 ref06 prog prog2 prog3 prog6 Part Rungs LeftM QuoM
namespace divp
end divp
end
section
open ref01 ref03 ref04 ref06 prog prog2 prog3 prog4 prog5 prog6 prog7 prog8 prog9 prog13 starts Part Rungs LeftM TrimM Itoa Keys RoundM MergeM BisM BisM4 BisM5 WalkM StepM WitM JudgM JudgM2 refw judg wit refj sysw divr divs divd dive divg divw divv LevM LevM2 ChsM TrimI QuoM FailM DivM RefM GenW CompM CrossM prodc divp
namespace prodm
end prodm
end
section
namespace EncM
end EncM
end
section
open ref01 ref03 ref04 ref06 prog prog2 prog3 prog4 prog5 prog6 prog7 prog8 prog9 prog13 prog15 starts Part Rungs LeftM TrimM Itoa Keys RoundM MergeM BisM BisM4 BisM5 WalkM StepM WitM JudgM JudgM2 refw judg wit refj sysw divr divs divd dive divg divw divv LevM LevM2 ChsM TrimI QuoM FailM DivM RefM GenW CompM CrossM CompP PartM EncM prodc divp prodm
noncomputable def Ey (s t:SS) (w:List Int) (u:Int):Int:=if Eu s t=0 then(if Vk (s.aC.length:Int) w=true∧eO (s.aC.length:Int) u=true then 0 else 1) else Eu s t
abbrev Ez:aA:=⟨[],[]⟩
structure Yz (s t:SS) (w:List Int) (u:Int) (z:(aA × aA) × Int):Prop where
 err:Ey s t w u≠0→z=((Ez,Ez),Ey s t w u)
 none:Ey s t w u=0→¬Rj s t w u→z=((Ez,Ez),3)
 some:Ey s t w u=0→Rj s t w u→z.2=0∧∃a b,a∈acc (tR s).1 (goS (tR s).1 w).toNat∧b∈acc (tR t).1 (goS (tR t).1 w).toNat∧bQ a b=u∧BG (tR s).1 (Et (tR s).1 w a) z.1.1∧BG (tR t).1 (Et (tR t).1 w b) z.1.2
section
variable {s t:SS} {w:List Int} {u:Int}
end
def NyI (m:aA) (l:List Int) (a:Int) (k j x:Nat):Prop:=(∃i,i<k∧∃e∈edg m (ix l i).toNat,e.1=a∧e.2=(x:Int))∨∃i,i<j∧(ix (edg m (ix l k).toNat) i).1=a∧(ix (edg m (ix l k).toNat) i).2=(x:Int)
structure NyS (m:aA) (l:List Int) (a:Int) (k j:Nat) (b:List Bool):Prop where
 len:b.length=m.sT.length
 mem:∀x,x<m.sT.length→(ix b x=true↔NyI m l a k j x)
section
variable {m:aA} {l:List Int} {a:Int} {k j:Nat} {b:List Bool}
theorem OX:NyS m l a 0 0 (List.replicate m.sT.length false):=by
 refine⟨by simp,fun x hx=> ?_⟩
 rw[aD (by simpa using hx),List.getElem_replicate]
 constructor
 ·intro h;cases h
 ·rintro(⟨i,hi,_⟩|⟨i,hi,_⟩)<;>omega
theorem OY (h:NyS m l a k (edg m (ix l k).toNat).length b):NyS m l a (k+1) 0 b:=by
 refine⟨h.len,fun x hx=>(h.mem x hx).trans ?_⟩
 constructor
 ·rintro(⟨i,hi,g⟩|⟨i,hi,g⟩)
  ·exact .inl ⟨i,O,g⟩
  ·exact .inl ⟨k,O,_,aQ hi,g⟩
 ·rintro(⟨i,hi,g⟩|⟨i,hi,_⟩)
  ·by_cases e:i=k
   ·subst e
    obtain⟨ed,he,g⟩:=g
    obtain⟨q,hq,rfl⟩:=List.getElem_of_mem he
    exact .inr ⟨q,hq,by rw[aD hq];exact g⟩
   ·exact .inl ⟨i,O,g⟩
  ·omega
theorem OZ (h:NyS m l a k j b) (hn:(ix (edg m (ix l k).toNat) j).1≠a):NyS m l a k (j+1) b:=by
 refine⟨h.len,fun x hx=>(h.mem x hx).trans ?_⟩
 constructor
 ·rintro(g|⟨i,hi,g⟩)
  ·exact .inl g
  ·exact .inr ⟨i,O,g⟩
 ·rintro(g|⟨i,hi,g⟩)
  ·exact .inl g
  ·by_cases e:i=j
   ·subst e;exact absurd g.1 hn
   ·exact .inr ⟨i,O,g⟩
theorem Tb (h:NyS m l a k j b) (hn:(ix (edg m (ix l k).toNat) j).1=a) (h0:0≤(ix (edg m (ix l k).toNat) j).2) (h1:(ix (edg m (ix l k).toNat) j).2<(m.sT.length:Int)):NyS m l a k (j+1) (b.set (ix (edg m (ix l k).toNat) j).2.toNat true):=by
 have hl:=h.len
 refine⟨by simp[hl],fun x hx=> ?_⟩
 rw[kA O]
 by_cases e:x=(ix (edg m (ix l k).toNat) j).2.toNat
 ·rw[if_pos e]
  exact⟨fun _=> .inr ⟨j,O,hn,O⟩,fun _=>rfl⟩
 ·rw[if_neg e]
  refine(h.mem x hx).trans ?_
  constructor
  ·rintro(g|⟨i,hi,g⟩)
   ·exact .inl g
   ·exact .inr ⟨i,O,g⟩
  ·rintro(g|⟨i,hi,g⟩)
   ·exact .inl g
   ·by_cases q:i=j
    ·subst q;exact absurd g.2 O
    ·exact .inr ⟨i,O,g⟩
theorem Pb (h:NyS m l a l.length 0 b):((List.range m.sT.length).filter fun(x:Nat)=>ix b x).map (fun(x:Nat)=>(x:Int))=cY m l a:=by
 unfold cY
 congr 1
 refine List.filter_congr fun x hx=> ?_
 have hx:=List.mem_range.1 hx
 rw[Bool.eq_iff_iff,h.mem x hx,List.any_eq_true]
 constructor
 ·rintro(⟨i,hi,e,he,g1,g2⟩|⟨i,hi,_⟩)
  ·exact⟨_,aQ hi,List.any_eq_true.2 ⟨e,he,by simp[g1,g2]⟩⟩
  ·omega
 ·rintro⟨y,hy,g⟩
  obtain⟨i,hi,rfl⟩:=List.getElem_of_mem hy
  obtain⟨e,he,g2⟩:=List.any_eq_true.1 g
  simp only [Bool.and_eq_true,decide_eq_true_eq] at g2
  exact .inl ⟨i,hi,e,by rw[aD hi];exact he,g2.1,g2.2⟩
end
theorem wF (m:aA) (l:List Int) (a:Int):(cY m l a).length≤m.sT.length:=by
 unfold cY
 rw[List.length_map]
 exact Nat.le_trans (List.length_filter_le _ _) (by simp)
theorem uY {m:aA} (hm:bA m) {x:Nat} (hx:x<m.sT.length):0≤bK m x∧bK m x<256:=by
 have h8:=FG hm hx
 refine⟨oT _,Ft _ fun t ht=> ?_⟩
 obtain⟨e,he,rfl⟩:=List.mem_map.1 ht
 have:=h8 e he
 have hp:2^e.1.toNat≤2^7:=Nat.pow_le_pow_right O O
 omega
namespace prodp
end prodp
end
section
open ref01 ref03 ref04 ref06 prog prog2 prog3 prog6 prog13 prog15 starts search Part Rungs LeftM TrimM RoundM BisM BisM5 BisM6 WalkM StepM WitM JudgM refw judg wit sysw
def pH:WalkM.Mt→List AV:=fun m=> [int m.before,int m.action,int m.s,int m.t]
instance (m:WalkM.Mt):OneAll (pH m):=inferInstanceAs (OneAll [int m.before,int m.action,int m.s,int m.t])
noncomputable def dA (m:aA) (s:SS):Int:=if bN m=true then(if cE s=true then(if m.aC=s.aC then 0 else 10) else 30) else 20
theorem lC {m:aA} {s:SS} (h:dA m s=0):bN m=true∧cE s=true∧m.aC=s.aC:=by
 unfold dA at h
 split at h
 ·next g1=>
  split at h
  ·next g2=>
   split at h
   ·next g3=>exact⟨g1,g2,g3⟩
   ·exact absurd h (by decide)
  ·exact absurd h (by decide)
 ·exact absurd h (by decide)
abbrev Yu (v:VJ):AV:=agg [bl v.holds,sl 2 pE v.pairs,ints v.word,int v.state]
structure YI (m:aA) (s:SS) (v:VJ):Prop where
 ok:dA m s=0→zB m s v
 no:dA m s≠0→v=⟨false,[],[],0⟩
theorem VQ {m:aA} {t:SS} (hm:bA m) (ht:oK t) {q:List WalkM.Mt} (h:QJ m t q):∀p∈q.map dN,bdP p:=by
 intro p hp
 obtain⟨x,hx,rfl⟩:=List.mem_map.1 hp
 have:=h.bd x hx
 have h1:=hm.few1
 have h2:=ht.few1
 unfold bdP dN
 dsimp only
 omega
namespace T
theorem FQ:mP Tryz.prog 151 80 4 dK jI:=FP Tryz.underlying151 Tryz.underlying80 kR (by decide+kernel) kR kR ⟨Tryz.underlying3,by kernel_rfl⟩ kR
theorem VS:∀w F,∃u,(zeroValue 4).run Tryz.prog w= .ok u w∧(blV false).p w F u:=zV (v:= .bool false) kR _ (fun _ _=>Cu)
theorem wG:IsSlice Tryz.prog 156 155 4:=fV kR
theorem Al:fA Tryz.prog 155 0 0:=eL kR
theorem FR:fA Tryz.prog 153 0 0:=eL kR
theorem Pd:fA Tryz.prog 153 1 1:=eL kR
theorem VT:Ent Tryz.prog 148:=aN kR
theorem zD:Ent Tryz.prog 66:=aN kR
theorem Rk:Ent Tryz.prog 67:=aN kR
theorem EA:Ent Tryz.prog 68:=aN kR
theorem z68:eR Tryz.prog 68 [.bool false,.slice none 0 0,.slice none 0 0,.int .i64 0]:=cR kR
theorem Rl:iQ Tryz.prog 153 [(0,1),(1,1)] [.int .i64 0,.int .i64 0]:=jD kR kR
theorem Rm:iQ Tryz.prog 155 [(0,2),(2,2)] [.int .i64 0,.int .i64 0,.int .i64 0,.int .i64 0]:=jD kR kR
theorem Kc:eM Tryz.prog 156 155 4 32 [.int .i64 0,.int .i64 0,.int .i64 0,.int .i64 0]:=iV kR kR
theorem FT:fA Tryz.prog 155 1 2:=eL kR
theorem Kd:Ent Tryz.prog 98:=aN kR
theorem Rn:Ent Tryz.prog 97:=aN kR
theorem VU:Ent Tryz.prog 117:=aN kR
theorem VV:iQ Tryz.prog 68 [(0,1),(1,1),(2,1),(3,1)] [.bool false,.slice none 0 0,.slice none 0 0,.int .i64 0]:=jD kR kR
theorem zE:iK Tryz.prog 68 4:=iU kR
theorem Mk:iK Tryz.prog 155 4:=iU kR
theorem Yv:eR Tryz.prog 155 [.int .i64 0,.int .i64 0,.int .i64 0,.int .i64 0]:=cR kR
theorem CP:fA Tryz.prog 68 1 1:=eL kR
theorem Ml:Ent Tryz.prog 100:=aN kR
end T
namespace satj
theorem Tc (q:List WalkM.Mt) (hb:LK q) (i:Nat) (hi:i<q.length) (hq:q.length≤1000000000:=by omega):
 Fn0 Tryz.prog 117 [sl 4 pH q,int (i:Int)] (ints (mE q i)):=by
 refine fnI Tryz.func117 rfl rfl (fun w0 F0=> ?_)
 refine fcC (aV 0 J) (fun hm0=> ?_)
 refine sq (rg (ag (nl (th (sq (rg (nw 5 3 1 nE (ag (rtg (key:=5) 5 J (nl (th (sq (bk ?_)))))))))))))
 have hI0_0:0≤(i:Int)∧(i:Int)<(q.length:Int)∧([]:List Int)++upF q (i+1) (i:Int).toNat=upF q (i+1) i∧(i:Int).toNat<(i+1)∧([]:List Int).length+(i:Int).toNat≤i:=by
  exact⟨O,O,by rw[Int.toNat_natCast];rfl,O,by simp⟩
 refine lp (κ:=Nat × Int × Value × (List Int)) (fun p=> [(0,sl 4 pH q),(1,int p.2.1),(4,eqv (.slice none 0 0)),(5,osl 5 p.2.2.1)]) (fun p=> [(5,own p.2.2.1 3 1 nE p.2.2.2)]) (fun p=>0≤p.2.1∧p.2.1<(q.length:Int)∧p.2.2.2++upF q p.1 p.2.1.toNat=upF q (i+1) i∧p.2.1.toNat<p.1∧p.2.2.2.length+p.2.1.toNat≤i) (fun p=>p.2.1.toNat) ⟨i+1,(i:Int),(.slice none 0 0),([]:List Int)⟩ hI0_0 ⟨id,id,id,id,tV⟩ ⟨rI,tV⟩ ?_
 intro⟨n,j,v5,out⟩ hG0
 obtain⟨hj0,hjl,hou,hjn,hol⟩:0≤j∧j<(q.length:Int)∧out++upF q n j.toNat=upF q (i+1) i∧j.toNat<n∧out.length+j.toNat≤i:=hG0
 show Ct _ _ _ _ [(0,sl 4 pH q),(1,int j),(4,eqv (.slice none 0 0)),(5,osl 5 v5)] [(5,own v5 3 1 nE out)] _
 have hbk:=hb j.toNat O
 refine sq (sq (rg (mv (mv (iF J J T.wG O gB (fF J T.Al (fF J T.FR (lF J J T.aF (bi J J fU (nl (th ?_)))))))))))
 refine cd J (fun hc0=> ?_) (fun hc0=> ?_)
 ·try simp at hc0
  refine sk (th (sq (bk (rg (mv (mv (mv (iF J J T.wG O gB (fF J T.Al (fF J T.Pd (lF J J T.aF (bsE (enc:=nE) (xs:= [(ix q j.toNat).action]) (css:= [[int (ix q j.toNat).action]]) T.bZ ⟨J,J,p1 (φ:=int (ix q j.toNat).action) J,tV⟩ J J J J (ap (key:=5) (zs:= [(ix q j.toNat).action]) bX J J J T.bZ (by unfold aT at*;simp;omega) (by unfold aT at*;simp;omega) fun v27=>(ag (nl (eb (th (rg (mv (mv (iF J J T.wG O gB (fF J T.Al (fF J T.FR (lF J J T.aF (ag (nl ?_))))))))))))))))))))))))))
  have hN0:0≤(ix q j.toNat).before∧(ix q j.toNat).before<(q.length:Int)∧(out++ [(ix q j.toNat).action])++upF q (n- 1) (ix q j.toNat).before.toNat=upF q (i+1) i∧(ix q j.toNat).before.toNat<(n- 1)∧(out++ [(ix q j.toNat).action]).length+(ix q j.toNat).before.toNat≤i:=by
   have hbk2:=hbk hc0
   exact⟨hc0,O,Vo hou hjn hc0,O,by simp;omega⟩
  exact ln (⟨n- 1,(ix q j.toNat).before,v27,out++ [(ix q j.toNat).action]⟩:Nat × Int × Value × (List Int)) hN0 (by have hbk2:=hbk hc0;show(ix q j.toNat).before.toNat<j.toNat;omega) ⟨id,id,id,id,tV⟩ ⟨rI,tV⟩
 ·try simp at hc0
  refine ex (xt_ (xt_ (xb (th (sq (rg (mv (cal (Hi:= [(5,own v5 3 1 nE out)]) (φs:= [osl 5 v5]) ⟨J,tV⟩ (judg.JO v5 out O) T.VT ⟨rI,tV⟩ fun _ _=>(nl (th (sq (rg (mv (ag (nl (th (rt ?_)))))))))))))))))
  refine fzA 5 4 rfl rfl ?_
  have hr0:out.reverse=(mE q i):=by
   rw[Sk hou hjn O];rfl
  exact rE () [.tmp 4] J [sl 1 nE out.reverse] ⟨.tmp J,tV⟩ (cA1 (fun x0=>rV [sl 1 nE x0]) hr0) trivial eX
theorem Iz (m:aA) (s:SS) (hs:jH s):
 Fn0 Tryz.prog 54 [sys m,spec s] (int (dA m s)):=by
 refine fnI Tryz.func54 rfl rfl (fun w0 F0=> ?_)
 refine fcC (bW 0 J) (fun hS0=> ?_)
 obtain⟨hma0,hms0,hme0⟩:=bU hS0
 refine fcC (bW 1 J) (fun hS1=> ?_)
 obtain⟨hsa1,hss1,hse1⟩:=sLn hS1
 refine sq (rg (bx (key:=2) (cs:= [sl 1 rE_ m.aC,sl 1 gE m.sT]) J fun b2=>(bx (key:=3) (cs:= [sl 1 rE_ s.aC,sl 2 sE s.sT]) J fun b3=>(ag (nl (th (sq (bk (sq (rg (lPA J J T.bE J (bB (φs:= [agg [sl 1 rE_ m.aC,sl 1 gE m.sT]]) (φ:=bl (bN m)) ⟨J,tV⟩ (sysw.jT m) T.zD (no J (ag (nl (th ?_))))))))))))))))
 refine cd J (fun hc0=> ?_) (fun hc0=> ?_)
 ·try simp at hc0
  refine sq (rg (ag (nl (th (rt (rb (rt_ ?_)))))))
  have hr0:(20:Int)=(dA m s):=by
   unfold dA;rw[if_neg (by simp[hc0])]
  exact rE () [.tmp 4] J [int 20] ⟨.tmp J,tV⟩ (cA1 (fun x0=>rV [int x0]) hr0) trivial eX
 ·try simp at hc0
  refine sq (rg (lPA J J T.bF J (bB (φs:= [agg [sl 1 rE_ s.aC,sl 2 sE s.sT]]) (φ:=bl (cE s)) ⟨J,tV⟩ (prog2.jT s aS) T.Rk (no J (ag (nl (th ?_)))))))
  refine cd J (fun hc1=> ?_) (fun hc1=> ?_)
  ·try simp at hc1
   refine sq (rg (ag (nl (th (rt (rb (rt_ ?_)))))))
   have hr0:(30:Int)=(dA m s):=by
    unfold dA;rw[if_pos (by simpa using hc0),if_neg (by simp[hc1])]
   exact rE () [.tmp 4] J [int 30] ⟨.tmp J,tV⟩ (cA1 (fun x0=>rV [int x0]) hr0) trivial eX
  ·try simp at hc1
   refine sq (rg (fP J T.fB (lP J J J T.cM (fP J T.dH (lP J J J T.cM (bB (φs:= [sl 1 rE_ m.aC,sl 1 rE_ s.aC]) (φ:=bl (decide (m.aC=s.aC))) ⟨J,J,tV⟩ (prog.mI _ _) T.EA (no J (ag (nl (th ?_))))))))))
   refine cd J (fun hc2=> ?_) (fun hc2=> ?_)
   ·try simp at hc2
    refine sq (rg (ag (nl (th (rt (rb (rt_ ?_)))))))
    have hr0:(10:Int)=(dA m s):=by
     unfold dA;rw[if_pos (by simpa using hc0),if_pos (by simpa using hc1),if_neg hc2]
    exact rE () [.tmp 4] J [int 10] ⟨.tmp J,tV⟩ (cA1 (fun x0=>rV [int x0]) hr0) trivial eX
   ·try simp at hc2
    refine sk (eb (th (sq (rg (ag (nl (th (rt ?_))))))))
    have hr0:(0:Int)=(dA m s):=by
     unfold dA;rw[if_pos (by simpa using hc0),if_pos (by simpa using hc1),if_pos hc2]
    exact rE () [.tmp 4] J [int 0] ⟨.tmp J,tV⟩ (cA1 (fun x0=>rV [int x0]) hr0) trivial eX
theorem Pe (m:aA) (hm:bA m) (s:SS) (hs:oK s):
 AL.Fn Tryz.prog 70 [sys m,spec s] [] (ι:= { v:VJ//zB m s v }) (fun _ i=>Yu i.1) (fun _=> []):=by
 refine fnI Tryz.func70 rfl rfl (fun w0 F0=> ?_)
 have f1:=hm.few1;have f2:=hs.few1;have f3:=hs.n8;have f4:=hm.n8;have g0:=hm.few0;have g1:=hs.few0;have hmm:m.sT.length*s.sT.length≤10000*10000:=Nat.mul_le_mul f1 f2
 refine fcC (bW 0 J) (fun hS0=> ?_)
 obtain⟨hma0,hms0,hme0⟩:=bU hS0
 refine fcC (bW 1 J) (fun hS1=> ?_)
 obtain⟨hsa1,hss1,hse1⟩:=sLn hS1
 refine sq (rg (bx (key:=2) (cs:= [sl 1 rE_ m.aC,sl 1 gE m.sT]) J fun b2=>(bx (key:=3) (cs:= [sl 1 rE_ s.aC,sl 2 sE s.sT]) J fun b3=>(al (key:=4) T.z68 (eC (eC (eC (eC eZ)))) fun b4=>(nl (th (sq (rg (mkm (key:=16) (kE:=dK) (dom:=jI) (vE:=blV) fun b16=>(bd (css:= [(0,_),(1,_)]) T.uC (eC (eC eZ)) ⟨J,J,p1 (φ:=int 0) J,⟨J,J,p1 (φ:=int 0) J,tV⟩⟩ (AL.insert (q:=(0,0)) (u:=true) J J gC J T.FQ ⟨⟨O,O⟩,⟨O,O⟩⟩ (mv (ag (nl (th (sq (rg (bd (css:= [(0,_)]) T.Rl (eC (eC eZ)) ⟨J,J,p1 (φ:=int (-1)) J,tV⟩ (bd (css:= [(0,_)]) T.Rm (eC (eC (eC (eC eZ)))) ⟨J,J,pA (cs:= [int (-1),int 0]) J,tV⟩ (bsO 21 (enc:=pH) (xs:= [⟨0,0,(-1),0⟩]) (css:= [[int (-1),int 0,int 0,int 0]]) T.Kc ⟨J,J,pA (cs:= [int (-1),int 0,int 0,int 0]) J,tV⟩ J J J J fun v21=>(ag (nl (th (sq (sq (rg (ag (nl (th (bk ?_))))))))))))))))))))))))))))))
 have hI0_0:QJ m s ([⟨0,0,(-1),0⟩]:List WalkM.Mt)∧qI (cD ([]:List ((Int × Int) × Bool)) (0,0) true) ([⟨0,0,(-1),0⟩]:List WalkM.Mt)∧0≤([⟨0,0,(-1),0⟩]:List WalkM.Mt).length∧∀k,k<0→kS m s ([⟨0,0,(-1),0⟩]:List WalkM.Mt) k:=by
  exact⟨Sv hm hs,LJ,by simp,fun k hk=>absurd hk O⟩
 refine lp (κ:=Nat × Value × (List WalkM.Mt) × (List ((Int × Int) × Bool))) (fun p=> [(2,ptr 2 b2 0),(3,ptr 3 b3 0),(4,ptr 4 b4 0),(5,mpv 16 b16),(6,osl 21 p.2.1),(7,int (p.1:Int))]) (fun p=> [(2,cell b2 [sl 1 rE_ m.aC,sl 1 gE m.sT]),(3,cell b3 [sl 1 rE_ s.aC,sl 2 sE s.sT]),(4,cell b4 [bl false,eqv (.slice none 0 0),eqv (.slice none 0 0),int 0]),(16,mp b16 dK jI blV p.2.2.2),(21,own p.2.1 155 4 pH p.2.2.1)]) (fun p=>QJ m s p.2.2.1∧qI p.2.2.2 p.2.2.1∧p.1≤p.2.2.1.length∧∀k,k<p.1→kS m s p.2.2.1 k) (fun p=>m.sT.length*s.sT.length- p.1) ⟨0,v21,([⟨0,0,(-1),0⟩]:List WalkM.Mt),cD ([]:List ((Int × Int) × Bool)) (0,0) true⟩ hI0_0 ⟨id,id,id,id,id,id,tV⟩ ⟨rI,rI,rI,rI,rI,tV⟩ ?_
 intro⟨i,v,q,mm⟩ hG0
 obtain⟨hq,hsm,hil,hdone⟩:QJ m s q∧qI mm q∧i≤q.length∧∀k,k<i→kS m s q k:=hG0
 show Ct _ _ _ _ [(2,ptr 2 b2 0),(3,ptr 3 b3 0),(4,ptr 4 b4 0),(5,mpv 16 b16),(6,osl 21 v),(7,int (i:Int))] [(2,cell b2 [sl 1 rE_ m.aC,sl 1 gE m.sT]),(3,cell b3 [sl 1 rE_ s.aC,sl 2 sE s.sT]),(4,cell b4 [bl false,eqv (.slice none 0 0),eqv (.slice none 0 0),int 0]),(16,mp b16 dK jI blV mm),(21,own v 155 4 pH q)] _
 have hql:=LU hq
 refine sq (sq (rg (mv (mv (lnO J J T.wG (bi J J aO (nl (th ?_))))))))
 refine cd J (fun hc0=> ?_) (fun hc0=> ?_)
 ·try simp at hc0
  have hbd:=hq.bd _ (aQ hc0)
  have hsy:=hs.st (ix q i).t.toNat O
  have hyl:=hsy.len
  have hoff:∀e∈(ix m.sT (ix q i).s.toNat),0≤e.1∧e.1<8:=fun e he=>by have:=hm.ed (ix q i).s.toNat O e he;omega
  refine sk (th (sq (bk (sq (rg (mv (mv (iO J J J T.wG O O (fO J T.FT (lOA J J gB T.dX (by decide) (al (key:=8) T.z80 (eC (eC eZ)) fun b8=>(sPA (cs':= [int (ix q i).s,int (ix q i).t]) J J J T.dX J J (nl (th (sq (rg (fP J T.bL (lP J J J T.bT (iPA J J T.iM T.aF J (lP J J J T.aF (iF J J T.cO O gB (lFA J T.dJ (Nat.le_of_ble_eq_true J) (al (key:=9) T.z79 (eC (eC eZ)) fun b9=>(sPA (cs':= [sl 1 nE (ix s.sT (ix q i).t.toNat).aP,sl 1 nE (ix s.sT (ix q i).t.toNat).next]) J J J T.dJ J J (nl (th (sq (sq (dr (nh:=10) [0,0,2,0,8,30,62,126,255,511] T.mixed kR ?_)))))))))))))))))))))))))))))
  refine st_ J (fun _ _ _ gq kq=>lPA (gq.1.trans J) J T.dJ J kq) ?_
  refine st_ J (fun _ _ _ gq kq=>fP (gq.1.trans J) T.bO kq) ?_
  refine st_ J (fun _ _ _ gq kq=>lP (gq.1.trans J) J J T.cF kq) ?_
  refine st_ J (fun _ _ _ gq kq=>iPA (gq.1.trans J) J T.iM T.aF J kq) ?_
  refine st_ J (fun _ _ _ gq kq=>lP (gq.1.trans J) J J T.aF kq) ?_
  refine st_ J (fun _ _ _ gq kq=>iF (gq.1.trans J) (gq.2.1.trans J) T.dQ O gB kq) ?_
  refine st_ J (fun _ _ _ gq kq=>lF (gq.1.trans J) J T.gF kq) ?_
  refine st_ J (fun _ _ _ gq kq=>bB (φs:= [sl 2 pE (ix m.sT (ix q i).s.toNat)]) (φ:=int (dI (ix m.sT (ix q i).s.toNat))) ⟨(gq.1.trans J),tV⟩ (sysw.xX (ix m.sT (ix q i).s.toNat) aS) T.Kd kq) ?_
  refine st_ J (fun _ _ _ gq kq=>bB (φs:= [agg [sl 1 nE (ix s.sT (ix q i).t.toNat).aP,sl 1 nE (ix s.sT (ix q i).t.toNat).next],int (dI (ix m.sT (ix q i).s.toNat))]) (φ:=bl (decide ((dI (ix m.sT (ix q i).s.toNat))∈(ix s.sT (ix q i).t.toNat).aP))) ⟨(gq.1.trans J),(gq.2.1.trans J),tV⟩ (search.nY (ix s.sT (ix q i).t.toNat) (hs.st _ O).rise (dI (ix m.sT (ix q i).s.toNat))) T.Rn kq) ?_
  refine st_ J (fun _ _ _ gq kq=>no (gq.1.trans J) kq) ?_
  refine pn (nl (th ?_))
  refine cd J (fun hc1=> ?_) (fun hc1=> ?_)
  ·try simp at hc1
   have hnacc:bK m (ix q i).s.toNat∉acc s (ix q i).t.toNat:=by simpa using hc1
   refine sq (fzC 21 6 J J (dr (nh:=6) [0,0,3,0,8,31,63] T.mixed kR ?_))
   refine st_ J (fun _ _ _ gq kq=>mv' (gq.1.trans J) kq) ?_
   refine st_ J (fun _ _ _ gq kq=>mv' (gq.1.trans J) kq) ?_
   refine st_ J (fun _ _ _ gq kq=>bB (φs:= [sl 4 pH q,int (i:Int)]) (φ:=sl 1 nE (mE q i)) ⟨(gq.1.trans J),(gq.2.1.trans J),tV⟩ (satj.Tc q (Sx hq) i O) T.VU kq) ?_
   refine st_ J (fun _ _ _ gq kq=>iPA (gq.1.trans J) J T.iM T.aF J kq) ?_
   refine st_ J (fun _ _ _ gq kq=>lP (gq.1.trans J) J J T.aF kq) ?_
   refine st_ J (fun _ _ _ gq kq=>bd (css:= [(2,_),(3,_)]) T.VV (eC (eC (eC (eC eZ)))) ⟨J,J,p1 (φ:=sl 1 nE (mE q i)) (by exact(gq.1.trans J)),⟨J,J,p1 (φ:=int (ix q i).s) (by exact(gq.2.1.trans J)),tV⟩⟩ kq) ?_
   refine pn (sPA (cs':= [bl false,eqv (.slice none 0 0),sl 1 nE (mE q i),int (ix q i).s]) J J J T.zE J J (nl (th (rt (rt_ (rb (rt_ (rt_ (rb (rt_ ?_))))))))))
   refine gM 4 1 (sl 2 pE []) rfl rfl slnil ?_
   exact rE ⟨⟨false,[],mE q i,(ix q i).s⟩,⟨fun h=>(nomatch (show false=true from h)),fun _=>⟨Vt hq hc0 hnacc,J,q,i,hq,hc0,J,J,hdone,hnacc⟩⟩⟩ [.cell 4 68] J [agg [bl false,sl 2 pE [],sl 1 nE (mE q i),int (ix q i).s]] ⟨.agg J J T.zE J J,tV⟩ J trivial eX
  ·try simp at hc1
   have hacc:bK m (ix q i).s.toNat∈acc s (ix q i).t.toNat:=by simpa using hc1
   refine sk (th (sq (rg (fP J T.bO (lP J J J T.cF (iPA J J T.iM T.aF J (lP J J J T.aF (iF J J T.dQ O gB (lF J J T.gF (fc (aV 60 J) fun hm60=>(lnF J T.cQ (mv (nl (th (bk ?_)))))))))))))))
   have hI1_0:0≤(ix m.sT (ix q i).s.toNat).length:=by
    first|omega|simp
   have hI1_1:sF m s q i 0 q mm:=by
    exact LV hq hsm hdone
   refine lp (κ:=Nat × Value × (List WalkM.Mt) × (List ((Int × Int) × Bool))) (fun p=> [(2,ptr 2 b2 0),(3,ptr 3 b3 0),(4,ptr 4 b4 0),(5,mpv 16 b16),(6,osl 21 p.2.1),(7,int (i:Int)),(9,ptr 9 b9 0),(60,sl 2 pE (ix m.sT (ix q i).s.toNat)),(61,int ((ix m.sT (ix q i).s.toNat).length:Int)),(62,int (p.1:Int))]) (fun p=> [(2,cell b2 [sl 1 rE_ m.aC,sl 1 gE m.sT]),(3,cell b3 [sl 1 rE_ s.aC,sl 2 sE s.sT]),(4,cell b4 [bl false,eqv (.slice none 0 0),eqv (.slice none 0 0),int 0]),(8,cell b8 [int (ix q i).s,int (ix q i).t]),(9,cell b9 [sl 1 nE (ix s.sT (ix q i).t.toNat).aP,sl 1 nE (ix s.sT (ix q i).t.toNat).next]),(16,mp b16 dK jI blV p.2.2.2),(21,own p.2.1 155 4 pH p.2.2.1)]) (fun p=>(p.1≤(ix m.sT (ix q i).s.toNat).length)∧(sF m s q i p.1 p.2.2.1 p.2.2.2)) (fun p=>(ix m.sT (ix q i).s.toNat).length- p.1) ⟨0,v,q,mm⟩ ⟨hI1_0,hI1_1⟩ ⟨id,id,id,id,id,id,id,id,id,id,tV⟩ ⟨rI,rI,rI,rI,rI,rI,rI,tV⟩ ?_
   intro⟨k1,v2,q2,mm2⟩ hG1
   obtain⟨hk1,hI1⟩:(k1≤(ix m.sT (ix q i).s.toNat).length)∧(sF m s q i k1 q2 mm2):=hG1
   show Ct _ _ _ _ [(2,ptr 2 b2 0),(3,ptr 3 b3 0),(4,ptr 4 b4 0),(5,mpv 16 b16),(6,osl 21 v2),(7,int (i:Int)),(9,ptr 9 b9 0),(60,sl 2 pE (ix m.sT (ix q i).s.toNat)),(61,int ((ix m.sT (ix q i).s.toNat).length:Int)),(62,int (k1:Int))] [(2,cell b2 [sl 1 rE_ m.aC,sl 1 gE m.sT]),(3,cell b3 [sl 1 rE_ s.aC,sl 2 sE s.sT]),(4,cell b4 [bl false,eqv (.slice none 0 0),eqv (.slice none 0 0),int 0]),(8,cell b8 [int (ix q i).s,int (ix q i).t]),(9,cell b9 [sl 1 nE (ix s.sT (ix q i).t.toNat).aP,sl 1 nE (ix s.sT (ix q i).t.toNat).next]),(16,mp b16 dK jI blV mm2),(21,own v2 155 4 pH q2)] _
   have hq2l:=LU hI1.qi
   refine sq (rg (bi J J aO (nl (th (sq ?_)))))
   refine cd J (fun hc2=> ?_) (fun hc2=> ?_)
   ·try simp at hc2
    have hek:=hm.ed (ix q i).s.toNat O _ (aQ hc2)
    have hgo:=zA hm hs (x:=(ix q i).s.toNat) (y:=(ix q i).t.toNat) O O hacc (aQ hc2)
    obtain⟨hgo1,hgo2,hgo3⟩:=hgo
    dsimp only [nxt,edg] at hgo1 hgo2 hgo3 hek
    refine sk (th (sq (bk (sq (rg (iF J J T.cQ O gB (lFA J T.cJ (Nat.le_of_ble_eq_true J) (al (key:=11) T.z94 (eC (eC eZ)) fun b11=>(sPA (cs':= [int ((ix (ix m.sT (ix q i).s.toNat) k1).1),int ((ix (ix m.sT (ix q i).s.toNat) k1).2)]) J J J T.cJ J J (nl (th (sq ?_))))))))))))
    refine drH (nh:=11) [0,1,0,4,0,16,60,124,255,0,1023] [(none,[]),(none,[11]),(none,[]),(none,[9]),(none,[]),(none,[11]),(none,[]),(none,[]),(none,[]),(some 12,[]),(some 12,[12])] T.mixed kR kR ?_
    refine stv (d:=66) (fun β0=>ptr 11 b11 1) [] J bH (fun β0 _ _ _ _ gq gh kq=>fP (gq.1.trans J) T.cX kq) ?_
    refine stv (d:=67) (fun β0=>int ((ix (ix m.sT (ix q i).s.toNat) k1).2)) [11] J bH (fun β0 _ _ _ _ gq gh kq=>lP (gq.1.trans J) (gh.1.trans J) J T.aF kq) ?_
    refine stv (d:=68) (fun β0=>ptr 9 b9 1) [] J bH (fun β0 _ _ _ _ gq gh kq=>fP (gq.1.trans J) T.cS kq) ?_
    refine stv (d:=69) (fun β0=>sl 1 nE (ix s.sT (ix q i).t.toNat).next) [9] J bH (fun β0 _ _ _ _ gq gh kq=>lP (gq.1.trans J) (gh.1.trans J) J T.bD kq) ?_
    refine stv (d:=70) (fun β0=>ptr 11 b11 0) [] J bH (fun β0 _ _ _ _ gq gh kq=>fP (gq.1.trans J) T.cT kq) ?_
    refine stv (d:=71) (fun β0=>int ((ix (ix m.sT (ix q i).s.toNat) k1).1)) [11] J bH (fun β0 _ _ _ _ gq gh kq=>lP (gq.1.trans J) (gh.1.trans J) J T.aF kq) ?_
    refine stv (d:=72) (fun β0=>fp [int (ix (ix s.sT (ix q i).t.toNat).next ((ix (ix m.sT (ix q i).s.toNat) k1).1).toNat)]) [] J bH (fun β0 _ _ _ _ gq gh kq=>iF (gq.1.trans J) (gq.2.1.trans J) T.aX O gB kq) ?_
    refine stv (d:=73) (fun β0=>int (ix (ix s.sT (ix q i).t.toNat).next ((ix (ix m.sT (ix q i).s.toNat) k1).1).toNat)) [] J bH (fun β0 _ _ _ _ gq gh kq=>lF (gq.1.trans J) J T.aF kq) ?_
    refine stv (d:=74) (fun β0=>agg [int ((ix (ix m.sT (ix q i).s.toNat) k1).2),int (ix (ix s.sT (ix q i).t.toNat).next ((ix (ix m.sT (ix q i).s.toNat) k1).1).toNat)]) [] J bH (fun β0 _ _ _ _ gq gh kq=>bd (css:= [(0,_),(1,_)]) T.uC (eC (eC eZ)) ⟨J,J,p1 (φ:=int ((ix (ix m.sT (ix q i).s.toNat) k1).2)) (by exact(gq.1.trans J)),⟨J,J,p1 (φ:=int (ix (ix s.sT (ix q i).t.toNat).next ((ix (ix m.sT (ix q i).s.toNat) k1).1).toNat)) (by exact(gq.2.1.trans J)),tV⟩⟩ kq) ?_
    refine sta 12 T.z80 (eC (eC eZ)) ?_
    refine stw 12 (fun β0=>cell (gbk (β0 9)) [int ((ix (ix m.sT (ix q i).s.toNat) k1).2),int (ix (ix s.sT (ix q i).t.toNat).next ((ix (ix m.sT (ix q i).s.toNat) k1).1).toNat)]) [12] J (fun β β' hb=>by first|rw[hb 9 J]|(dsimp only;rw[hb 9 J])) (fun β0 _ _ _ _ gq gh kq=>sPA (cs':= [int ((ix (ix m.sT (ix q i).s.toNat) k1).2),int (ix (ix s.sT (ix q i).t.toNat).next ((ix (ix m.sT (ix q i).s.toNat) k1).1).toNat)]) (gq.1.trans J) (gh.1.trans J) (gq.2.1.trans J) T.dX J J kq) ?_
    refine pnH fun β0=>(nl (th (sq (rg (mv (lPA J J T.dX J (lookup (z:=false) (q:=((ix (ix m.sT (ix q i).s.toNat) k1).2,ix (ix s.sT (ix q i).t.toNat).next ((ix (ix m.sT (ix q i).s.toNat) k1).1).toNat)) J J gC T.FQ ⟨⟨O,O⟩,⟨O,O⟩⟩ T.VS (no J (nl (th ?_))))))))))
    refine cd J (fun hc3=> ?_) (fun hc3=> ?_)
    ·try simp at hc3
     refine sq (rg (mv (lPA J J T.dX J (mapUpdate (q:=((ix (ix m.sT (ix q i).s.toNat) k1).2,ix (ix s.sT (ix q i).t.toNat).next ((ix (ix m.sT (ix q i).s.toNat) k1).1).toNat)) (u:=true) J J gC J T.FQ ⟨⟨O,O⟩,⟨O,O⟩⟩ (nl (th (rg (mv (mv (fP J T.cT (lP J J J T.aF (bd (css:= [(0,_),(1,_)]) T.Rl (eC (eC eZ)) ⟨J,J,p1 (φ:=int (i:Int)) J,⟨J,J,p1 (φ:=int ((ix (ix m.sT (ix q i).s.toNat) k1).1)) J,tV⟩⟩ (lPA J J T.dX J (bd (css:= [(0,_),(2,_)]) T.Rm (eC (eC (eC (eC eZ)))) ⟨J,J,pA (cs:= [int (i:Int),int ((ix (ix m.sT (ix q i).s.toNat) k1).1)]) J,⟨J,J,pA (cs:= [int ((ix (ix m.sT (ix q i).s.toNat) k1).2),int (ix (ix s.sT (ix q i).t.toNat).next ((ix (ix m.sT (ix q i).s.toNat) k1).1).toNat)]) J,tV⟩⟩ (bsE (enc:=pH) (xs:= [⟨((ix (ix m.sT (ix q i).s.toNat) k1).2),(ix (ix s.sT (ix q i).t.toNat).next ((ix (ix m.sT (ix q i).s.toNat) k1).1).toNat),(i:Int),((ix (ix m.sT (ix q i).s.toNat) k1).1)⟩]) (css:= [[int (i:Int),int ((ix (ix m.sT (ix q i).s.toNat) k1).1),int ((ix (ix m.sT (ix q i).s.toNat) k1).2),int (ix (ix s.sT (ix q i).t.toNat).next ((ix (ix m.sT (ix q i).s.toNat) k1).1).toNat)]]) T.Kc ⟨J,J,pA (cs:= [int (i:Int),int ((ix (ix m.sT (ix q i).s.toNat) k1).1),int ((ix (ix m.sT (ix q i).s.toNat) k1).2),int (ix (ix s.sT (ix q i).t.toNat).next ((ix (ix m.sT (ix q i).s.toNat) k1).1).toNat)]) J,tV⟩ J J J J (ap (key:=21) (zs:= [⟨((ix (ix m.sT (ix q i).s.toNat) k1).2),(ix (ix s.sT (ix q i).t.toNat).next ((ix (ix m.sT (ix q i).s.toNat) k1).1).toNat),(i:Int),((ix (ix m.sT (ix q i).s.toNat) k1).1)⟩]) bX J J J T.Kc (by unfold aT at*;simp;omega) (by unfold aT at*;simp;omega) fun v89=>(ag (nl (eb (th (rg (bi J J (aG i6) (mv (nl ?_))))))))))))))))))))))))
     have hN0:(k1+1)≤(ix m.sT (ix q i).s.toNat).length:=by
      first|omega|simp_all
     have hN1:sF m s q i (k1+1) (q2++ [⟨((ix (ix m.sT (ix q i).s.toNat) k1).2),(ix (ix s.sT (ix q i).t.toNat).next ((ix (ix m.sT (ix q i).s.toNat) k1).1).toNat),(i:Int),((ix (ix m.sT (ix q i).s.toNat) k1).1)⟩]) (cD mm2 ((ix (ix m.sT (ix q i).s.toNat) k1).2,ix (ix s.sT (ix q i).t.toNat).next ((ix (ix m.sT (ix q i).s.toNat) k1).1).toNat) true):=by
      exact LW hm hs hI1 hc0 hacc hc2 rfl rfl (by simpa using hc3)
     exact ln (⟨k1+1,v89,q2++ [⟨((ix (ix m.sT (ix q i).s.toNat) k1).2),(ix (ix s.sT (ix q i).t.toNat).next ((ix (ix m.sT (ix q i).s.toNat) k1).1).toNat),(i:Int),((ix (ix m.sT (ix q i).s.toNat) k1).1)⟩],cD mm2 ((ix (ix m.sT (ix q i).s.toNat) k1).2,ix (ix s.sT (ix q i).t.toNat).next ((ix (ix m.sT (ix q i).s.toNat) k1).1).toNat) true⟩:Nat × Value × (List WalkM.Mt) × (List ((Int × Int) × Bool))) ⟨hN0,hN1⟩ dO ⟨id,id,id,id,id,id,id,id,id,id,tV⟩ ⟨rI,rI,rI,rI,rI,rI,rI,tV⟩
    ·try simp at hc3
     refine sk (eb (th (rg (bi J J (aG i6) (mv (nl ?_))))))
     have hN0:(k1+1)≤(ix m.sT (ix q i).s.toNat).length:=by
      first|omega|simp_all
     have hN1:sF m s q i (k1+1) q2 mm2:=by
      exact LX hI1 hc2 rfl rfl (by simpa using hc3)
     exact ln (⟨k1+1,v2,q2,mm2⟩:Nat × Value × (List WalkM.Mt) × (List ((Int × Int) × Bool))) ⟨hN0,hN1⟩ dO ⟨id,id,id,id,id,id,id,id,id,id,tV⟩ ⟨rI,rI,rI,rI,rI,rI,rI,tV⟩
   ·try simp at hc2
    refine ex (xt_ (xt_ (xb (eb (th (rg (mv (bi J J (aG i6) (ag (nl ?_))))))))))
    have hN0:QJ m s q2∧qI mm2 q2∧(i+1)≤q2.length∧∀k,k<(i+1)→kS m s q2 k:=by
     exact Oz hI1 hc0 hacc O
    exact ln (⟨i+1,v2,q2,mm2⟩:Nat × Value × (List WalkM.Mt) × (List ((Int × Int) × Bool))) hN0 dO ⟨id,id,id,id,id,id,tV⟩ ⟨rI,rI,rI,rI,rI,tV⟩
 ·try simp at hc0
  refine ex (xt_ (xt_ (xb (th (sq (rg (bd (css:= [(0,_)]) T.VV (eC (eC (eC (eC eZ)))) ⟨J,J,p1 (φ:=bl true) J,tV⟩ (al (key:=13) T.z68 (eC (eC (eC (eC eZ)))) fun b13=>(sPA (cs':= [bl true,eqv (.slice none 0 0),eqv (.slice none 0 0),int 0]) J J J T.zE J J (nl (th (sq (sq (rg (mv (lnO J J T.wG (mv (nl (th (bk ?_))))))))))))))))))))
  refine nwC 130 80 2 pE (jS 13 1 (osl 130 (.slice none 0 0)) rfl rfl dM ?_)
  have hI2_0:0≤q.length:=by
   first|omega|simp
  have hI2_1:([]:List (Int × Int))=(q.take 0).map dN:=by
   rfl
  refine lp (κ:=Nat × Value × (List (Int × Int))) (fun p=> [(4,ptr 4 b4 0),(13,ptr 13 b13 0),(92,osl 21 v),(93,int (q.length:Int)),(94,int (p.1:Int))]) (fun p=> [(2,cell b2 [sl 1 rE_ m.aC,sl 1 gE m.sT]),(3,cell b3 [sl 1 rE_ s.aC,sl 2 sE s.sT]),(4,cell b4 [bl false,eqv (.slice none 0 0),eqv (.slice none 0 0),int 0]),(13,cell b13 [bl true,osl 130 p.2.1,eqv (.slice none 0 0),int 0]),(16,mp b16 dK jI blV mm),(21,own v 155 4 pH q),(130,own p.2.1 80 2 pE p.2.2)]) (fun p=>(p.1≤q.length)∧(p.2.2=(q.take p.1).map dN)) (fun p=>q.length- p.1) ⟨0,(.slice none 0 0),([]:List (Int × Int))⟩ ⟨hI2_0,hI2_1⟩ ⟨id,id,id,id,id,tV⟩ ⟨rI,rI,rI,rI,rI,rI,rI,tV⟩ ?_
  intro⟨k2,vp,prs⟩ hG2
  obtain⟨hk2,hI2⟩:(k2≤q.length)∧(prs=(q.take k2).map dN):=hG2
  show Ct _ _ _ _ [(4,ptr 4 b4 0),(13,ptr 13 b13 0),(92,osl 21 v),(93,int (q.length:Int)),(94,int (k2:Int))] [(2,cell b2 [sl 1 rE_ m.aC,sl 1 gE m.sT]),(3,cell b3 [sl 1 rE_ s.aC,sl 2 sE s.sT]),(4,cell b4 [bl false,eqv (.slice none 0 0),eqv (.slice none 0 0),int 0]),(13,cell b13 [bl true,osl 130 vp,eqv (.slice none 0 0),int 0]),(16,mp b16 dK jI blV mm),(21,own v 155 4 pH q),(130,own vp 80 2 pE prs)] _
  have hpl:prs.length≤k2:=by rw[hI2];simp;omega
  refine sq (rg (bi J J aO (nl (th (sq ?_)))))
  refine cd J (fun hc4=> ?_) (fun hc4=> ?_)
  ·try simp at hc4
   refine sk (th (sq (bk (sq (rg (iO J J J T.wG O O (lOA J J gB T.Mk (by decide) (al (key:=15) T.Yv (eC (eC (eC (eC eZ)))) fun b15=>(sPA (cs':= [int (ix q k2).before,int (ix q k2).action,int (ix q k2).s,int (ix q k2).t]) J J J T.Mk J J (nl (th (rg (fP J T.CP (lP J J J T.lQ (fP J T.FT (lPA J J T.dX J (bs (css:= [[int (ix q k2).s,int (ix q k2).t]]) T.nW ⟨J,J,pA (cs:= [int (ix q k2).s,int (ix q k2).t]) J,tV⟩ J J J (ap (key:=130) (zs:= [((ix q k2).s,(ix q k2).t)]) bX J J J T.nW (by unfold aT at*;simp;omega) (by unfold aT at*;simp;omega) fun v103=>(fP J T.CP (cI J J J J T.lQ J (nl (eb (th (rg (bi J J (aG i6) (mv (nl ?_)))))))))))))))))))))))))))
   have hN0:(k2+1)≤q.length:=by
    first|omega|simp_all
   have hN1:(prs++ [((ix q k2).s,(ix q k2).t)])=(q.take (k2+1)).map dN:=by
    rw[hI2,bM hc4,List.map_append];rfl
   exact ln (⟨k2+1,v103,prs++ [((ix q k2).s,(ix q k2).t)]⟩:Nat × Value × (List (Int × Int))) ⟨hN0,hN1⟩ dO ⟨id,id,id,id,id,tV⟩ ⟨rI,rI,rI,rI,rI,rI,rI,tV⟩
  ·try simp at hc4
   refine ex (xt_ (xt_ (xb (th (sq (rg (fP J T.CP (lP J J J T.lQ ?_))))))))
   have hbp:∀p∈prs,bdP p:=by rw[hI2,show k2=q.length by omega,List.take_length];exact VQ hm hs hq
   refine cal (Hi:= [(130,own vp 80 2 pE prs)]) (φs:= [osl 5 vp,eqv (.func (.func 118) #[] #[])]) ⟨eV.trans eV.symm,rfl,tV⟩ (rJ 5 130 (sortE.Hg vp prs aS)) T.Ml ⟨rI,tV⟩ fun _ _=>(nl (th (sq (rg (fzc 13 130 1 rfl rfl rfl rfl (lPA rfl rfl T.zE rfl (sPA (cs':= [bl true,sl 2 pE (cG prs),eqv (.slice none 0 0),int 0]) rfl rfl rfl T.zE rfl rfl (nl (th (rt ?_))))))))))
   refine gM 4 2 (sl 1 nE []) rfl rfl slnil ?_
   exact rE ⟨⟨true,cG prs,[],0⟩,⟨fun _=>⟨Sy hm hs hq (fun k hk=>hdone k O),J,J,q,hq,fun k hk=>hdone k O,by rw[hI2,show k2=q.length by omega,List.take_length]⟩,fun h=>(nomatch (show true=false from h))⟩⟩ [.cell 4 68] J [agg [bl true,sl 2 pE (cG prs),sl 1 nE [],int 0]] ⟨.agg J J T.zE J J,tV⟩ J trivial eX
end satj
end
section
namespace BesM
open ref01 ref03 ref04 ref06 Part Rungs LeftM TrimM RoundM MergeM BisM BisM4 BisM5 Keys WalkM WitM JudgM LevM divr divs divd dive divf divv judg sysw satj ChsM BisS TrimI QuoM FailM DivM RefM GenW CompM CompP prodp
abbrev Sd:=List Int × Int
def Yw (m:aA) (l:List Int):List Int:=l.map fun x=>bK m x.toNat
def sA (m:aA) (t:SS) (p:Sd):List Int:=Mg (Yw m p.1) (acc t p.2.toNat)
def sN (m:aA) (t:SS) (p:Sd) (a:Nat):Sd:=(cY m p.1 (a:Int),ix (nxt t p.2.toNat) a)
structure sOk (m:aA) (t:SS) (p:Sd):Prop where
 rise:p.1.Pairwise (· < ·)
 bd:∀x∈p.1,0≤x∧x<(m.sT.length:Int)
 x0:0≤p.2
 x1:p.2<(t.sT.length:Int)
structure Yx (m:aA) (t:SS) (l:List Sd) (D:SS):Prop where
 numb:pF (sA m t) (sN m t) m.aC.length ([0],0) l D
 ok:∀p∈l,sOk m t p
 acts:D.aC=m.aC
structure YN (m:aA) (t D:SS):Prop where
 hol:ix (hOl t) 0=true→D=nothing t.aC
 num:ix (hOl t) 0=false→∃l,Yx m (tR t).1 l D∧l.length≤2^m.sT.length*t.sT.length
end BesM
end
section
namespace TogM
open ref01 ref03 ref04 ref06 Part Rungs LeftM TrimM RoundM BisM BisM5 BisM6 WalkM WitM JudgM FailM FitM PartM QuoM
variable {m n:aA} {t:SS}
theorem goT (hm:bA m) (hn:bA n) (ht:oK t) {p:T3} (hp:0≤p.1∧p.1<(m.sT.length:Int)∧0≤p.2.1∧p.2.1<(n.sT.length:Int)∧0≤p.2.2∧p.2.2<(t.sT.length:Int)) (hb:¬sK m n t p) {d e:PP} (hd:d∈edg m p.1.toNat) (he:e∈edg n p.2.1.toNat) (h:d.1=e.1):
 0≤d.2∧d.2<(m.sT.length:Int)∧0≤e.2∧e.2<(n.sT.length:Int)∧0≤ix (nxt t p.2.2.toNat) d.1.toNat∧ix (nxt t p.2.2.toNat) d.1.toNat<(t.sT.length:Int)∧d.1.toNat<t.aC.length:=by
 obtain⟨p0,p1,p2,p3,p4,p5⟩:=hp
 have h1:=hm.ed p.1.toNat O d hd
 have h2:=hn.ed p.2.1.toNat O e he
 have hz:p.2.2.toNat<t.sT.length:=by omega
 have hin:bQ (bK m p.1.toNat) (bK n p.2.1.toNat)∈acc t p.2.2.toNat:=Classical.byContradiction hb
 have hg:=LeftM.Ln (ht.st _ hz) hin (a:=d.1.toNat) (by rw[QuoM.rF,iG.2 ⟨d,hd,rfl⟩,iG.2 ⟨e,he,by rw[h]⟩];rfl)
 exact⟨h1.2.2.1,h1.2.2.2,h2.2.2.1,h2.2.2.2,hg.2,((ht.st _ hz).nx _ hg.1).2,hg.1⟩
theorem jV (hm:bA m) (hn:bA n) (ht:oK t) {p:T3} (h:lW m n t p):0≤p.1∧p.1<(m.sT.length:Int)∧0≤p.2.1∧p.2.1<(n.sT.length:Int)∧0≤p.2.2∧p.2.2<(t.sT.length:Int):=by
 induction h with
 |zero=>
  have f1:=hm.few0
  have f2:=hn.few0
  have f3:=ht.few0
  exact⟨by simp,by show(0:Int)<_;omega,by simp,by show(0:Int)<_;omega,by simp,by show(0:Int)<_;omega⟩
 |step h1 h2 h3 h4 h5 ih=>
  have:=goT hm hn ht ih h2 h3 h4 h5
  exact⟨this.1,this.2.1,this.2.2.1,this.2.2.2.1,this.2.2.2.2.1,this.2.2.2.2.2.1⟩
def Am (t:SS) (p:T3) (d e:PP):T3:=(d.2,e.2,ix (nxt t p.2.2.toNat) d.1.toNat)
structure TW (m n:aA) (t:SS) (i:Nat) (l:List T3):Prop where
 nd:l.Nodup
 z:((0,0,0):T3)∈l
 rch:∀p∈l,lW m n t p
 il:i≤l.length
 dn:∀j,j<i→¬sK m n t (ix l j)∧∀d∈edg m (ix l j).1.toNat,∀e∈edg n (ix l j).2.1.toNat,d.1=e.1→Am t (ix l j) d e∈l
theorem Td:TW m n t 0 [(0,0,0)]:=⟨by simp,by simp,fun p hp=>by rw[List.mem_singleton.1 hp];exact .zero,by simp,fun j hj=>absurd hj O⟩
theorem FU (hm:bA m) (hn:bA n) (ht:oK t) {l:List T3} (hnd:l.Nodup) (h:∀p∈l,lW m n t p):l.length≤m.sT.length*(n.sT.length*t.sT.length):=
 El _ _ _ l hnd (fun p hp=>jV hm hn ht (h p hp))
theorem Xv {i:Nat} {l:List T3} (h:TW m n t i l) {j:Nat} (hj:j<l.length) (hb:sK m n t (ix l j)):¬lT m n t:=fun hw=>hw _ (h.rch _ (aQ hj)) hb
theorem VW {i:Nat} {l:List T3} (h:TW m n t i l) (hi:l.length≤i):lT m n t:=fun p hp=>by
 have hat:∀{p:T3},p∈l→∃j,j<l.length∧ix l j=p:=fun {p} hm=>by
  obtain⟨j,hj,rfl⟩:=List.getElem_of_mem hm
  exact⟨j,hj,aD hj⟩
 have hin:p∈l:=by
  induction hp with
  |zero=>exact h.z
  |step h1 h2 h3 h4 h5 ih=>
   obtain⟨j,hj,rfl⟩:=hat ih
   exact(h.dn j O).2 _ h3 _ h4 h5
 obtain⟨j,hj,rfl⟩:=hat hin
 exact(h.dn j O).1
structure TN (m n:aA) (t:SS) (i:Nat) (l:List T3) (k1 k2:Nat) (l2:List T3):Prop where
 nd:l2.Nodup
 rch:∀p∈l2,lW m n t p
 pre:l<+:l2
 al1:∀d∈(edg m (ix l i).1.toNat).take k1,∀e∈edg n (ix l i).2.1.toNat,d.1=e.1→Am t (ix l i) d e∈l2
 al2:∀e∈(edg n (ix l i).2.1.toNat).take k2,(ix (edg m (ix l i).1.toNat) k1).1=e.1→Am t (ix l i) (ix (edg m (ix l i).1.toNat) k1) e∈l2
variable {i k1 k2:Nat} {l l2:List T3}
theorem Te (h:TW m n t i l):TN m n t i l 0 0 l:=⟨h.nd,h.rch,List.prefix_rfl,fun d hd=>by simp at hd,fun e he=>by simp at he⟩
theorem Pf {l m:List T3} {j:Nat} (h:j<l.length):ix (l++m) j=ix l j:=by
 rw[aD (by simp;omega),aD h,List.getElem_append_left h]
theorem IA (h:TN m n t i l k1 k2 l2) (hk:k2<(edg n (ix l i).2.1.toNat).length) (hs:(ix (edg m (ix l i).1.toNat) k1).1=(ix (edg n (ix l i).2.1.toNat) k2).1→Am t (ix l i) (ix (edg m (ix l i).1.toNat) k1) (ix (edg n (ix l i).2.1.toNat) k2)∈l2):TN m n t i l k1 (k2+1) l2:=by
 refine⟨h.nd,h.rch,h.pre,h.al1,fun e he hde=> ?_⟩
 rw[bM hk,List.mem_append] at he
 rcases he with g|g
 ·exact h.al2 e g hde
 ·have:e=_:=List.mem_singleton.1 g
  subst this;exact hs hde
theorem Tf (hW:TW m n t i l) (h:TN m n t i l k1 k2 l2) (hi:i<l.length) (hb:¬sK m n t (ix l i)) (hk1:k1<(edg m (ix l i).1.toNat).length) (hk:k2<(edg n (ix l i).2.1.toNat).length) (he:(ix (edg m (ix l i).1.toNat) k1).1=(ix (edg n (ix l i).2.1.toNat) k2).1)
 (hn:Am t (ix l i) (ix (edg m (ix l i).1.toNat) k1) (ix (edg n (ix l i).2.1.toNat) k2)∉l2):TN m n t i l k1 (k2+1) (l2++ [Am t (ix l i) (ix (edg m (ix l i).1.toNat) k1) (ix (edg n (ix l i).2.1.toNat) k2)]):=by
 have hp:∀q∈l2,q∈l2++ [Am t (ix l i) (ix (edg m (ix l i).1.toNat) k1) (ix (edg n (ix l i).2.1.toNat) k2)]:=fun q hq=>List.mem_append.2 (.inl hq)
 refine⟨?_,fun p hp=> ?_,h.pre.trans (List.prefix_append _ _),fun d hd e he hde=>hp _ (h.al1 d hd e he hde),fun e hee hde=> ?_⟩
 ·rw[List.nodup_append]
  refine⟨h.nd,by simp,fun a ha b hb e=>hn ?_⟩
  rw[←List.mem_singleton.1 hb,←e];exact ha
 ·rcases List.mem_append.1 hp with g|g
  ·exact h.rch p g
  ·rw[List.mem_singleton.1 g]
   exact .step (hW.rch _ (aQ hi)) hb (aQ hk1) (aQ hk) he
 ·rw[bM hk,List.mem_append] at hee
  rcases hee with g|g
  ·exact hp _ (h.al2 e g hde)
  ·have:e=_:=List.mem_singleton.1 g
   subst this
   exact List.mem_append.2 (.inr (List.mem_singleton.2 rfl))
theorem VX (h:TN m n t i l k1 k2 l2) (hk1:k1<(edg m (ix l i).1.toNat).length) (hk:(edg n (ix l i).2.1.toNat).length≤k2):TN m n t i l (k1+1) 0 l2:=by
 refine⟨h.nd,h.rch,h.pre,fun d hd e he hde=> ?_,fun e he=>by simp at he⟩
 rw[bM hk1,List.mem_append] at hd
 rcases hd with g|g
 ·exact h.al1 d g e he hde
 ·have:d=_:=List.mem_singleton.1 g
  subst this
  exact h.al2 e (by rw[List.take_of_length_le hk];exact he) hde
theorem VY (hW:TW m n t i l) (h:TN m n t i l k1 k2 l2) (hi:i<l.length) (hb:¬sK m n t (ix l i)) (hk1:(edg m (ix l i).1.toNat).length≤k1):TW m n t (i+1) l2:=by
 have hl:=h.pre.length_le
 have hix:∀j,j<l.length→ix l2 j=ix l j:=fun j hj=>by
  obtain⟨r,rfl⟩:=h.pre
  exact Pf hj
 refine⟨h.nd,h.pre.subset hW.z,h.rch,O,fun j hj=> ?_⟩
 rw[hix j O]
 by_cases e:j=i
 ·subst e
  refine⟨hb,fun d hd e he hde=>h.al1 d (by rw[List.take_of_length_le hk1];exact hd) e he hde⟩
 ·exact⟨(hW.dn j O).1,fun d hd e he hde=>h.pre.subset ((hW.dn j O).2 d hd e he hde)⟩
def jM (b c:Nat) (p:T3):Nat:=(p.1.toNat*b+p.2.1.toNat)*c+p.2.2.toNat
def CQ (a b c:Nat) (p:T3):Prop:=0≤p.1∧p.1<(a:Int)∧0≤p.2.1∧p.2.1<(b:Int)∧0≤p.2.2∧p.2.2<(c:Int)
theorem CS {a b c:Nat} {p:T3} (h:CQ a b c p):jM b c p<a*b*c:=by
 obtain⟨h0,h1,h2,h3,h4,h5⟩:=h
 unfold jM
 have g1:p.1.toNat*b+p.2.1.toNat<a*b:=by
  have:(p.1.toNat+1)*b≤a*b:=Nat.mul_le_mul_right b O
  rw[Nat.add_mul] at this
  omega
 have g2:(p.1.toNat*b+p.2.1.toNat+1)*c≤a*b*c:=Nat.mul_le_mul_right c g1
 rw[Nat.add_mul] at g2
 omega
theorem code_inj {a b c:Nat} {p q:T3} (hp:CQ a b c p) (hq:CQ a b c q) (h:jM b c p=jM b c q):p=q:=by
 obtain⟨h0,h1,h2,h3,h4,h5⟩:=hp
 obtain⟨g0,g1,g2,g3,g4,g5⟩:=hq
 unfold jM at h
 have hc:0<c:=by omega
 have hb:0<b:=by omega
 have e1:p.1.toNat*b+p.2.1.toNat=q.1.toNat*b+q.2.1.toNat:=by
  have:=congrArg (· /c) h
  simp only [Nat.mul_comm _ c] at this
  rw[Nat.mul_add_div hc,Nat.mul_add_div hc,Nat.div_eq_of_lt O,Nat.div_eq_of_lt O] at this
  omega
 have e2:p.2.2.toNat=q.2.2.toNat:=by rw[e1] at h;omega
 have e3:p.1.toNat=q.1.toNat:=by
  have:=congrArg (· /b) e1
  simp only [Nat.mul_comm _ b] at this
  rw[Nat.mul_add_div hb,Nat.mul_add_div hb,Nat.div_eq_of_lt O,Nat.div_eq_of_lt O] at this
  omega
 have e4:p.2.1.toNat=q.2.1.toNat:=by rw[e3] at e1;omega
 exact Prod.ext O (Prod.ext O O)
structure Tab (a b c:Nat) (l:List T3) (inn:List Bool):Prop where
 len:inn.length=a*b*c
 at_:∀p,CQ a b c p→ix inn (jM b c p)=decide (p∈l)
theorem Pg (a b c:Nat):Tab a b c [] (List.replicate (a*b*c) false):=⟨by simp,fun p hp=>by
 have:=CS hp
 rw[aD (by simpa using this)];simp⟩
theorem FV {a b c:Nat} {l:List T3} {inn:List Bool} (h:Tab a b c l inn) {q:T3} (hq:CQ a b c q):Tab a b c (l++ [q]) (inn.set (jM b c q) true):=by
 have hql:=CS hq
 refine⟨by simp[h.len],fun p hp=> ?_⟩
 rw[kA (by rw[h.len];exact hql)]
 by_cases e:jM b c p=jM b c q
 ·have:=code_inj hp hq e
  subst this
  rw[if_pos rfl];simp
 ·rw[if_neg e,h.at_ p hp]
  have:p≠q:=fun g=>e (by rw[g])
  simp[this]
theorem DK {b c:Nat} {p:T3} (h0:0≤p.1) (h1:0≤p.2.1) (h2:0≤p.2.2):(p.1*(b:Int)+p.2.1)*(c:Int)+p.2.2=(jM b c p:Int):=by
 unfold jM
 rw[Int.natCast_add,Int.natCast_mul,Int.natCast_add,Int.natCast_mul,Int.toNat_of_nonneg h0,Int.toNat_of_nonneg h1,Int.toNat_of_nonneg h2]
noncomputable def oF (m n:aA) (t:SS):Bool:= @decide (lT m n t) (Classical.propDecidable _)
theorem Ao:oF m n t=true↔lT m n t:=by unfold oF;simp
end TogM
end
section
namespace BrkM
open ref01 ref03 ref04 ref06 Part Rungs LeftM TrimM RoundM BisM BisM5 BisM6 WalkM WitM JudgM FailM FitM PartM QuoM TogM
def pm (p:T3):T3:=(p.2.2,p.1,p.2.1)
structure BW (m x:aA) (t:SS) (i:Nat) (l:List T3) (mm:List (T3 × Bool)):Prop where
 tw:TW m x t i (l.map pm)
 sm:JW mm l
structure BN (m x:aA) (t:SS) (i:Nat) (l:List T3) (k1 k2:Nat) (l2:List T3) (mm2:List (T3 × Bool)):Prop where
 tn:TN m x t i (l.map pm) k1 k2 (l2.map pm)
 sm:JW mm2 l2
variable {m x:aA} {t:SS} {i k1 k2:Nat} {l l2:List T3} {mm mm2:List (T3 × Bool)}
def tgt (t:SS) (p:T3) (d e:PP):T3:=(e.2,ix (nxt t p.2.1.toNat) e.1.toNat,d.2)
end BrkM
end
section
namespace ProdM
open ref01 ref03 ref04 ref06 Part Rungs LeftM TrimM RoundM BisM BisM5 BisM6 WalkM WitM JudgM FailM FitM PartM QuoM TogM sysw
abbrev pos (q:List PP) (p:PP):Nat:=q.idxOf p
theorem uZ {q:List PP} {p:PP} (h:p∈q):pos q p<q.length:=List.idxOf_lt_length_of_mem h
theorem BS {q:List PP} {p:PP} (h:p∈q):ix q (pos q p)=p:=by rw[aD (uZ h)];exact List.getElem_idxOf _
theorem Tg {q r:List PP} {p:PP} (h:p∈q):pos (q++r) p=pos q p:=FF h
def lD (q F:List PP) (d:PP):List PP:=(F.filter fun e=>decide (d.1=e.1)).map fun e=>(d.1,(pos q ((d.2,e.2):PP):Int))
def kM (q E F:List PP):List PP:=E.flatMap (lD q F)
def sL (q E F:List PP):Prop:=∀d∈E,∀e∈F,d.1=e.1→((d.2,e.2):PP)∈q
theorem wH {q F:List PP} {d x:PP}:x∈lD q F d↔∃e∈F,d.1=e.1∧x=(d.1,(pos q ((d.2,e.2):PP):Int)):=by
 unfold lD
 rw[List.mem_map]
 constructor
 ·rintro⟨e,he,rfl⟩
  rw[List.mem_filter] at he
  exact⟨e,he.1,of_decide_eq_true he.2,rfl⟩
 ·rintro⟨e,he,h,rfl⟩
  exact⟨e,List.mem_filter.2 ⟨he,decide_eq_true h⟩,rfl⟩
theorem Ap {q E F:List PP} {x:PP}:x∈kM q E F↔∃d∈E,∃e∈F,d.1=e.1∧x=(d.1,(pos q ((d.2,e.2):PP):Int)):=by
 unfold kM
 rw[List.mem_flatMap]
 exact⟨fun⟨d,hd,h⟩=>⟨d,hd,wH.1 h⟩,fun⟨d,hd,h⟩=>⟨d,hd,wH.2 h⟩⟩
theorem FX {q r F:List PP} {d:PP} (h:∀e∈F,d.1=e.1→((d.2,e.2):PP)∈q):lD (q++r) F d=lD q F d:=by
 unfold lD
 apply List.map_congr_left
 intro e he
 rw[List.mem_filter] at he
 rw[Tg (h e he.1 (of_decide_eq_true he.2))]
theorem vA {α β:Type} {f g:α→List β}:∀{l:List α},(∀a∈l,f a=g a)→l.flatMap f=l.flatMap g
 | [],_=>rfl
 |a::l,h=>by rw[List.flatMap_cons,List.flatMap_cons,h a (List.mem_cons_self ..),vA (fun b hb=>h b (List.mem_cons_of_mem _ hb))]
theorem FY {q r E F:List PP} (h:sL q E F):kM (q++r) E F=kM q E F:=vA fun d hd=>FX (h d hd)
theorem IB {q:List PP} {x y:PP} (hx:x∈q) (hy:y∈q) (h:pos q x=pos q y):x=y:=by
 have h1:=BS hx
 have h2:=BS hy
 rw[h] at h1
 exact h1.symm.trans h2
theorem Ke {q F:List PP} {d:PP} (hF:F.Nodup) (h:∀e∈F,d.1=e.1→((d.2,e.2):PP)∈q):(lD q F d).Nodup:=by
 unfold lD
 rw[List.nodup_iff_pairwise_ne,List.pairwise_map]
 refine List.Pairwise.imp_of_mem ?_ (List.Nodup.sublist List.filter_sublist hF)
 intro a b ha hb hne e
 rw[List.mem_filter] at ha hb
 have a1:=of_decide_eq_true ha.2
 have b1:=of_decide_eq_true hb.2
 simp only [Prod.mk.injEq,true_and] at e
 have:=IB (h a ha.1 a1) (h b hb.1 b1) O
 exact hne (Prod.ext (a1.symm.trans b1) (Prod.mk.inj this).2)
theorem BU {q F:List PP} (hF:F.Nodup):∀{E:List PP},E.Nodup→sL q E F→(kM q E F).Nodup
 | [],_,_=>List.nodup_nil
 |d::E,hE,h=>by
  unfold kM
  rw[List.flatMap_cons,List.nodup_append]
  have hd:=List.nodup_cons.1 hE
  refine⟨Ke hF (h d (List.mem_cons_self ..)),BU hF hd.2 (fun a ha=>h a (List.mem_cons_of_mem _ ha)),fun x hx y hy e=> ?_⟩
  obtain⟨e1,he1,h1,rfl⟩:=wH.1 hx
  obtain⟨d2,hd2,e2,he2,h2,rfl⟩:=Ap.1 (show y∈kM q E F from hy)
  simp only [Prod.mk.injEq] at e
  have:=IB (h d (List.mem_cons_self ..) e1 he1 h1) (h d2 (List.mem_cons_of_mem _ hd2) e2 he2 h2) O
  have:d=d2:=Prod.ext e.1 (Prod.mk.inj this).1
  exact hd.1 (this▸hd2)
theorem FZ {q F:List PP} {d:PP}:(lD q F d).length≤F.length:=by
 unfold lD
 rw[List.length_map];exact List.length_filter_le _ _
theorem Aq {q F:List PP}:∀{E:List PP},(kM q E F).length≤E.length*F.length
 | []=>by simp[kM]
 |d::E=>by
  unfold kM
  rw[List.flatMap_cons,List.length_append,List.length_cons,Nat.add_mul]
  have h1:=FZ (q:=q) (F:=F) (d:=d)
  have h2:(kM q E F).length≤E.length*F.length:=Aq
  unfold kM at h2
  omega
theorem Ht {A N:Nat} {l:List PP} (h:dW A N l=true):l.Nodup:=by
 unfold dW at h
 rw[Bool.and_eq_true] at h
 have hstep:∀j,j+1<l.length→ltP (ix l j) (ix l (j+1))=true:=fun j hj=>List.all_eq_true.1 h.2 j (List.mem_range.2 O)
 have key:∀d j,j+d+1<l.length→(ix l j).1<(ix l (j+d+1)).1∨((ix l j).1=(ix l (j+d+1)).1∧(ix l j).2<(ix l (j+d+1)).2):=by
  intro d
  induction d with
  |zero=>intro j hj;exact oX.1 (hstep j hj)
  |succ d ih=>
   intro j hj
   have h1:=ih j O
   have h2:=oX.1 (hstep (j+d+1) hj)
   rw[show j+(d+1)+1=j+d+1+1 by omega]
   omega
 rw[List.nodup_iff_pairwise_ne,List.pairwise_iff_getElem]
 intro i j hi hj hij e
 have:=key (j- i- 1) i O
 rw[show i+(j- i- 1)+1=j by omega,aD hi,aD hj,e] at this
 omega
theorem DL {m:aA} (h:bN m=true) {x:Nat} (hx:x<m.sT.length):(edg m x).Nodup:=by
 unfold bN at h
 simp only [Bool.and_eq_true] at h
 exact Ht (uS h.1.2 hx)
structure mF (m n k:aA) (q:List PP):Prop where
 acts:k.aC=m.aC
 ne:0<q.length
 hd:ix q 0=((0,0):PP)
 nd:q.Nodup
 box:∀p∈q,0≤p.1∧p.1<(m.sT.length:Int)∧0≤p.2∧p.2<(n.sT.length:Int)
 len:k.sT.length=q.length
 all:∀i,i<q.length→sL q (edg m (ix q i).1.toNat) (edg n (ix q i).2.toNat)
 row:∀i,i<q.length→edg k i=cG (kM q (edg m (ix q i).1.toNat) (edg n (ix q i).2.toNat))
variable {m n k:aA} {t:SS} {q:List PP}
theorem pI (h:mF m n k q) {i:Nat} (hi:i<q.length) {x:PP}:x∈edg k i↔∃d∈edg m (ix q i).1.toNat,∃e∈edg n (ix q i).2.toNat,d.1=e.1∧x=(d.1,(pos q ((d.2,e.2):PP):Int)):=by
 rw[h.row i hi,(fJ _).mem_iff,Ap]
theorem Ph {a b c:Int} (ha:0≤a) (h:∀i:Nat,has a (i:Int)=(has b (i:Int)&&has c (i:Int))):a=bQ b c:=by
 have h1:a.toNat=b.toNat&&&c.toNat:=by
  apply Nat.eq_of_testBit_eq
  intro i
  have:=h i
  unfold has at this
  simp only [Int.toNat_natCast] at this
  rw[Nat.testBit_and];exact this
 unfold bQ
 omega
theorem Ga (hm:bA m) (hn:bA n) (h:mF m n k q) {i:Nat} (hi:i<q.length):bK k i=bQ (bK m (ix q i).1.toNat) (bK n (ix q i).2.toNat):=by
 have hb:=h.box _ (aQ hi)
 refine Ph (oT _) fun a=> ?_
 rw[Bool.eq_iff_iff,Bool.and_eq_true]
 show has (dI (edg k i)) (a:Int)=true↔has (dI (edg m _)) (a:Int)=true∧has (dI (edg n _)) (a:Int)=true
 rw[iG,iG,iG]
 constructor
 ·rintro⟨x,hx,rfl⟩
  obtain⟨d,hd,e,he,hde,rfl⟩:=(pI h hi).1 hx
  exact⟨⟨d,hd,rfl⟩,⟨e,he,by rw[←hde]⟩⟩
 ·rintro⟨⟨d,hd,h1⟩,⟨e,he,h2⟩⟩
  have b1:=hm.ed _ O d hd
  have b2:=hn.ed _ O e he
  exact⟨_,(pI h hi).2 ⟨d,hd,e,he,O,rfl⟩,h1⟩
theorem Pi (hm:bA m) (hn:bA n) (ht:oK t) (h:mF m n k q):eW k t↔lT m n t:=by
 constructor
 ·rintro⟨R,hR,h00⟩ p hp
  have key:∃i,i<q.length∧ix q i=((p.1,p.2.1):PP)∧R i p.2.2.toNat:=by
   induction hp with
   |zero=>exact⟨0,h.ne,h.hd,h00⟩
   |step h1 h2 hd he hde ih=>
    rename_i p d e
    obtain⟨i,hi,hq,hr⟩:=ih
    have e1:(ix q i).1=p.1:=congrArg Prod.fst hq
    have e2:(ix q i).2=p.2.1:=congrArg Prod.snd hq
    have hb:=jV hm hn ht h1
    have hx:=(pI h hi (x:=(d.1,(pos q ((d.2,e.2):PP):Int)))).2 ⟨d,by rw[e1];exact hd,e,by rw[e2];exact he,hde,rfl⟩
    have hin:=h.all i hi d (by rw[e1];exact hd) e (by rw[e2];exact he) hde
    have hm2:(d.1.toNat,pos q ((d.2,e.2):PP))∈edM k i:=List.mem_map.2 ⟨_,hx,rfl⟩
    have hn2:=hR.nxt hr _ hm2
    exact⟨_,uZ hin,BS hin,hn2.2⟩
  obtain⟨i,hi,hq,hr⟩:=key
  have hac:=hR.acc hr
  rw[Ga hm hn h hi,hq] at hac
  exact fun hb=>hb hac
 ·intro hw
  have f2:=ht.few0
  refine⟨fun i z=>i<q.length∧lW m n t ((ix q i).1,(ix q i).2,(z:Int)),⟨fun {i z} ⟨hi,hr⟩=> ?_,fun {i z} ⟨hi,hr⟩=> ?_,fun {i z} ⟨hi,hr⟩ x hx=> ?_,fun {i z} ⟨hi,hr⟩ x hx=> ?_⟩,h.ne,by rw[h.hd];exact .zero⟩
  ·have:=(jV hm hn ht hr).2.2.2.2.2
   have this:(z:Int)<(t.sT.length:Int):=this
   omega
  ·have hb:=hw _ hr
   rw[Ga hm hn h hi]
   have hb:¬bQ (bK m (ix q i).1.toNat) (bK n (ix q i).2.toNat)∉acc t (z:Int).toNat:=hb
   rw[Int.toNat_natCast] at hb
   exact Classical.byContradiction hb
  ·obtain⟨x',hx',rfl⟩:=List.mem_map.1 hx
   obtain⟨d,hd,e,he,hde,rfl⟩:=(pI h hi).1 hx'
   have hg:=goT hm hn ht (jV hm hn ht hr) (hw _ hr) hd he hde
   have hbx:=(jV hm hn ht hr).2.2.2.2.2
   have hbx:(z:Int)<(t.sT.length:Int):=hbx
   have hl:=(ht.st z O).len
   show d.1.toNat<(ix t.sT z).next.length
   rw[hl];exact hg.2.2.2.2.2.2
  ·obtain⟨x',hx',rfl⟩:=List.mem_map.1 hx
   obtain⟨d,hd,e,he,hde,rfl⟩:=(pI h hi).1 hx'
   have hg:=goT hm hn ht (jV hm hn ht hr) (hw _ hr) hd he hde
   have hin:=h.all i hi d hd e he hde
   have hs:=lW.step hr (hw _ hr) hd he hde
   have e0:ix (nxt t (z:Int).toNat) d.1.toNat=ix (nxt t z) d.1.toNat:=by rw[Int.toNat_natCast]
   have g0:0≤ix (nxt t z) d.1.toNat:=by rw[←e0];exact hg.2.2.2.2.1
   refine⟨g0,uZ hin,?_⟩
   show lW m n t ((ix q (pos q ((d.2,e.2):PP))).1,(ix q (pos q ((d.2,e.2):PP))).2,((ix (nxt t z) d.1.toNat).toNat:Int))
   rw[BS hin,Int.toNat_of_nonneg g0,←e0]
   exact hs
theorem BV {α:Type} [DecidableEq α] (w:α→Nat):∀(q all:List α),q.Nodup→(∀p∈q,p∈all)→(q.map w).sum≤(all.map w).sum
 | [],_,_,_=>by simp
 |p::q,all,hnd,hs=>by
  have hp:=hs p (List.mem_cons_self ..)
  have h1:(all.map w).sum=w p+((all.erase p).map w).sum:=by
   have:=(List.perm_cons_erase hp).map w
   have:=this.sum_nat
   rw[this];simp
  have hd:=List.nodup_cons.1 hnd
  have h2:=BV w q (all.erase p) hd.2 (fun x hx=>(List.mem_erase_of_ne (show x≠p from fun e=>hd.1 (e▸hx))).2 (hs x (List.mem_cons_of_mem _ hx)))
  rw[h1,List.map_cons,List.sum_cons];omega
theorem DN (c:Nat):∀l:List Nat,(l.map fun x=>c*x).sum=c*l.sum
 | []=>by simp
 |x::l=>by rw[List.map_cons,List.sum_cons,DN c l,List.sum_cons,Nat.mul_add]
theorem Ti (f g:List Nat):∀(q:List PP),q.Nodup→(∀p∈q,0≤p.1∧p.1<(f.length:Int)∧0≤p.2∧p.2<(g.length:Int))→(q.map fun p=>ix f p.1.toNat*ix g p.2.toNat).sum≤f.sum*g.sum:=by
 intro q hnd hb
 have h1:=BV (fun p:PP=>ix f p.1.toNat*ix g p.2.toNat) q ((List.range f.length).flatMap fun i:Nat=>(List.range g.length).map fun j:Nat=>(((i:Nat):Int),((j:Nat):Int))) hnd (fun p hp=>by
  obtain⟨p0,p1,p2,p3⟩:=hb p hp
  rw[List.mem_flatMap]
  refine⟨p.1.toNat,List.mem_range.2 O,List.mem_map.2 ⟨p.2.toNat,List.mem_range.2 O,Prod.ext ?_ ?_⟩⟩
  ·show((p.1.toNat:Nat):Int)=p.1;omega
  ·show((p.2.toNat:Nat):Int)=p.2;omega)
 refine Nat.le_trans h1 (Nat.le_of_eq ?_)
 have hg:(List.range g.length).map (fun j=>ix g j)=g:=by
  apply List.ext_getElem (by simp)
  intro i h2 h3
  rw[List.getElem_map,List.getElem_range,aD h3]
 have hf:(List.range f.length).map (fun j=>ix f j)=f:=by
  apply List.ext_getElem (by simp)
  intro i h2 h3
  rw[List.getElem_map,List.getElem_range,aD h3]
 have key:∀l:List Nat,((l.flatMap fun i=>(List.range g.length).map fun j=>(((i:Nat):Int),((j:Nat):Int))).map fun p:PP=>ix f p.1.toNat*ix g p.2.toNat).sum=(l.map fun i=>ix f i).sum*g.sum:=by
  intro l
  induction l with
  |nil=>simp
  |cons i l ih=>
   rw[List.flatMap_cons,List.map_append,List.sum_append_nat,ih,List.map_cons,List.sum_cons,Nat.add_mul,List.map_map]
   congr 1
   have:((fun p:PP=>ix f p.1.toNat*ix g p.2.toNat) ∘ fun j:Nat=>(((i:Nat):Int),((j:Nat):Int)))=fun j=>ix f i*ix g j:=by
    funext j
    show ix f (i:Int).toNat*ix g (j:Int).toNat=_
    rw[Int.toNat_natCast,Int.toNat_natCast]
   rw[this]
   have h2:=DN (ix f i) ((List.range g.length).map fun j=>ix g j)
   rw[List.map_map] at h2
   rw[hg] at h2
   exact h2
 rw[key,hf]
structure PI (m n:aA) (i:Nat) (q:List PP) (mm:List (PP × Int)) (aI:List (List PP)):Prop where
 ne:0<q.length
 hd:ix q 0=((0,0):PP)
 nd:q.Nodup
 box:∀p∈q,0≤p.1∧p.1<(m.sT.length:Int)∧0≤p.2∧p.2<(n.sT.length:Int)
 im:kL mm q
 il:i≤q.length
 dn:∀j,j<i→sL q (edg m (ix q j).1.toNat) (edg n (ix q j).2.toNat)
 out:aI=(List.range i).map fun j=>cG (kM q (edg m (ix q j).1.toNat) (edg n (ix q j).2.toNat))
structure PN (m n:aA) (i:Nat) (p:PP) (q:List PP) (mm:List (PP × Int)) (aI:List (List PP)) (k1 k2:Nat) (l:List PP):Prop where
 pi:PI m n i q mm aI
 hi:i<q.length
 pe:ix q i=p
 al1:sL q ((edg m p.1.toNat).take k1) (edg n p.2.toNat)
 al2:∀e∈(edg n p.2.toNat).take k2,(ix (edg m p.1.toNat) k1).1=e.1→(((ix (edg m p.1.toNat) k1).2,e.2):PP)∈q
 es:l=kM q ((edg m p.1.toNat).take k1) (edg n p.2.toNat)++lD q ((edg n p.2.toNat).take k2) (ix (edg m p.1.toNat) k1)
theorem Tj (hm:1≤m.sT.length) (hn:1≤n.sT.length):PI m n 0 [(0,0)] (cD [] (0,0) 0) []:=by
 refine⟨by simp,rfl,by simp,fun p hp=> ?_,Ou _,by simp,fun k hk=>absurd hk O,rfl⟩
 rw[List.mem_singleton.1 hp]
 exact⟨by simp,by show(0:Int)<_;omega,by simp,by show(0:Int)<_;omega⟩
theorem zO {q r E F:List PP} (h:sL q E F):sL (q++r) E F:=fun d hd e he hde=>List.mem_append_left _ (h d hd e he hde)
variable {i k1 k2:Nat} {mm:List (PP × Int)} {aI:List (List PP)} {p:PP} {l:List PP}
theorem Gb (h:PI m n i q mm aI):q.length≤m.sT.length*n.sT.length:=pR _ _ q h.nd h.box
theorem Tk (h:PI m n i q mm aI) {p:PP} (hp:p∉q) (hb:0≤p.1∧p.1<(m.sT.length:Int)∧0≤p.2∧p.2<(n.sT.length:Int)):PI m n i (q++ [p]) (cD mm p (q.length:Int)) aI:=by
 have hil:=h.il
 refine⟨by simp,by rw[wB h.ne];exact h.hd,?_,fun r hr=> ?_,pY h.im hp,by simp;omega,fun k hk=> ?_,?_⟩
 ·rw[List.nodup_append]
  exact⟨h.nd,by simp,fun a ha b hb e=>hp (by have:b=p:=(by simpa using hb);rw[←this,←e];exact ha)⟩
 ·rcases List.mem_append.1 hr with hr|hr
  ·exact h.box r hr
  ·have:r=p:=by simpa using hr
   subst this;exact hb
 ·rw[wB O]
  exact zO (h.dn k hk)
 ·rw[h.out]
  refine List.map_congr_left (fun k hk=> ?_)
  have hk:=List.mem_range.1 hk
  rw[wB O,FY (h.dn k hk)]
theorem Tl (h:PI m n i q mm aI) (hi:i<q.length):PN m n i (ix q i) q mm aI 0 0 []:=⟨h,hi,rfl,fun d hd=>by simp at hd,fun e he=>by simp at he,by simp[kM,lD]⟩
theorem yA {q F:List PP} {d:PP} {k:Nat} (hk:k<F.length):lD q (F.take (k+1)) d=lD q (F.take k) d++(if d.1=(ix F k).1 then [(d.1,(pos q ((d.2,(ix F k).2):PP):Int))] else []):=by
 unfold lD
 rw[bM hk,List.filter_append,List.map_append]
 congr 1
 by_cases g:d.1=(ix F k).1
 ·rw[if_pos g];simp[g]
 ·rw[if_neg g];simp[g]
theorem Tm (h:PN m n i p q mm aI k1 k2 l) (hk:k2<(edg n p.2.toNat).length) (hne:¬(ix (edg m p.1.toNat) k1).1=(ix (edg n p.2.toNat) k2).1):PN m n i p q mm aI k1 (k2+1) l:=by
 refine⟨h.pi,h.hi,h.pe,h.al1,fun e he hde=> ?_,?_⟩
 ·rw[bM hk,List.mem_append] at he
  rcases he with g|g
  ·exact h.al2 e g hde
  ·have:e=_:=List.mem_singleton.1 g
   subst this;exact absurd hde hne
 ·rw[yA hk,if_neg hne,List.append_nil];exact h.es
theorem VZ (h:PN m n i p q mm aI k1 k2 l) (hk:k2<(edg n p.2.toNat).length) (he:(ix (edg m p.1.toNat) k1).1=(ix (edg n p.2.toNat) k2).1) (hn:(bP mm ((ix (edg m p.1.toNat) k1).2,(ix (edg n p.2.toNat) k2).2)).isSome=true):
 PN m n i p q mm aI k1 (k2+1) (l++ [((ix (edg m p.1.toNat) k1).1,(bP mm ((ix (edg m p.1.toNat) k1).2,(ix (edg n p.2.toNat) k2).2)).getD 0)]):=by
 rw[h.pi.im] at hn ⊢
 unfold Ew at hn ⊢
 by_cases hm:(((ix (edg m p.1.toNat) k1).2,(ix (edg n p.2.toNat) k2).2):PP)∈q
 ·rw[if_pos hm]
  refine⟨h.pi,h.hi,h.pe,h.al1,fun e hee hde=> ?_,?_⟩
  ·rw[bM hk,List.mem_append] at hee
   rcases hee with g|g
   ·exact h.al2 e g hde
   ·have:e=_:=List.mem_singleton.1 g
    subst this;exact hm
  ·rw[yA hk,if_pos he,←List.append_assoc,←h.es];rfl
 ·rw[if_neg hm] at hn;cases hn
theorem Wc (h:PN m n i p q mm aI k1 k2 l) (hk:k2<(edg n p.2.toNat).length) (he:(ix (edg m p.1.toNat) k1).1=(ix (edg n p.2.toNat) k2).1) (hb:0≤(ix (edg m p.1.toNat) k1).2∧(ix (edg m p.1.toNat) k1).2<(m.sT.length:Int)∧0≤(ix (edg n p.2.toNat) k2).2∧(ix (edg n p.2.toNat) k2).2<(n.sT.length:Int))
 (hn:(bP mm ((ix (edg m p.1.toNat) k1).2,(ix (edg n p.2.toNat) k2).2)).isSome=false):
 PN m n i p (q++ [((ix (edg m p.1.toNat) k1).2,(ix (edg n p.2.toNat) k2).2)]) (cD mm ((ix (edg m p.1.toNat) k1).2,(ix (edg n p.2.toNat) k2).2) (q.length:Int)) aI k1 (k2+1) (l++ [((ix (edg m p.1.toNat) k1).1,(q.length:Int))]):=by
 have hnq:(((ix (edg m p.1.toNat) k1).2,(ix (edg n p.2.toNat) k2).2):PP)∉q:=fun hm=>by
  rw[h.pi.im] at hn
  unfold Ew at hn
  rw[if_pos hm] at hn;cases hn
 have hi:=h.hi
 refine⟨Tk h.pi hnq hb,by simp;omega,by rw[wB h.hi];exact h.pe,zO h.al1,fun e hee hde=> ?_,?_⟩
 ·rw[bM hk,List.mem_append] at hee
  rcases hee with g|g
  ·exact List.mem_append_left _ (h.al2 e g hde)
  ·have:e=_:=List.mem_singleton.1 g
   subst this;simp
 ·rw[FY h.al1,yA hk,if_pos he,FX h.al2,←List.append_assoc,←h.es]
  congr 3
  exact(congrArg (fun x:Nat=>(x:Int)) (Ic hnq)).symm
theorem Wd (h:PN m n i p q mm aI k1 k2 l) (hk1:k1<(edg m p.1.toNat).length) (hk:(edg n p.2.toNat).length≤k2):PN m n i p q mm aI (k1+1) 0 l:=by
 have h2:=h.al2
 have h3:=h.es
 rw[List.take_of_length_le hk] at h2 h3
 refine⟨h.pi,h.hi,h.pe,fun d hd e he hde=> ?_,fun e he=>by simp at he,?_⟩
 ·rw[bM hk1,List.mem_append] at hd
  rcases hd with g|g
  ·exact h.al1 d g e he hde
  ·have:d=_:=List.mem_singleton.1 g
   subst this
   exact h2 e he hde
 ·rw[h3]
  unfold kM
  rw[bM hk1,List.flatMap_append]
  simp[lD]
theorem We (h:PN m n i p q mm aI k1 k2 l) (hk2:k2=0) (hk1:(edg m p.1.toNat).length≤k1):PI m n (i+1) q mm (aI++ [cG l]):=by
 have h1:=h.al1
 have h3:=h.es
 rw[List.take_of_length_le hk1] at h1 h3
 subst hk2
 have h4:l=kM q (edg m p.1.toNat) (edg n p.2.toNat):=by rw[h3];simp[lD]
 have hi:=h.hi
 have hpe:=h.pe
 refine⟨h.pi.ne,h.pi.hd,h.pi.nd,h.pi.box,h.pi.im,O,fun j hj=> ?_,?_⟩
 ·by_cases g:j=i
  ·rw[g,hpe];exact h1
  ·exact h.pi.dn j O
 ·rw[List.range_succ,List.map_append,←h.pi.out,h4]
  simp[hpe]
theorem Mm (h:PN m n i p q mm aI k1 k2 l):l.length≤k1*(edg n p.2.toNat).length+k2:=by
 rw[h.es,List.length_append]
 have h1:=Aq (q:=q) (F:=edg n p.2.toNat) (E:=(edg m p.1.toNat).take k1)
 have h2:=FZ (q:=q) (F:=(edg n p.2.toNat).take k2) (d:=ix (edg m p.1.toNat) k1)
 have h3:((edg m p.1.toNat).take k1).length≤k1:=List.length_take_le _ _
 have h4:((edg n p.2.toNat).take k2).length≤k2:=List.length_take_le _ _
 have h5:=Nat.mul_le_mul_right (edg n p.2.toNat).length h3
 omega
theorem Xw (hm:bA m) (h:PN m n i p q mm aI k1 k2 l):∀x∈l,0≤x.1∧x.1<8∧0≤x.2∧x.2<(q.length:Int):=fun x hx=>by
 obtain⟨b0,b1,_,_⟩:=h.pi.box p (by rw[←h.pe];exact aQ h.hi)
 have hm8:=hm.n8
 rw[h.es,List.mem_append] at hx
 rcases hx with g|g
 ·obtain⟨d,hd,e,he,hde,rfl⟩:=Ap.1 g
  have h1:=hm.ed _ O d (List.mem_of_mem_take hd)
  have h2:=uZ (h.al1 d hd e he hde)
  exact⟨h1.1,by show d.1<8;omega,by show(0:Int)≤((pos q _:Nat):Int);omega,by show((pos q _:Nat):Int)<_;omega⟩
 ·obtain⟨e,he,hde,rfl⟩:=wH.1 g
  have h2:=uZ (h.al2 e he hde)
  by_cases hk:k1<(edg m p.1.toNat).length
  ·have h1:=hm.ed _ O _ (aQ hk)
   exact⟨h1.1,by show(ix (edg m p.1.toNat) k1).1<8;omega,by show(0:Int)≤((pos q _:Nat):Int);omega,by show((pos q _:Nat):Int)<_;omega⟩
  ·have e0:ix (edg m p.1.toNat) k1=(0,0):=by unfold ix;rw[List.getD_eq_getElem?_getD,List.getElem?_eq_none O];rfl
   rw[e0]
   rw[e0] at h2
   exact⟨by show(0:Int)≤0;omega,by show(0:Int)<8;omega,by show(0:Int)≤((pos q _:Nat):Int);omega,by show((pos q _:Nat):Int)<_;omega⟩
theorem Tn (h:PI m n i q mm aI) (hi:q.length≤i):mF m n ⟨m.aC,aI⟩ q:=by
 have hil:=h.il
 have e:i=q.length:=by omega
 subst e
 refine⟨rfl,h.ne,h.hd,h.nd,h.box,by rw[h.out];simp,h.dn,fun j hj=> ?_⟩
 show ix aI j=_
 rw[h.out,aD (by simpa using hj)]
 simp
def wgt (m n:aA) (p:PP):Nat:=(edg m p.1.toNat).length*(edg n p.2.toNat).length
def iD (m n:aA) (q:List PP) (i:Nat):Nat:=((q.take i).map (wgt m n)).sum
theorem Tp {r:List PP} (hi:i≤q.length):iD m n (q++r) i=iD m n q i:=by
 unfold iD
 rw[List.take_append_of_le_length hi]
theorem wI (hi:i<q.length):iD m n q (i+1)=iD m n q i+wgt m n (ix q i):=by
 unfold iD
 rw[bM hi,List.map_append,List.sum_append_nat];simp
theorem IC (hnd:q.Nodup) (hbx:∀p∈q,0≤p.1∧p.1<(m.sT.length:Int)∧0≤p.2∧p.2<(n.sT.length:Int)) (j:Nat):iD m n q j≤bR m.sT*bR n.sT:=by
 have h1:=Ti (m.sT.map List.length) (n.sT.map List.length) (q.take j) (List.Nodup.sublist (List.take_sublist _ _) hnd) (fun p hp=>by simpa using hbx p (List.mem_of_mem_take hp))
 unfold bR
 refine Nat.le_trans (Nat.le_of_eq ?_) h1
 unfold iD
 congr 1
 refine List.map_congr_left fun p hp=> ?_
 obtain⟨p0,p1,p2,p3⟩:=hbx p (List.mem_of_mem_take hp)
 unfold wgt
 have e1:ix (m.sT.map List.length) p.1.toNat=(edg m p.1.toNat).length:=by rw[aD (by simp;omega),List.getElem_map,←aD (xs:=m.sT) O]
 have e2:ix (n.sT.map List.length) p.2.toNat=(edg n p.2.toNat).length:=by rw[aD (by simp;omega),List.getElem_map,←aD (xs:=n.sT) O]
 rw[e1,e2]
theorem Gc (h:PI m n i q mm aI) (j:Nat):iD m n q j≤bR m.sT*bR n.sT:=IC h.nd h.box j
theorem Pj (h:mF m n k q):q.length≤m.sT.length*n.sT.length:=pR _ _ q h.nd h.box
theorem Pk (h:mF m n k q):bR k.sT≤iD m n q q.length:=by
 have key:∀j,j≤q.length→bR (k.sT.take j)≤iD m n q j:=by
  intro j
  induction j with
  |zero=>intro _;simp[bR]
  |succ j ih=>
   intro hj
   have hl:=h.len
   rw[bM (show j<k.sT.length by omega),kH,wI O]
   have h1:=ih O
   have h2:(ix k.sT j).length≤wgt m n (ix q j):=by
    have:=h.row j O
    have e:(ix k.sT j)=cG _:=this
    rw[e,(fJ _).length_eq]
    exact Aq
   omega
 have:=key q.length (Nat.le_refl _)
 rwa [List.take_of_length_le (by rw[h.len];exact Nat.le_refl _)] at this
theorem Kf (hm:bN m=true) (hn:bN n=true) (h:mF m n k q) (h5:q.length≤5000) (h4:bR k.sT≤400000):bN k=true:=by
 have hm1:=eF hm
 have hn1:=eF hn
 have hed:∀j,j<q.length→dW k.aC.length k.sT.length (edg k j)=true:=fun j hj=>by
  obtain⟨b0,b1,b2,b3⟩:=h.box _ (aQ hj)
  have hnd:(edg k j).Nodup:=by
   rw[h.row j hj]
   exact(fJ _).nodup_iff.2 (BU (DL hn O) (DL hm O) (h.all j hj))
  have hso:(edg k j).Pairwise (fun p q=>p.1<q.1∨(p.1=q.1∧p.2≤q.2)):=by rw[h.row j hj];exact rY _
  refine sG (fun i hi=> ?_) (fun i hi=> ?_)
  ·obtain⟨d,hd,e,he,hde,hx⟩:=(pI h hj).1 (aQ hi)
   have g1:=hm1.ed _ O d hd
   have g2:=uZ (h.all j hj d hd e he hde)
   rw[eE,hx,h.acts,h.len]
   exact⟨g1.1,g1.2.1,by show(0:Int)≤((pos q _:Nat):Int);omega,by show((pos q _:Nat):Int)<_;omega⟩
  ·rw[aD (show i<(edg k j).length by omega),aD hi]
   have g1:=(List.pairwise_iff_getElem.1 hso) i (i+1) O hi O
   have g2:=(List.pairwise_iff_getElem.1 hnd) i (i+1) O hi O
   rw[oX]
   rcases g1 with g|⟨g,g'⟩
   ·exact .inl g
   ·refine .inr ⟨g,?_⟩
    rcases Int.lt_or_eq_of_le g' with c|c
    ·exact c
    ·exact absurd (Prod.ext g c) g2
 have hne:=h.ne
 have hl:=h.len
 unfold bN
 rw[h.acts,hm1.acts,decide_eq_true (show 1≤k.sT.length by omega),decide_eq_true (show k.sT.length≤5000 by omega),decide_eq_true h4]
 simp only [Bool.true_and,Bool.and_true]
 refine List.all_eq_true.2 fun l hl2=> ?_
 obtain⟨x,hx,rfl⟩:=List.getElem_of_mem hl2
 rw[←h.acts,←aD hx]
 exact hed x O
end ProdM
end
section
namespace SatC
open ref01 ref03 ref04 ref06 Part Rungs LeftM TrimM RoundM MergeM BisM BisM4 BisM5 BisM6 Keys WalkM WitM JudgM LevM divr divs divd dive divf divv judg sysw satj ChsM BisS TrimI QuoM FailM DivM RefM GenW CompM CompP prodp TogM ProdM BesM
variable {m n k:aA} {q:List PP}
end SatC
end
section
namespace OrdM
open ref01 ref03 ref04 ref06 Part Rungs LeftM TrimM RoundM MergeM BisM BisM2 BisM4 BisM5 BisM6 Keys WalkM WitM JudgM JudgM2 LevM divr divs divd dive divf divv judg sysw satj ChsM BisS TrimI QuoM FailM DivM RefM GenW CompM CompP prodp TogM ProdM BesM SevM SatC
theorem DR {s:SS} (hs:oK s) (e:ix (hOl s) 0=false):∀x,x<(tR s).1.sT.length→acc (tR s).1 x≠[]:=fun x hx=>by
 have h:(tR s).1=tS s:=by rw[fD e]
 rw[h] at hx ⊢
 exact List.ne_nil_of_length_pos (Xq hs e hx)
section
variable {S T:SS} (hS:oK S) (hT:oK T) (h1:∀x,x<S.sT.length→acc S x≠[]) (h2:∀x,x<T.sT.length→acc T x≠[]) (hc:(cL S T).length≤500)
include hS hT h1 h2 hc
end
end OrdM
end
section
namespace KeepK
open ref01 ref03 ref04 ref06 Part Rungs LeftM TrimM RoundM MergeM BisM BisM4 BisM5 BisM6 Keys WalkM WitM JudgM JudgM2 LevM divr divs divd dive divf divv judg sysw satj ChsM BisS TrimI QuoM FailM DivM RefM GenW CompM
def qY (u:Int) (x:SA):SA:=⟨x.aP.filter fun v=>decide (bQ v u=u),x.next⟩
def aU (u:Int) (s:SS):SS:=⟨s.aC,s.sT.map (qY u)⟩
theorem nK (u:Int) (s:SS):(aU u s).sT.length=s.sT.length:=by simp[aU]
theorem Ar {u:Int} {s:SS} {k:Nat} (hk:k<s.sT.length):ix (aU u s).sT k=qY u (ix s.sT k):=CE hk
theorem tT {u:Int} {s:SS} {k:Nat} (hk:k<s.sT.length) {v:Int}:v∈acc (aU u s) k↔v∈acc s k∧bQ v u=u:=by
 show v∈(ix (aU u s).sT k).aP↔_
 rw[Ar hk]
 show v∈(ix s.sT k).aP.filter _↔_
 rw[List.mem_filter,decide_eq_true_eq]
theorem qZ {u:Int} {s:SS} {k:Nat} (hk:k<s.sT.length):nxt (aU u s) k=nxt s k:=by
 show(ix (aU u s).sT k).next=_
 rw[Ar hk];rfl
theorem gX {s:SS} (hs:oK s) (u:Int):oK (aU u s):=by
 refine⟨hs.acts,hs.n8,by rw[nK];exact hs.few0,by rw[nK];exact hs.few1,fun k hk=> ?_⟩
 rw[nK] at hk ⊢
 have h:=hs.st k hk
 rw[Ar hk]
 have hin:∀{i:Nat},i<((ix s.sT k).aP.filter fun v=>decide (bQ v u=u)).length→∃j,j<(ix s.sT k).aP.length∧ix (ix s.sT k).aP j=ix ((ix s.sT k).aP.filter fun v=>decide (bQ v u=u)) i:=fun {i} hi=>pX (List.mem_filter.1 (aQ hi)).1
 refine⟨h.len,h.nx,fun i hi=> ?_,fun i hi a ha=> ?_,xS ((nI h.rise).filter _)⟩
 ·obtain⟨j,hj,e⟩:=hin hi
  have:=h.ac j hj
  rw[e] at this;exact this
 ·obtain⟨j,hj,e⟩:=hin hi
  exact h.go j hj a (by rw[e];exact ha)
theorem yB {s:SS} (hs:oK s) (hf:s.sT.length≤500) (u:Int):Same (tR (aU u s)).1 (aU u s):=by
 have hk:=gX hs u
 have hr:=FJ hk hk rfl ⟨FI hk,FI hk⟩
 have:=Ai hk
 rw[nK] at this
 exact⟨oZ hk,O,qB _,DJ hk,hr.1,hr.2⟩
inductive Au (m:aA):Nat→Prop
 |zero:Au m 0
 |step {x:Nat} {e:PP}:Au m x→e∈edg m x→Au m e.2.toNat
def mG (m:aA) (u:Int):Prop:=∀x,Au m x→bQ (bK m x) u=u
theorem tU {m:aA} {s:SS} {u:Int}:eW m (aU u s)↔eW m s∧mG m u:=by
 constructor
 ·rintro⟨R,hR,r⟩
  have hb:∀{x y},R x y→y<s.sT.length:=fun h=>by have:=hR.bd h;rwa [nK] at this
  refine⟨⟨R,⟨fun h=>hb h,fun h=>((tT (hb h)).1 (hR.acc h)).1,fun {x y} h e he=>by have:=hR.len h e he;rwa [qZ (hb h)] at this,fun {x y} h e he=>by have:=hR.nxt h e he;rwa [qZ (hb h)] at this⟩,r⟩,fun x hx=> ?_⟩
  have key:∃y,R x y:=by
   induction hx with
   |zero=>exact⟨0,r⟩
   |step h1 h2 ih=>
    rename_i x e
    obtain⟨y,hy⟩:=ih
    exact⟨_,(hR.nxt hy (e.1.toNat,e.2.toNat) (List.mem_map.2 ⟨e,h2,rfl⟩)).2⟩
  obtain⟨y,hy⟩:=key
  exact((tT (hb hy)).1 (hR.acc hy)).2
 ·rintro⟨⟨R,hR,r⟩,hk⟩
  refine⟨fun x y=>R x y∧Au m x,⟨fun h=>by rw[nK];exact hR.bd h.1,fun {x y} h=>(tT (hR.bd h.1)).2 ⟨hR.acc h.1,hk _ h.2⟩,fun {x y} h e he=>by rw[qZ (hR.bd h.1)];exact hR.len h.1 e he,fun {x y} h e he=> ?_⟩,r,.zero⟩
  rw[qZ (hR.bd h.1)]
  have:=hR.nxt h.1 e he
  obtain⟨e',he',rfl⟩:=List.mem_map.1 he
  exact⟨this.1,this.2,.step h.2 he'⟩
theorem Mn {m:aA} {s:SS} (hs:oK s) {u:Int}:eW m (tR (aU u s)).1↔eW m s∧mG m u:=by
 rw[←tU]
 unfold eW
 rw[nJ (oZ (gX hs u)) (sD m),nJ (gX hs u) (sD m)]
 exact⟨fun h=>rH h (sI (gX hs u)),fun h=>rH h (sI (gX hs u)).symm⟩
end KeepK
end
section
open ref01 ref03 ref04 ref06 prog prog2 prog3 prog6 prog9 Part Rungs LeftM TrimM RoundM MergeM BisM BisM4 BisM5 QuoM KeepK
theorem DT {u:Int} {l:List Int} {k:Nat} (hk:k<l.length) (h:bQ (ix l k) u=u):(l.take (k+1)).filter (fun v=>decide (bQ v u=u))=(l.take k).filter (fun v=>decide (bQ v u=u))++ [ix l k]:=by
 rw[bM hk,List.filter_append]
 simp[h]
theorem BX {u:Int} {l:List Int} {k:Nat} (hk:k<l.length) (h:¬bQ (ix l k) u=u):(l.take (k+1)).filter (fun v=>decide (bQ v u=u))=(l.take k).filter (fun v=>decide (bQ v u=u)):=by
 rw[bM hk,List.filter_append]
 simp[h]
theorem wJ {n:Nat} {u:Int} (hn:n≤8) (h:eO (n:Int) u=true):0≤u∧u<256:=by
 unfold eO at h
 rw[Bool.and_eq_true,decide_eq_true_eq,decide_eq_true_eq,Int.toNat_natCast] at h
 have h2:2^n≤2^8:=Nat.pow_le_pow_right O hn
 omega
namespace T
theorem Ro:Ent Tryz.prog 73:=aN kR
end T
namespace mkk
theorem Mo (n s:Int) (h0:0≤n) (h1:n<63):
 Fn0 Tryz.prog 61 [int n,int s] (bl (eO n s)):=by
 refine fnI Tryz.func61 rfl rfl (fun w0 F0=> ?_)
 refine sq (rg (ag (nl (th (sq (rg (mv (bi J J fU (mv ?_)))))))))
 apply cZ (t:=7) (pd:=12) rfl
 rotate_left
 ·intro hg0 fin
  have hg0':=hg0
  try simp at hg0'
  exact gy J J J hg0 (mv (gy J J J hg0 (mv (gy J J J hg0 (bi J J (pU O O) (gy J J J hg0 (bi J J aO (pkT J hg0 J (drp (X:= [(11,_),(10,_),(9,_),(8,_)]) ⟨J,J,J,J,tV⟩ fin)))))))))
 ·intro hg0 fin
  exact gn J J J hg0 J J (gn J J J hg0 J J (gn J J J hg0 J J (gn J J J hg0 J J (pkF J hg0 J (drp (X:= [(11,_),(10,_),(9,_),(8,_)]) ⟨J,J,J,J,tV⟩ fin)))))
 refine ag (nl (th (rt ?_)))
 have hr0:((decide (0≤s))&&(decide (s<((2^n.toNat:Nat):Int))))=(eO n s):=by
  first|rfl|simp_all|omega
 exact rE () [.tmp 4] J [bl ((decide (0≤s))&&(decide (s<((2^n.toNat:Nat):Int))))] ⟨.tmp J,tV⟩ (cA1 (fun x0=>rV [bl x0]) hr0) trivial eX
theorem Kg (s:SS) (hs:oK s) (u:Int) (h0:0≤u) (h1:u<256):
 Fn0 Tryz.prog 72 [spec s,int u] (spec (tR (aU u s)).1):=by
 refine fnI Tryz.func72 rfl rfl (fun w0 F0=> ?_)
 have hko:=gX hs u;have hf1:=hs.few1;have hn8:=hs.n8
 refine fcC (bW 0 J) (fun hS0=> ?_)
 obtain⟨hsa0,hss0,hse0⟩:=sLn hS0
 refine sq (rg (bx (key:=2) (cs:= [sl 1 rE_ s.aC,sl 2 sE s.sT]) J fun b2=>(al (key:=4) T.z28 (eC (eC eZ)) fun b4=>(nl (th (sq (rg (fP J T.dH (lP J J J T.cM (bd (css:= [(0,_)]) T.oP (eC (eC eZ)) ⟨J,J,p1 (φ:=sl 1 rE_ s.aC) J,tV⟩ (al (key:=5) T.z28 (eC (eC eZ)) fun b5=>(sPA (cs':= [sl 1 rE_ s.aC,eqv (.slice none 0 0)]) J J J T.bF J J (nl (th (sq (sq (rg (fP J T.bL (lP J J J T.bT (fc (aV 15 J) fun hm15=>(lnF J T.cO (mv (nl (th (bk ?_)))))))))))))))))))))))))
 refine nwC 50 79 2 sE (jS 5 1 (osl 50 (.slice none 0 0)) rfl rfl dM ?_)
 have hI0_0:0≤s.sT.length:=by
  first|omega|simp
 have hI0_1:([]:List SA)=(s.sT.take 0).map (qY u):=by
  rfl
 refine lp (κ:=Nat × Value × (List SA)) (fun p=> [(1,int u),(4,ptr 4 b4 0),(5,ptr 5 b5 0),(15,sl 2 sE s.sT),(16,int (s.sT.length:Int)),(17,int (p.1:Int))]) (fun p=> [(2,cell b2 [sl 1 rE_ s.aC,sl 2 sE s.sT]),(4,cell b4 [eqv (.slice none 0 0),eqv (.slice none 0 0)]),(5,cell b5 [sl 1 rE_ s.aC,osl 50 p.2.1]),(50,own p.2.1 79 2 sE p.2.2)]) (fun p=>(p.1≤s.sT.length)∧(p.2.2=(s.sT.take p.1).map (qY u))) (fun p=>s.sT.length- p.1) ⟨0,(.slice none 0 0),([]:List SA)⟩ ⟨hI0_0,hI0_1⟩ ⟨id,id,id,id,id,id,tV⟩ ⟨rI,rI,rI,rI,tV⟩ ?_
 intro⟨k,v5x,aI⟩ hG0
 obtain⟨hk0,hI0⟩:(k≤s.sT.length)∧(aI=(s.sT.take k).map (qY u)):=hG0
 show Ct _ _ _ _ [(1,int u),(4,ptr 4 b4 0),(5,ptr 5 b5 0),(15,sl 2 sE s.sT),(16,int (s.sT.length:Int)),(17,int (k:Int))] [(2,cell b2 [sl 1 rE_ s.aC,sl 2 sE s.sT]),(4,cell b4 [eqv (.slice none 0 0),eqv (.slice none 0 0)]),(5,cell b5 [sl 1 rE_ s.aC,osl 50 v5x]),(50,own v5x 79 2 sE aI)] _
 have hol:aI.length≤k:=by rw[hI0];simp;omega
 refine sq (rg (bi J J aO (nl (th (sq ?_)))))
 refine cd J (fun hc0=> ?_) (fun hc0=> ?_)
 ·try simp at hc0
  have hst:=hs.st k O
  have hacl:=hst.acl
  have hsl:=hst.len
  refine sk (th (sq (bk (sq (rg (iF J J T.cO O gB (lFA J T.dJ (Nat.le_of_ble_eq_true J) (al (key:=7) T.z79 (eC (eC eZ)) fun b7=>(sPA (cs':= [sl 1 nE (ix s.sT k).aP,sl 1 nE (ix s.sT k).next]) J J J T.dJ J J (nl (th (sq (rg (fP J T.cS (lP J J J T.bD (bd (css:= [(1,_)]) T.xI (eC (eC eZ)) ⟨J,J,p1 (φ:=sl 1 nE (ix s.sT k).next) J,tV⟩ (al (key:=8) T.z79 (eC (eC eZ)) fun b8=>(sPA (cs':= [eqv (.slice none 0 0),sl 1 nE (ix s.sT k).next]) J J J T.dJ J J (nl (th (sq (sq (rg (fP J T.cK (lP J J J T.bD (fc (aV 25 J) fun hm25=>(lnF J T.aX (mv (nl (th (bk ?_)))))))))))))))))))))))))))))))
  refine nwC 80 3 1 nE (jS 8 0 (osl 80 (.slice none 0 0)) rfl rfl dM ?_)
  have hI1_0:0≤(ix s.sT k).aP.length:=by
   first|omega|simp
  have hI1_1:([]:List Int)=((ix s.sT k).aP.take 0).filter (fun v=>decide (bQ v u=u)):=by
   rfl
  refine lp (κ:=Nat × Value × (List Int)) (fun p=> [(1,int u),(4,ptr 4 b4 0),(5,ptr 5 b5 0),(8,ptr 8 b8 0),(15,sl 2 sE s.sT),(16,int (s.sT.length:Int)),(17,int (k:Int)),(25,sl 1 nE (ix s.sT k).aP),(26,int ((ix s.sT k).aP.length:Int)),(27,int (p.1:Int))]) (fun p=> [(2,cell b2 [sl 1 rE_ s.aC,sl 2 sE s.sT]),(4,cell b4 [eqv (.slice none 0 0),eqv (.slice none 0 0)]),(5,cell b5 [sl 1 rE_ s.aC,osl 50 v5x]),(7,cell b7 [sl 1 nE (ix s.sT k).aP,sl 1 nE (ix s.sT k).next]),(8,cell b8 [osl 80 p.2.1,sl 1 nE (ix s.sT k).next]),(50,own v5x 79 2 sE aI),(80,own p.2.1 3 1 nE p.2.2)]) (fun p=>(p.1≤(ix s.sT k).aP.length)∧(p.2.2=((ix s.sT k).aP.take p.1).filter (fun v=>decide (bQ v u=u)))) (fun p=>(ix s.sT k).aP.length- p.1) ⟨0,(.slice none 0 0),([]:List Int)⟩ ⟨hI1_0,hI1_1⟩ ⟨id,id,id,id,id,id,id,id,id,id,tV⟩ ⟨rI,rI,rI,rI,rI,rI,rI,tV⟩ ?_
  intro⟨k1,v8x,ou2⟩ hG1
  obtain⟨hk1,hI1⟩:(k1≤(ix s.sT k).aP.length)∧(ou2=((ix s.sT k).aP.take k1).filter (fun v=>decide (bQ v u=u))):=hG1
  show Ct _ _ _ _ [(1,int u),(4,ptr 4 b4 0),(5,ptr 5 b5 0),(8,ptr 8 b8 0),(15,sl 2 sE s.sT),(16,int (s.sT.length:Int)),(17,int (k:Int)),(25,sl 1 nE (ix s.sT k).aP),(26,int ((ix s.sT k).aP.length:Int)),(27,int (k1:Int))] [(2,cell b2 [sl 1 rE_ s.aC,sl 2 sE s.sT]),(4,cell b4 [eqv (.slice none 0 0),eqv (.slice none 0 0)]),(5,cell b5 [sl 1 rE_ s.aC,osl 50 v5x]),(7,cell b7 [sl 1 nE (ix s.sT k).aP,sl 1 nE (ix s.sT k).next]),(8,cell b8 [osl 80 v8x,sl 1 nE (ix s.sT k).next]),(50,own v5x 79 2 sE aI),(80,own v8x 3 1 nE ou2)] _
  have CM:ou2.length≤256:=by rw[hI1];refine Nat.le_trans (List.length_filter_le _ _) ?_;simp;omega
  refine sq (rg (bi J J aO (nl (th (sq ?_)))))
  refine cd J (fun hc1=> ?_) (fun hc1=> ?_)
  ·try simp at hc1
   have hak:=hst.ac k1 O
   refine sk (th (sq (bk (sq (rg (iF J J T.aX O gB (lF J J T.aF (ag (nl (th (sq (rg (mv (mv (bi J J (rN O O O O) (mv (bi J J dZ (nl (th ?_)))))))))))))))))))
   refine cd J (fun hc2=> ?_) (fun hc2=> ?_)
   ·try simp at hc2
    refine rg (fP J T.cK (lP J J J T.bD (mv (bsE (enc:=nE) (xs:= [(ix (ix s.sT k).aP k1)]) (css:= [[int (ix (ix s.sT k).aP k1)]]) T.bZ ⟨J,J,p1 (φ:=int (ix (ix s.sT k).aP k1)) J,tV⟩ J J J J (ap (key:=80) (zs:= [(ix (ix s.sT k).aP k1)]) bX J J J T.bZ (by unfold aT at*;simp;omega) (by unfold aT at*;simp;omega) fun v40=>(fP J T.cK (cI J J J J T.bD J (nl (eb (th (rg (bi J J (aG i6) (mv (nl ?_))))))))))))))
    have hN0:(k1+1)≤(ix s.sT k).aP.length:=by
     first|omega|simp_all
    have hN1:(ou2++ [(ix (ix s.sT k).aP k1)])=((ix s.sT k).aP.take (k1+1)).filter (fun v=>decide (bQ v u=u)):=by
     rw[DT O (by simpa [bQ] using hc2),←hI1]
    exact ln (⟨k1+1,v40,ou2++ [(ix (ix s.sT k).aP k1)]⟩:Nat × Value × (List Int)) ⟨hN0,hN1⟩ dO ⟨id,id,id,id,id,id,id,id,id,id,tV⟩ ⟨rI,rI,rI,rI,rI,rI,rI,tV⟩
   ·try simp at hc2
    refine sk (eb (th (rg (bi J J (aG i6) (mv (nl ?_))))))
    have hN0:(k1+1)≤(ix s.sT k).aP.length:=by
     first|omega|simp_all
    have hN1:ou2=((ix s.sT k).aP.take (k1+1)).filter (fun v=>decide (bQ v u=u)):=by
     rw[BX O (by simpa [bQ] using hc2),←hI1]
    exact ln (⟨k1+1,v8x,ou2⟩:Nat × Value × (List Int)) ⟨hN0,hN1⟩ dO ⟨id,id,id,id,id,id,id,id,id,id,tV⟩ ⟨rI,rI,rI,rI,rI,rI,rI,tV⟩
  ·try simp at hc1
   refine ex (xt_ (xt_ (xb (th (rg (fP J T.bL (lP J J J T.bT (fzc 8 80 0 J J J J (lPA J J T.dJ J (bsE (enc:=sE) (xs:= [(⟨ou2,(ix s.sT k).next⟩)]) (css:= [[sl 1 nE ou2,sl 1 nE (ix s.sT k).next]]) T.mT ⟨J,J,pA (cs:= [sl 1 nE ou2,sl 1 nE (ix s.sT k).next]) J,tV⟩ J J J J (ap (key:=50) (zs:= [(⟨ou2,(ix s.sT k).next⟩)]) bX J J J T.mT (by unfold aT at*;simp;omega) (by unfold aT at*;simp;omega) fun v47=>(fP J T.bL (cI J J J J T.bT J (nl (eb (th (rg (bi J J (aG i6) (mv (nl ?_))))))))))))))))))))
   have hN0:(k+1)≤s.sT.length:=by
    first|omega|simp_all
   have hN1:(aI++ [(⟨ou2,(ix s.sT k).next⟩)])=(s.sT.take (k+1)).map (qY u):=by
    rw[hI0,bM O,List.map_append,hI1,show k1=(ix s.sT k).aP.length by omega,List.take_length];rfl
   exact ln (⟨k+1,v47,aI++ [(⟨ou2,(ix s.sT k).next⟩)]⟩:Nat × Value × (List SA)) ⟨hN0,hN1⟩ dO ⟨id,id,id,id,id,id,tV⟩ ⟨rI,rI,rI,rI,tV⟩
 ·try simp at hc0
  refine ex (xt_ (xt_ (xb (th (sq (rg (fzc 5 50 1 J J J J (lPA J J T.bF J (kn 51 (spec (aU u s)) J (by rw[show aI=(aU u s).sT by rw[hI0,show k=s.sT.length by omega,List.take_length];rfl];exact fun h=>h) (kK (φs:= [agg [sl 1 rE_ (aU u s).aC,sl 2 sE (aU u s).sT]]) (φ:=tup [agg [sl 1 rE_ ((tR (aU u s)).1.aC),sl 2 sE ((tR (aU u s)).1.sT)],sl 1 nE ((tR (aU u s)).2)]) ⟨J,tV⟩ (prog9.Bv (aU u s) aS) T.Ro (fun N hN=>fun h=>rQ (cs:= [agg [fre N (sl 1 rE_ ((tR (aU u s)).1.aC)),frb (ix (hOl (aU u s)) 0) N (sl 2 sE ((tR (aU u s)).1.sT))],sl 1 nE ((tR (aU u s)).2)]) (ds:= [agg [sl 1 rE_ ((tR (aU u s)).1.aC),sl 2 sE ((tR (aU u s)).1.sT)],sl 1 nE ((tR (aU u s)).2)]) ⟨fun h=>jE (cs:= [fre N (sl 1 rE_ ((tR (aU u s)).1.aC)),frb (ix (hOl (aU u s)) 0) N (sl 2 sE ((tR (aU u s)).1.sT))]) (ds:= [sl 1 rE_ ((tR (aU u s)).1.aC),sl 2 sE ((tR (aU u s)).1.sT)]) ⟨fun h=>iY h,fun h=>EY h,tV⟩ h,fun h=>h,tV⟩ h) (mv (xt J J (xt J J (sPA (cs':= [sl 1 rE_ ((tR (aU u s)).1.aC),sl 2 sE ((tR (aU u s)).1.sT)]) J J J T.bF J J (nl (th (sq (rg (lPA J J T.bF J (sPA (cs':= [sl 1 rE_ ((tR (aU u s)).1.aC),sl 2 sE ((tR (aU u s)).1.sT)]) J J J T.bF J J (nl (th (rt ?_)))))))))))))))))))))))
  have hr0:((tR (aU u s)).1.aC)=((tR (aU u s)).1).aC:=by
   first|rfl|simp_all|omega
  have hr1:((tR (aU u s)).1.sT)=((tR (aU u s)).1).sT:=by
   first|rfl|simp_all|omega
  exact rE () [.cell 4 28] J [agg [sl 1 rE_ ((tR (aU u s)).1.aC),sl 2 sE ((tR (aU u s)).1.sT)]] ⟨.agg J J T.bF J J,tV⟩ (cA2 (fun x0 x1=>rV [agg [sl 1 rE_ x0,sl 2 sE x1]]) hr0 hr1) trivial eX
end mkk
end
section
namespace GuardM
open ref01 ref03 ref04 ref06 Part Rungs LeftM TrimM RoundM MergeM BisM BisM4 BisM5 BisM6 Keys WalkM WitM JudgM LevM divr divs divd dive divf divv judg sysw satj ChsM BisS TrimI QuoM FailM DivM RefM GenW CompM FitM TogM
abbrev LP:=List PP
def uI (p q:PP):Prop:=p.1<q.1∨(p.1=q.1∧p.2<q.2)
theorem DU {α:Type} {lt:α→α→Prop} (asym:∀a b,lt a b→¬lt b a):∀{l m:List α},l.Pairwise lt→m.Pairwise lt→(∀u,u∈l↔u∈m)→l=m
 | [],[],_,_,_=>rfl
 | [],y::m,_,_,h=>by have:=(h y).2 (by simp);cases this
 |x::l,[],_,_,h=>by have:=(h x).1 (by simp);cases this
 |x::l,y::m,hl,hm,h=>by
  obtain⟨l1,l2⟩:=List.pairwise_cons.1 hl
  obtain⟨m1,m2⟩:=List.pairwise_cons.1 hm
  have e:x=y:=by
   rcases List.mem_cons.1 ((h x).1 (by simp)) with g|g
   ·exact g
   ·rcases List.mem_cons.1 ((h y).2 (by simp)) with k|k
    ·exact k.symm
    ·exact absurd (l1 y k) (asym _ _ (m1 x g))
  subst e
  have irr:∀a,¬lt a a:=fun a g=>asym a a g g
  rw[DU asym l2 m2 fun u=>⟨fun hu=>by
   rcases List.mem_cons.1 ((h u).1 (by simp[hu])) with g|g
   ·subst g;exact absurd (l1 u hu) (irr u)
   ·exact g,fun hu=>by
   rcases List.mem_cons.1 ((h u).2 (by simp[hu])) with g|g
   ·subst g;exact absurd (m1 u hu) (irr u)
   ·exact g⟩]
theorem Mp (p q:PP) (h:uI p q):¬uI q p:=by
 unfold uI at h ⊢;omega
def oG (x y:Nat):LP:=(List.range x).flatMap fun(i:Nat)=>(List.range y).map fun(j:Nat)=>(((i:Int),(j:Int)):PP)
theorem pJ {x y:Nat} {p:PP}:p∈oG x y↔0≤p.1∧p.1<(x:Int)∧0≤p.2∧p.2<(y:Int):=by
 unfold oG
 rw[List.mem_flatMap]
 constructor
 ·rintro⟨i,hi,h⟩
  obtain⟨j,hj,rfl⟩:=List.mem_map.1 h
  have:=List.mem_range.1 hi
  have:=List.mem_range.1 hj
  show 0≤(i:Int)∧(i:Int)<x∧0≤(j:Int)∧(j:Int)<y
  omega
 ·intro h
  exact⟨p.1.toNat,List.mem_range.2 O,List.mem_map.2 ⟨p.2.toNat,List.mem_range.2 O,Prod.ext (by show((p.1.toNat:Nat):Int)=p.1;omega) (by show((p.2.toNat:Nat):Int)=p.2;omega)⟩⟩
theorem Hu (x y:Nat):(oG x y).Pairwise uI:=by
 unfold oG
 rw[List.pairwise_flatMap]
 refine⟨fun i _=> ?_,?_⟩
 ·rw[List.pairwise_map]
  refine List.pairwise_lt_range.imp fun {a b} h=> .inr ⟨rfl,?_⟩
  show(a:Int)<(b:Int)
  omega
 ·refine List.pairwise_lt_range.imp fun {a b} h p hp q hq=> ?_
  obtain⟨j,_,rfl⟩:=List.mem_map.1 hp
  obtain⟨k,_,rfl⟩:=List.mem_map.1 hq
  refine .inl ?_
  show(a:Int)<(b:Int)
  omega
theorem Av (x y:Nat):(oG x y).length=x*y:=by
 unfold oG
 induction x with
 |zero=>simp
 |succ n ih=>rw[List.range_succ,List.flatMap_append,List.length_append,ih,Nat.succ_mul];simp
def CU {α:Type}:List α→List (List α)
 | []=> [[]]
 |x::l=>CU l++(CU l).map (x:: ·)
theorem IE {α:Type}:∀l:List α,(CU l).length=2^l.length
 | []=>rfl
 |x::l=>by
  show(CU l++(CU l).map _).length=_
  rw[List.length_append,List.length_map,IE l,List.length_cons,Nat.pow_succ];omega
theorem Tq {α:Type} {l m:List α} (h:l.Sublist m):l∈CU m:=by
 induction h with
 |slnil=>exact List.mem_singleton.2 rfl
 |cons x _ ih=>exact List.mem_append.2 (.inl ih)
 |cons_cons x _ ih=>exact List.mem_append.2 (.inr (List.mem_map.2 ⟨_,ih,rfl⟩))
def gA (m:aA) (t:SS) (l:LP):List Int:=(bY t.aC.length).filter fun u=>l.all fun p=>decide (bQ u (bK m p.1.toNat)∈acc t p.2.toNat)
def gN (m:aA) (t:SS) (l:LP) (a:Nat):LP:=(oG m.sT.length t.sT.length).filter fun q=>l.any fun p=>(edg m p.1.toNat).any fun e=>decide (e.1=(a:Int)∧e.2=q.1∧ix (nxt t p.2.toNat) a=q.2)
def gOk (m:aA) (t:SS) (l:LP):Prop:=l.Sublist (oG m.sT.length t.sT.length)
def pk_:LP→List UInt8
 | []=> []
 |p::l=>Lib.itoa p.1++32::(Lib.itoa p.2++32::pk_ l)
def pkB (l:LP):ByteArray:=⟨(pk_ l).toArray⟩
theorem Mq:∀{l r:LP},(∀p∈l,0≤p.1∧0≤p.2)→(∀p∈r,0≤p.1∧0≤p.2)→pk_ l=pk_ r→l=r
 | [],[],_,_,_=>rfl
 | [],q::r,_,_,h=>by simp[pk_] at h
 |p::l,[],_,_,h=>by simp[pk_] at h
 |p::l,q::r,hl,hr,h=>by
  have h:Lib.itoa p.1++32::(Lib.itoa p.2++32::pk_ l)=Lib.itoa q.1++32::(Lib.itoa q.2++32::pk_ r):=h
  have hp:=hl p (by simp)
  have hq:=hr q (by simp)
  obtain⟨e1,k⟩:=Bw (nH hp.1) (nH hq.1) (.inr ⟨_,rfl⟩) (.inr ⟨_,rfl⟩) h
  obtain⟨e2,k2⟩:=Bw (nH hp.2) (nH hq.2) (.inr ⟨_,rfl⟩) (.inr ⟨_,rfl⟩) (List.cons.inj k).2
  rw[Prod.ext (vV hp.1 hq.1 e1) (vV hp.2 hq.2 e2),Mq (fun x hx=>hl x (by simp[hx])) (fun x hx=>hr x (by simp[hx])) (List.cons.inj k2).2]
theorem jP {m:aA} {t:SS} {l:LP} (h:gOk m t l) {p:PP} (hp:p∈l):0≤p.1∧p.1<(m.sT.length:Int)∧0≤p.2∧p.2<(t.sT.length:Int):=pJ.1 (h.subset hp)
theorem yC {m:aA} {t:SS} {l:LP} {u:Int}:u∈gA m t l↔u∈bY t.aC.length∧∀p∈l,bQ u (bK m p.1.toNat)∈acc t p.2.toNat:=by
 unfold gA
 rw[List.mem_filter,List.all_eq_true]
 exact⟨fun h=>⟨h.1,fun p hp=>of_decide_eq_true (h.2 p hp)⟩,fun h=>⟨h.1,fun p hp=>decide_eq_true (h.2 p hp)⟩⟩
theorem Gd {m:aA} {t:SS} {l:LP} {a:Nat} {q:PP}:q∈gN m t l a↔q∈oG m.sT.length t.sT.length∧∃p∈l,∃e∈edg m p.1.toNat,e.1=(a:Int)∧e.2=q.1∧ix (nxt t p.2.toNat) a=q.2:=by
 unfold gN
 rw[List.mem_filter,List.any_eq_true]
 constructor
 ·rintro⟨h,p,hp,g⟩
  obtain⟨e,he,k⟩:=List.any_eq_true.1 g
  exact⟨h,p,hp,e,he,of_decide_eq_true k⟩
 ·rintro⟨h,p,hp,e,he,k⟩
  exact⟨h,p,hp,List.any_eq_true.2 ⟨e,he,decide_eq_true k⟩⟩
theorem wK (m:aA) (t:SS) (l:LP) (a:Nat):gOk m t (gN m t l a):=List.filter_sublist
theorem Aw {m:aA} {t:SS} (ht:oK t):GS (gA m t) (gN m t) (gOk m t) pkB t.aC.length (2^ (m.sT.length*t.sT.length)) where
 inj:=fun p q hp hq h=>Mq (fun x hx=>by have:=jP hp hx;omega) (fun x hx=>by have:=jP hq hx;omega) (Lz h)
 acts:=fun p _ a _=>wK m t p a.toNat
 few:=fun l hn h=>by
  have:=List.Nodup.length_le_of_subset hn (fun p hp=>Tq (h p hp))
  rw[IE,Av] at this;exact this
 hasn:=fun p _ a h=>by
  obtain⟨u,hu,hh⟩:=(dE _ _).1 h
  exact SK (yC.1 hu).1 hh
 n8:=ht.n8
theorem BZ {m:aA} {t:SS} (hm:bA m) (ht:oK t):gOk m t [(0,0)]:=by
 have f1:=hm.few0
 have f2:=ht.few0
 refine List.singleton_sublist.2 (pJ.2 ⟨by simp,by show(0:Int)<_;omega,by simp,by show(0:Int)<_;omega⟩)
noncomputable def gL (m:aA) (t:SS):List LP:=jB (gA m t) (gN m t) (2^ (m.sT.length*t.sT.length)) 0 [[(0,0)]]
noncomputable def gD (m:aA) (t:SS):SS:=⟨t.aC,(gL m t).map (ofL (gA m t) (gN m t) t.aC.length (gL m t))⟩
theorem Ca {m:aA} {t:SS} (hm:bA m) (ht:oK t):qJ (gA m t) (gN m t) (gOk m t) [(0,0)] (gL m t).length (gL m t):=VG (Aw ht) (BZ hm ht)
theorem Mr {m:aA} {t:SS} (hm:bA m) (ht:oK t):pF (gA m t) (gN m t) t.aC.length [(0,0)] (gL m t) (gD m t):=Mf (Aw ht) (Ca hm ht) _
theorem Xx {m:aA} {t:SS} (hm:bA m) (ht:oK t):(gL m t).length≤2^ (m.sT.length*t.sT.length):=(Aw ht).few _ (Ca hm ht).nd (Ca hm ht).ok
structure CV (m:aA) (t:SS) (l:List LP) (D:SS):Prop where
 numb:pF (gA m t) (gN m t) t.aC.length [(0,0)] l D
 ok:∀p∈l,gOk m t p
 acts:D.aC=t.aC
theorem yD {m:aA} {t:SS} (hm:bA m) (ht:oK t):CV m t (gL m t) (gD m t):=⟨Mr hm ht,(Ca hm ht).ok,rfl⟩
theorem IG {n:Nat} (hn:n≤8) {u:Int} (h:u∈bY n):0≤u∧u<256:=by
 have:=wE.1 h
 have h2:2^n≤2^8:=Nat.pow_le_pow_right O hn
 omega
theorem pK {m:aA} {t:SS} (ht:oK t) {l:List LP} {D:SS} (h:CV m t l D) (hl:l.length≤10000):oK D:=
 SH h.numb (by rw[h.acts];exact ht.acts) (by rw[h.acts]) hl (fun p _ u hu=>IG ht.n8 (yC.1 hu).1) (fun p _ a g=>(Aw (m:=m) ht).hasn p (h.ok p aS) a g) (fun p _=>xS ((Me _).filter _))
noncomputable def bC (m:aA) (t:SS):SS × Bool:=if (gL m t).length≤500 then((tR (gD m t)).1,true) else(⟨[],[]⟩,false)
noncomputable def gdS (m:aA) (t:SS):SS × Int:=
 if dA m t=0 then(if (bC m t).2=true then((bC m t).1,0) else(⟨[],[]⟩,2)) else(⟨[],[]⟩,dA m t)
def zF (n:Nat):Bool:=decide (20<n)||decide (500<2^n)
theorem Ms {m:aA} {t:SS} (hm:bA m) (ht:oK t) (h:(bC m t).2=false):zF (m.sT.length*t.sT.length)=true:=by
 unfold bC at h
 split at h
 ·cases h
 ·next g=>
  have:=Xx hm ht
  unfold zF
  rw[decide_eq_true (show 500<2^ (m.sT.length*t.sT.length) by omega),Bool.or_true]
theorem Pm {m:aA} {t D:SS} (hm:bA m) (ht:oK t) {l:List LP} (h:CV m t l D) (hl:l.length≤10000) (hq:(bC m t).2=true):Same (bC m t).1 D:=by
 have hD:=pK ht h hl
 unfold bC at hq ⊢
 split at hq
 ·next g=>
  rw[if_pos g]
  have hok:=pK ht (yD hm ht) O
  have ha:(gD m t).aC=D.aC:=h.acts.symm
  have hr:=OE hok hD ha (Mr hm ht) h.numb
  have hr2:=FJ hok hD ha hr
  refine⟨oZ hok,?_,by rw[qB];exact ha,DJ hok,hr2.1,hr2.2⟩
  have:=Ai hok
  have e2:(gD m t).sT.length=(gL m t).length:=by simp[gD]
  show(tR (gD m t)).1.sT.length≤500
  omega
 ·cases hq
theorem Pn {x:aA} (hx:bA x) {q:Nat} (hq:q<x.sT.length):bK x q∈bY x.aC.length:=by
 rw[wE]
 have h0:=uY hx hq
 refine⟨h0.1,?_⟩
 have hlt:(bK x q).toNat<2^x.aC.length:=by
  refine Nat.lt_pow_two_of_testBit _ fun i hi=> ?_
  cases e:(bK x q).toNat.testBit i with
  |false=>rfl
  |true=>
   obtain⟨d,hd,rfl⟩:=iG.1 (show has (bK x q) (i:Int)=true by unfold has;rw[Int.toNat_natCast];exact e)
   have:=hx.ed q hq d hd
   omega
 omega
theorem Mu {m x:aA} {t D:SS} (hm:bA m) (hx:bA x) (ht:oK t) (hxt:x.aC=t.aC) {L:List LP} (h:CV m t L D):eW x D↔lT m x t:=by
 have hN:=h.numb
 constructor
 ·rintro⟨R,hR,r⟩
  have key:∀{p:T3},lW m x t p→∃i,R p.2.1.toNat i∧(p.1,p.2.2)∈ix L i∧i<L.length:=fun {p} hp=>by
   induction hp with
   |zero=>exact⟨0,r,by rw[hN.hd];exact List.mem_singleton.2 rfl,hN.ne⟩
   |step h1 h2 hd he hde ih=>
    rename_i p d e
    obtain⟨i,hi,hin,hl⟩:=ih
    have hg:=goT hm hx ht (jV hm hx ht h1) h2 hd he hde
    have ha:=hR.acc hi
    rw[hN.acc i hl] at ha
    have hh:has (aZ (gA m t (ix L i))) ((e.1.toNat:Nat):Int)=true:=(dE _ _).2 ⟨_,ha,iG.2 ⟨e,he,rfl⟩⟩
    have han:e.1.toNat<t.aC.length:=by rw[←hde];exact hg.2.2.2.2.2.2
    have hcl:=hN.cl i hl e.1.toNat han hh
    have hn:=(hR.nxt hi (e.1.toNat,e.2.toNat) (List.mem_map.2 ⟨e,he,rfl⟩)).2
    have hn:R e.2.toNat (ix (nxt D i) e.1.toNat).toNat:=hn
    rw[hN.nx i hl _ han,if_pos hh,Int.toNat_natCast] at hn
    have h1e:=hx.ed p.2.1.toNat (by have:=jV hm hx ht h1;omega) e he
    refine⟨_,hn,?_,QuoM.uX hcl⟩
    rw[QuoM.sJ hcl]
    refine Gd.2 ⟨pJ.2 ⟨hg.1,hg.2.1,hg.2.2.2.2.1,hg.2.2.2.2.2.1⟩,(p.1,p.2.2),hin,d,hd,?_,rfl,?_⟩
    ·rw[hde];omega
    ·show ix (nxt t p.2.2.toNat) e.1.toNat=ix (nxt t p.2.2.toNat) d.1.toNat
     rw[hde]
  intro p hp hb
  obtain⟨i,hi,hin,hl⟩:=key hp
  have ha:=hR.acc hi
  rw[hN.acc i hl] at ha
  refine hb ?_
  rw[FitM.tQ]
  exact(yC.1 ha).2 _ hin
 ·intro hw
  have f1:=hx.few0
  have hsat:∀{q i:Nat},(q<x.sT.length∧i<L.length∧∀p∈ix L i,lW m x t (p.1,(q:Int),p.2))→bK x q∈gA m t (ix L i):=fun {q i} ⟨hq,hi,hp⟩=>by
   refine yC.2 ⟨by rw[←hxt];exact Pn hx hq,fun p hpm=> ?_⟩
   have:=hw _ (hp p hpm)
   have:=Classical.not_not.1 this
   rw[FitM.tQ]
   have this:bQ (bK m p.1.toNat) (bK x (q:Int).toNat)∈acc t p.2.toNat:=this
   rw[Int.toNat_natCast] at this
   exact this
  refine⟨fun q i=>q<x.sT.length∧i<L.length∧∀p∈ix L i,lW m x t (p.1,(q:Int),p.2),⟨fun {q i} ⟨_,hi,_⟩=>by rw[hN.len];exact hi,fun {q i} hp=>by rw[hN.acc i hp.2.1];exact hsat hp,fun {q i} hp d hd=> ?_,fun {q i} hp d hd=> ?_⟩,O,hN.ne,fun p hp=> ?_⟩
  ·obtain⟨e,he,rfl⟩:=List.mem_map.1 hd
   have:=hx.ed q hp.1 e he
   rw[hN.nl i hp.2.1,←hxt]
   show e.1.toNat<_
   omega
  ·obtain⟨e,he,rfl⟩:=List.mem_map.1 hd
   have h1:=hx.ed q hp.1 e he
   have ha:=hsat hp
   have hh:has (aZ (gA m t (ix L i))) ((e.1.toNat:Nat):Int)=true:=(dE _ _).2 ⟨_,ha,iG.2 ⟨e,he,rfl⟩⟩
   have han:e.1.toNat<t.aC.length:=by rw[←hxt];omega
   have hcl:=hN.cl i hp.2.1 e.1.toNat han hh
   have hnx:=hN.nx i hp.2.1 _ han
   rw[if_pos hh] at hnx
   show 0≤ix (nxt D i) e.1.toNat∧(e.2.toNat<x.sT.length∧(ix (nxt D i) e.1.toNat).toNat<L.length∧∀p∈ix L (ix (nxt D i) e.1.toNat).toNat,lW m x t (p.1,((e.2.toNat:Nat):Int),p.2))
   rw[hnx,Int.toNat_natCast]
   refine⟨O,O,QuoM.uX hcl,fun p' hp'=> ?_⟩
   rw[QuoM.sJ hcl] at hp'
   obtain⟨_,p,hpm,d,hd2,e1,e2,e3⟩:=Gd.1 hp'
   have hr:=hp.2.2 p hpm
   have:=lW.step (e:=e) hr (hw _ hr) hd2 (by show e∈edg x (q:Int).toNat;rw[Int.toNat_natCast];exact he) (by rw[e1];omega)
   have e4:(d.2,e.2,ix (nxt t p.2.toNat) d.1.toNat)=((p'.1,((e.2.toNat:Nat):Int),p'.2):T3):=by
    rw[e2,show d.1.toNat=e.1.toNat by omega,e3]
    refine Prod.ext rfl (Prod.ext ?_ rfl)
    show e.2=((e.2.toNat:Nat):Int)
    omega
   rw[←e4];exact this
  ·rw[hN.hd] at hp
   rw[List.mem_singleton.1 hp]
   exact .zero
end GuardM
end
section
namespace MakeM
open ref01 ref03 ref04 ref06 Part Rungs LeftM TrimM RoundM MergeM BisM BisM4 BisM5 BisM6 Keys WalkM WitM JudgM JudgM2 LevM divr divs divd dive divf divv judg sysw satj ChsM BisS TrimI QuoM FailM DivM RefM GenW CompM FitM TogM KeepK GuardM
structure BisY (m n:aA) (R:Nat→Nat→Prop):Prop where
 fw:∀{x y},R x y→∀e∈edg m x,∃d∈edg n y,d.1=e.1∧R e.2.toNat d.2.toNat
 bw:∀{x y},R x y→∀d∈edg n y,∃e∈edg m x,e.1=d.1∧R e.2.toNat d.2.toNat
theorem BisY.symm {m n:aA} {R:Nat→Nat→Prop} (h:BisY m n R):BisY n m (fun y x=>R x y):=
 ⟨fun g d hd=>h.bw g d hd,fun g e he=>h.fw g e he⟩
theorem Tr {l r:List PP} (h1:∀e∈l,∃d∈r,d.1=e.1) (h2:∀d∈r,∃e∈l,e.1=d.1):dI l=dI r:=by
 have key:∀a:Nat,has (dI l) (a:Int)=has (dI r) (a:Int):=fun a=>by
  rw[Bool.eq_iff_iff,iG,iG]
  exact⟨fun⟨e,he,g⟩=>by obtain⟨d,hd,k⟩:=h1 e he;exact⟨d,hd,by rw[k];exact g⟩,fun⟨d,hd,g⟩=>by obtain⟨e,he,k⟩:=h2 d hd;exact⟨e,he,by rw[k];exact g⟩⟩
 have n1:0≤dI l:=oT _
 have n2:0≤dI r:=oT _
 have:(dI l).toNat=(dI r).toNat:=by
  apply Nat.eq_of_testBit_eq
  intro i
  have:=key i
  unfold has at this
  rwa [Int.toNat_natCast] at this
 omega
theorem Po {m n:aA} {R:Nat→Nat→Prop} (h:BisY m n R) {x y:Nat} (g:R x y):bK m x=bK n y:=
 Tr (fun e he=>by obtain⟨d,hd,k,_⟩:=h.fw g e he;exact⟨d,hd,k⟩) (fun d hd=>by obtain⟨e,he,k,_⟩:=h.bw g d hd;exact⟨e,he,k⟩)
theorem Ge {m n:aA} {s:SS} {R:Nat→Nat→Prop} (h:BisY m n R) (h0:R 0 0) (hs:eW m s):eW n s:=by
 obtain⟨Q,hQ,q0⟩:=hs
 refine⟨fun y z=> ∃x,R x y∧Q x z,⟨fun⟨x,_,q⟩=>hQ.bd q,fun {y z} ⟨x,g,q⟩=>by rw[←Po h g];exact hQ.acc q,fun {y z} ⟨x,g,q⟩ e he=> ?_,fun {y z} ⟨x,g,q⟩ e he=> ?_⟩,0,h0,q0⟩
 ·obtain⟨d,hd,rfl⟩:=List.mem_map.1 he
  obtain⟨e,he2,k,_⟩:=h.bw g d hd
  have:=hQ.len q (e.1.toNat,e.2.toNat) (List.mem_map.2 ⟨e,he2,rfl⟩)
  show d.1.toNat<_
  rw[←k];exact this
 ·obtain⟨d,hd,rfl⟩:=List.mem_map.1 he
  obtain⟨e,he2,k,r⟩:=h.bw g d hd
  have:=hQ.nxt q (e.1.toNat,e.2.toNat) (List.mem_map.2 ⟨e,he2,rfl⟩)
  show 0≤ix (nxt s z) d.1.toNat∧∃x,R x d.2.toNat∧Q x (ix (nxt s z) d.1.toNat).toNat
  rw[←k]
  exact⟨this.1,e.2.toNat,r,this.2⟩
def mkE (n:Nat) (u:Int) (nx:List Int):List PP:=(aK n u).map fun a=>(a,ix nx a.toNat)
def mkM (ch:Nat→Int) (s:SS):aA:=⟨s.aC,(List.range s.sT.length).map fun y=>mkE s.aC.length (ch y) (nxt s y)⟩
theorem vB {ch:Nat→Int} {s:SS} {y:Nat} (hy:y<s.sT.length):edg (mkM ch s) y=mkE s.aC.length (ch y) (nxt s y):=by
 show ix ((List.range s.sT.length).map _) y=_
 exact bS hy
theorem CW {n:Nat} {u:Int} {nx:List Int} {e:PP}:e∈mkE n u nx↔∃a:Nat,a<n∧has u (a:Int)=true∧e=((a:Int),ix nx a):=by
 unfold mkE
 rw[List.mem_map]
 constructor
 ·rintro⟨x,hx,rfl⟩
  obtain⟨a,rfl,ha,hh⟩:=eP.1 hx
  exact⟨a,ha,hh,by rw[Int.toNat_natCast]⟩
 ·rintro⟨a,ha,hh,rfl⟩
  exact⟨(a:Int),eP.2 ⟨a,rfl,ha,hh⟩,by rw[Int.toNat_natCast]⟩
section
variable {s:SS} (hs:oK s) {ch:Nat→Int} (hc:∀y,y<s.sT.length→ch y∈acc s y)
include hs hc
theorem Tt {y:Nat} (hy:y<s.sT.length):bK (mkM ch s) y=ch y:=by
 have hin:=hc y hy
 have hb:=CompM.xN hs hy _ hin
 have n1:0≤bK (mkM ch s) y:=oT _
 have key:∀a:Nat,has (bK (mkM ch s) y) (a:Int)=has (ch y) (a:Int):=fun a=>by
  rw[Bool.eq_iff_iff,iG,vB hy]
  constructor
  ·rintro⟨e,he,g⟩
   obtain⟨b,hb,hh,rfl⟩:=CW.1 he
   have g:(b:Int).toNat=a:=g
   rw[Int.toNat_natCast] at g
   rw[←g];exact hh
  ·intro hh
   have:=(tP hs hy ((dE _ _).2 ⟨_,hin,hh⟩)).1
   exact⟨_,CW.2 ⟨a,this,hh,rfl⟩,by show((a:Int)).toNat=a;rw[Int.toNat_natCast]⟩
 have:(bK (mkM ch s) y).toNat=(ch y).toNat:=by
  apply Nat.eq_of_testBit_eq
  intro i
  have:=key i
  unfold has at this
  rwa [Int.toNat_natCast] at this
 omega
theorem Gf {y:Nat} (hy:y<s.sT.length) {e:PP} (he:e∈edg (mkM ch s) y):e.1.toNat<s.aC.length∧0≤e.1∧e.2=ix (nxt s y) e.1.toNat∧0≤e.2∧e.2<(s.sT.length:Int):=by
 rw[vB hy] at he
 obtain⟨a,ha,hh,rfl⟩:=CW.1 he
 have:=tP hs hy ((dE _ _).2 ⟨_,hc y hy,hh⟩)
 show((a:Int)).toNat<_∧0≤(a:Int)∧ix (nxt s y) a=ix (nxt s y) (a:Int).toNat∧0≤ix (nxt s y) a∧ix (nxt s y) a<_
 rw[Int.toNat_natCast]
 exact⟨ha,Int.natCast_nonneg _,rfl,this.2.1,this.2.2⟩
theorem II:eW (mkM ch s) s:=by
 have f0:=hs.few0
 refine⟨fun x y=>x=y∧y<s.sT.length,⟨fun h=>h.2,fun {x y} ⟨e,hy⟩=>by subst e;rw[Tt hs hc hy];exact hc _ hy,fun {x y} ⟨e,hy⟩ d hd=> ?_,fun {x y} ⟨e,hy⟩ d hd=> ?_⟩,rfl,O⟩
 ·subst e
  obtain⟨e,he,rfl⟩:=List.mem_map.1 hd
  have:=Gf hs hc hy he
  have hl:(nxt s x).length=s.aC.length:=(hs.st x hy).len
  rw[hl];exact this.1
 ·subst e
  obtain⟨e,he,rfl⟩:=List.mem_map.1 hd
  obtain⟨h1,h2,h3,h4,h5⟩:=Gf hs hc hy he
  show 0≤ix (nxt s x) e.1.toNat∧(e.2.toNat=(ix (nxt s x) e.1.toNat).toNat∧(ix (nxt s x) e.1.toNat).toNat<s.sT.length)
  rw[←h3]
  exact⟨h4,rfl,O⟩
theorem vC:bA (mkM ch s):=by
 have f0:=hs.few0
 have f1:=hs.few1
 have e:(mkM ch s).sT.length=s.sT.length:=by simp[mkM]
 refine⟨hs.acts,hs.n8,by rw[e];exact f0,by rw[e];exact f1,fun x hx d hd=> ?_,fun x hx=> ?_⟩
 ·rw[e] at hx ⊢
  obtain⟨h1,h2,h3,h4,h5⟩:=Gf hs hc hx hd
  exact⟨h2,by show d.1<(s.aC.length:Int);omega,h4,h5⟩
 ·rw[e] at hx
  rw[vB hx]
  show((aK s.aC.length (ch x)).map _).length≤400000
  rw[List.length_map]
  have h1:(aK s.aC.length (ch x)).length≤s.aC.length:=by
   unfold aK
   first
     |(refine Nat.le_trans (List.length_filterMap_le _ _) ?_;simp)
     |(rw[List.length_map];exact Nat.le_trans (List.length_filter_le _ _) (by simp))
     |(exact Nat.le_trans (List.length_filter_le _ _) (by simp))
  have:=hs.n8
  omega
end
end MakeM
end
section
namespace LsysM
open ref01 ref03 ref04 ref06 Part Rungs LeftM TrimM RoundM MergeM BisM BisM3 BisM4 BisM5 BisM6 Keys WalkM WitM JudgM JudgM2 LevM divr divs divd dive divf divv judg sysw satj ChsM BisS TrimI QuoM FailM DivM RefM GenW CompM CrossM FitM TogM KeepK GuardM MakeM
theorem iH {α:Type} [Inhabited α] {zs:List α} {i:Nat} (hi:i<zs.length):zs.toArray[i]! =ix zs i:=by
 rw[aD hi,getElem!_pos _ i (by simpa using hi)];simp
theorem DV {α:Type} [Inhabited α] [DecidableEq α] {zs:List α} {x:α}:x∈Lib.compact zs↔x∈zs:=by
 unfold Lib.compact Lib.compactUpTo
 rw[List.mem_map]
 constructor
 ·rintro⟨i,hi,rfl⟩
  have hi':i<zs.length:=List.mem_range.1 (List.mem_filter.1 hi).1
  rw[iH hi'];exact aQ hi'
 ·intro hx
  obtain⟨i,hi,rfl⟩:=List.getElem_of_mem hx
  have key:∀i,i<zs.length→∃j,j∈(List.range zs.length).filter (Lib.keeps zs.toArray)∧ix zs j=ix zs i:=by
   intro i
   induction i with
   |zero=>intro hi;exact⟨0,List.mem_filter.2 ⟨List.mem_range.2 hi,by simp[Lib.keeps]⟩,rfl⟩
   |succ i ih=>
    intro hi
    by_cases e:ix zs (i+1)=ix zs i
    ·obtain⟨j,h1,h2⟩:=ih O
     exact⟨j,h1,h2.trans e.symm⟩
    ·refine⟨i+1,List.mem_filter.2 ⟨List.mem_range.2 hi,?_⟩,rfl⟩
     refine Lib.keeps_pos ?_
     rw[iH hi,show i+1- 1=i from rfl,iH O];exact e
  obtain⟨j,h1,h2⟩:=key i hi
  refine⟨j,h1,?_⟩
  rw[iH (List.mem_range.1 (List.mem_filter.1 h1).1),h2,aD hi]
theorem DW {α:Type} [Inhabited α] [DecidableEq α] (zs:List α):(Lib.compact zs).length≤zs.length:=by
 unfold Lib.compact Lib.compactUpTo
 rw[List.length_map]
 exact Nat.le_trans (List.length_filter_le _ _) (by simp)
theorem Cb {zs:List PP} (h:zs.Pairwise (fun p q=>p.1<q.1∨(p.1=q.1∧p.2≤q.2))):(Lib.compact zs).Pairwise uI:=by
 have hs:∀i j,i≤j→j<zs.length→(ix zs i).1<(ix zs j).1∨((ix zs i).1=(ix zs j).1∧(ix zs i).2≤(ix zs j).2):=fun i j hij hj=>by
  rcases Nat.lt_or_ge i j with g|g
  ·rw[aD O,aD hj]
   exact List.pairwise_iff_getElem.1 h i j O hj g
  ·have:i=j:=by omega
   subst this;exact .inr ⟨rfl,Int.le_refl _⟩
 unfold Lib.compact Lib.compactUpTo
 rw[List.pairwise_map]
 refine List.Pairwise.imp_of_mem (R:=(· < ·)) (fun {i j} hi hj hij=> ?_) (List.pairwise_lt_range.filter _)
 obtain⟨hi1,_⟩:=List.mem_filter.1 hi
 obtain⟨hj1,hj2⟩:=List.mem_filter.1 hj
 have hi1:=List.mem_range.1 hi1
 have hj1:=List.mem_range.1 hj1
 have hne:ix zs j≠ix zs (j- 1):=by
  unfold Lib.keeps at hj2
  have:=of_decide_eq_true hj2
  rcases this with g|g
  ·omega
  ·rwa [iH hj1,iH O] at g
 rw[iH hi1,iH hj1]
 have h1:=hs i (j- 1) O O
 have h2:=hs (j- 1) j O hj1
 have h3:¬((ix zs j).1=(ix zs (j- 1)).1∧(ix zs j).2=(ix zs (j- 1)).2):=fun g=>hne (Prod.ext g.1 g.2)
 unfold uI
 omega
def fS (m:aA) (x:Int):List Int:=(edg m x.toNat).map Prod.snd
def bqY (m:aA):Nat→List Int
 |0=> [0]
 |i+1=>if i<(bqY m i).length then visit (bqY m i) (fS m (ix (bqY m i) i)) else bqY m i
def aY (m:aA):List Int:=bqY m m.sT.length
structure QY (m:aA) (i:Nat) (l:List Int):Prop where
 nd:l.Nodup
 bd:∀x∈l,0≤x∧x<(m.sT.length:Int)
 ne:0<l.length
 hd:ix l 0=0
 dn:∀j,j<i→j<l.length→∀e∈edg m (ix l j).toNat,e.2∈l
 rch:∀x∈l,Au m x.toNat
theorem Cc {n:Nat} {l:List Int} (hn:l.Nodup) (hb:∀x∈l,0≤x∧x<(n:Int)):l.length≤n:=by
 have h:=List.Nodup.length_le_of_subset (l₂:=(List.range n).map fun(k:Nat)=>(k:Int)) hn (fun x hx=>by
  have:=hb x hx
  exact List.mem_map.2 ⟨x.toNat,List.mem_range.2 O,O⟩)
 simpa using h
theorem Tu {m:aA} (hm:bA m):QY m 0 [0]:=by
 have f:=hm.few0
 exact⟨by simp,fun x hx=>by rw[List.mem_singleton.1 hx];omega,by simp,rfl,fun j hj=>absurd hj O,fun x hx=>by rw[List.mem_singleton.1 hx];exact .zero⟩
theorem Tv {m:aA} (hm:bA m) {i:Nat} {l:List Int} (h:QY m i l) (hi:i<l.length):QY m (i+1) (visit l (fS m (ix l i))):=by
 have hp:=fZ (fS m (ix l i)) l
 have hle:=hp.length_le
 have hne:=h.ne
 have hbi:=h.bd _ (aQ hi)
 have hed:∀y∈fS m (ix l i),∃e∈edg m (ix l i).toNat,e.2=y:=fun y hy=>by
  obtain⟨e,he,rfl⟩:=List.mem_map.1 hy
  exact⟨e,he,rfl⟩
 have hnn:∀e∈edg m (ix l i).toNat,0≤e.2∧e.2<(m.sT.length:Int):=fun e he=>by have:=hm.ed _ O e he;omega
 refine⟨uD _ _ h.nd,fun x hx=> ?_,O,(lB hp hne).trans h.hd,fun j hj hjl e he=> ?_,fun x hx=> ?_⟩
 ·rcases tH _ _ hx with g|g
  ·exact h.bd x g
  ·obtain⟨e,he,rfl⟩:=hed x g
   exact hnn e he
 ·by_cases c:j=i
  ·subst c
   rw[lB hp hi] at he
   exact tL (hnn e he).1 _ _ (List.mem_map.2 ⟨e,he,rfl⟩)
  ·have hjl2:j<l.length:=by omega
   rw[lB hp hjl2] at he
   exact hp.subset (h.dn j O hjl2 e he)
 ·rcases tH _ _ hx with g|g
  ·exact h.rch x g
  ·obtain⟨e,he,rfl⟩:=hed x g
   exact .step (h.rch _ (aQ hi)) he
theorem sM {m:aA} (hm:bA m):∀i,QY m i (bqY m i)
 |0=>Tu hm
 |i+1=>by
  have ih:=sM hm i
  show QY m (i+1) (if i<(bqY m i).length then visit (bqY m i) (fS m (ix (bqY m i) i)) else bqY m i)
  by_cases c:i<(bqY m i).length
  ·rw[if_pos c];exact Tv hm ih c
  ·rw[if_neg c]
   exact { ih with dn:=fun j hj hjl=>ih.dn j O hjl }
theorem kD {m:aA} (hm:bA m):QY m m.sT.length (aY m):=sM hm _
theorem nL {m:aA} (hm:bA m):(aY m).length≤m.sT.length:=Cc (kD hm).nd (kD hm).bd
theorem mH {m:aA} (hm:bA m) {i:Nat} (hi:i<(aY m).length) {e:PP} (he:e∈edg m (ix (aY m) i).toNat):e.2∈aY m:=by
 have:=nL hm
 exact(kD hm).dn i O hi e he
def uJ (l:List Int) (es:List PP):List PP:=cG (es.map fun e=>(e.1,dV l e.2))
def aH (m:aA):aA:=⟨m.aC,(aY m).map fun x=>uJ (aY m) (edg m x.toNat)⟩
theorem lG (m:aA):(aH m).sT.length=(aY m).length:=by simp[aH]
theorem vD {m:aA} {i:Nat} (hi:i<(aY m).length):edg (aH m) i=uJ (aY m) (edg m (ix (aY m) i).toNat):=CE hi
theorem Ay {l:List Int} {es:List PP} {d:PP}:d∈uJ l es↔∃e∈es,d=(e.1,dV l e.2):=by
 unfold uJ
 rw[(fJ _).mem_iff,List.mem_map]
 exact⟨fun⟨e,he,g⟩=>⟨e,he,g.symm⟩,fun⟨e,he,g⟩=>⟨e,he,g.symm⟩⟩
theorem Tw {m:aA} (hm:bA m):BisY (aH m) m (fun i x=>i<(aY m).length∧x=(ix (aY m) i).toNat):=by
 refine⟨fun {i x} ⟨hi,hx⟩ d hd=> ?_,fun {i x} ⟨hi,hx⟩ e he=> ?_⟩
 ·subst hx
  rw[vD hi] at hd
  obtain⟨e,he,rfl⟩:=Ay.1 hd
  obtain⟨p1,p2⟩:=kG (mH hm hi he)
  have p0:=(gW (aY m) e.2).1
  exact⟨e,he,rfl,by show(dV (aY m) e.2).toNat<_;omega,by show e.2.toNat=(ix (aY m) (dV (aY m) e.2).toNat).toNat;rw[p2]⟩
 ·subst hx
  obtain⟨p1,p2⟩:=kG (mH hm hi he)
  have p0:=(gW (aY m) e.2).1
  refine⟨(e.1,dV (aY m) e.2),by rw[vD hi];exact Ay.2 ⟨e,he,rfl⟩,rfl,by show(dV (aY m) e.2).toNat<_;omega,by show e.2.toNat=(ix (aY m) (dV (aY m) e.2).toNat).toNat;rw[p2]⟩
theorem qC {m:aA} (hm:bA m):bA (aH m):=by
 have hq:=kD hm
 have hl:=nL hm
 have f1:=hm.few1
 refine⟨hm.acts,hm.n8,by rw[lG];exact hq.ne,by rw[lG];omega,fun i hi d hd=> ?_,fun i hi=> ?_⟩
 ·rw[lG] at hi ⊢
  rw[vD hi] at hd
  obtain⟨e,he,rfl⟩:=Ay.1 hd
  have hb:=hq.bd _ (aQ hi)
  have:=hm.ed _ O e he
  obtain⟨p1,p2⟩:=kG (mH hm hi he)
  exact⟨this.1,this.2.1,(gW (aY m) e.2).1,p1⟩
 ·rw[lG] at hi
  rw[vD hi]
  unfold uJ
  rw[(fJ _).length_eq,List.length_map]
  have hb:=hq.bd _ (aQ hi)
  exact hm.many _ O
def pL (n:Nat) (cl:List Int) (es:List PP):List Int:=Lib.compact (fE (es.map fun e=>e.1*((n:Int)+1)+ix cl e.2.toNat))
theorem jW {n:Nat} {cl:List Int} {es:List PP} {v:Int}:v∈pL n cl es↔∃e∈es,v=e.1*((n:Int)+1)+ix cl e.2.toNat:=by
 unfold pL
 rw[OO]
 unfold fE
 rw[(List.mergeSort_perm _ _).mem_iff,List.mem_map]
 exact⟨fun⟨e,he,g⟩=>⟨e,he,g.symm⟩,fun⟨e,he,g⟩=>⟨e,he,g.symm⟩⟩
theorem DX (n:Nat) (cl:List Int) (es:List PP):(pL n cl es).Pairwise (· < ·):=Mh (VL _)
abbrev KY:=Int × List Int
def eK (m:aA) (cl:List Int) (x:Nat):KY:=(ix cl x,pL cl.length cl (edg m x))
def dF (m:aA) (cl:List Int):List KY:=(List.range m.sT.length).map (eK m cl)
def gY (ks:List KY):List KY:=ks.foldl dL []
def eI (m:aA) (cl:List Int):List Int:=(dF m cl).map fun k=>(pxa (gY (dF m cl)) k:Int)
def gQ (m:aA) (cl:List Int):Nat:=(gY (dF m cl)).length
theorem IJ:∀(ks l:List KY) {k:KY},k∈ks.foldl dL l↔k∈l∨k∈ks
 | [],l,k=>by simp
 |x::ks,l,k=>by
  rw[List.foldl_cons,IJ ks]
  constructor
  ·rintro(h|h)
   ·rcases CK h with g|g
    ·exact .inl g
    ·exact .inr (by rw[g];simp)
   ·exact .inr (List.mem_cons_of_mem _ h)
  ·rintro(h|h)
   ·exact .inl ((pS l x).subset h)
   ·rcases List.mem_cons.1 h with g|g
    ·exact .inl (by rw[g];exact wD l x)
    ·exact .inr g
theorem Mv:∀(ks l:List KY),l.Nodup→(ks.foldl dL l).Nodup
 | [],l,h=>h
 |x::ks,l,h=>Mv ks _ (zC h)
theorem lH {ks:List KY} {k:KY}:k∈gY ks↔k∈ks:=by unfold gY;rw[IJ];simp
theorem CX (ks:List KY):(gY ks).Nodup:=Mv ks [] (by simp)
theorem rK {m:aA} {cl:List Int} {x:Nat} (hx:x<m.sT.length):eK m cl x∈dF m cl:=List.mem_map.2 ⟨x,List.mem_range.2 hx,rfl⟩
theorem wF (m:aA) (cl:List Int):(eI m cl).length=m.sT.length:=by simp[eI,dF]
theorem vF {m:aA} {cl:List Int} {x:Nat} (hx:x<m.sT.length):ix (eI m cl) x=(pxa (gY (dF m cl)) (eK m cl x):Int):=by
 unfold eI
 rw[CE (by simpa [dF] using hx)]
 unfold dF
 rw[bS hx]
theorem zG {m:aA} {cl:List Int} {x y:Nat} (hx:x<m.sT.length) (hy:y<m.sT.length):ix (eI m cl) x=ix (eI m cl) y↔eK m cl x=eK m cl y:=by
 rw[vF hx,vF hy]
 constructor
 ·intro h
  have h:pxa (gY (dF m cl)) (eK m cl x)=pxa (gY (dF m cl)) (eK m cl y):=by omega
  have e1:=QuoM.sJ (lH.2 (rK (cl:=cl) hx))
  have e2:=QuoM.sJ (lH.2 (rK (cl:=cl) hy))
  have e1:ix (gY (dF m cl)) (pxa (gY (dF m cl)) (eK m cl x))=eK m cl x:=e1
  rw[h] at e1
  exact e1.symm.trans e2
 ·intro h;rw[h]
structure Lab (n k:Nat) (cl:List Int):Prop where
 len:cl.length=n
 bd:∀x,x<n→0≤ix cl x∧ix cl x<(k:Int)
 on:∀c:Nat,c<k→∃x,x<n∧ix cl x=(c:Int)
theorem Az (m:aA) (cl:List Int):Lab m.sT.length (gQ m cl) (eI m cl):=by
 refine⟨wF m cl,fun x hx=> ?_,fun c hc=> ?_⟩
 ·rw[vF hx]
  have:pxa (gY (dF m cl)) (eK m cl x)<(gY (dF m cl)).length:=QuoM.uX (lH.2 (rK hx))
  unfold gQ
  omega
 ·have hin:ix (gY (dF m cl)) c∈dF m cl:=lH.1 (aQ hc)
  obtain⟨x,hx,e⟩:=List.mem_map.1 hin
  have hx:=List.mem_range.1 hx
  refine⟨x,hx,?_⟩
  rw[vF hx,e]
  have hc:c<(gY (dF m cl)).length:=hc
  have h1:pxa (gY (dF m cl)) (ix (gY (dF m cl)) c)≤c:=QuoM.FM hc rfl
  have h2:=QuoM.sJ (aQ hc)
  have h2:ix (gY (dF m cl)) (pxa (gY (dF m cl)) (ix (gY (dF m cl)) c))=ix (gY (dF m cl)) c:=h2
  generalize pxa (gY (dF m cl)) (ix (gY (dF m cl)) c)=j at h1 h2 ⊢
  rcases Nat.lt_or_ge j c with g|g
  ·exfalso
   rw[aD O,aD hc] at h2
   exact(List.pairwise_iff_getElem.1 (CX (dF m cl)) _ _ O hc g) h2
  ·omega
theorem Cd {m:aA} {k:Nat} {cl:List Int} (h:Lab m.sT.length k cl) (hk:gQ m cl≤k) {x y:Nat} (hx:x<m.sT.length) (hy:y<m.sT.length) (e:ix cl x=ix cl y):ix (eI m cl) x=ix (eI m cl) y:=by
 rw[zG hx hy]
 refine Classical.byContradiction fun hne=> ?_
 have hD:=CX (dF m cl)
 have m1:=lH.2 (rK (cl:=cl) hx)
 have m2:=lH.2 (rK (cl:=cl) hy)
 have hcov:∀c∈(List.range k).map (fun(c:Nat)=>(c:Int)),c∈((gY (dF m cl)).erase (eK m cl y)).map Prod.fst:=fun v hv=>by
  obtain⟨c,hc,hcv⟩:=List.mem_map.1 hv
  subst hcv
  obtain⟨z,hz,ez⟩:=h.on c (List.mem_range.1 hc)
  have m3:=lH.2 (rK (cl:=cl) hz)
  by_cases g:eK m cl z=eK m cl y
  ·refine List.mem_map.2 ⟨eK m cl x,(List.Nodup.mem_erase_iff hD).2 ⟨hne,m1⟩,?_⟩
   have:ix cl z=ix cl y:=congrArg Prod.fst g
   show ix cl x=(c:Int)
   rw[e,←this,ez]
  ·exact List.mem_map.2 ⟨eK m cl z,(List.Nodup.mem_erase_iff hD).2 ⟨g,m3⟩,ez⟩
 have hn:((List.range k).map (fun(c:Nat)=>(c:Int))).Nodup:=by
  rw[List.nodup_iff_pairwise_ne,List.pairwise_map]
  exact List.pairwise_lt_range.imp fun h=>by omega
 have:=List.Nodup.length_le_of_subset hn hcov
 rw[List.length_map,List.length_map,List.length_range,List.length_erase_of_mem m2] at this
 have hp:0<(gY (dF m cl)).length:=List.length_pos_of_mem m2
 unfold gQ at hk
 omega
theorem CY {m:aA} (hm:bA m) {k:Nat} {cl:List Int} (h:Lab m.sT.length k cl) (hkn:k≤m.sT.length) {x y:Nat} (hx:x<m.sT.length) (hy:y<m.sT.length):
 eK m cl x=eK m cl y↔ix cl x=ix cl y∧(∀e∈edg m x,∃d∈edg m y,d.1=e.1∧ix cl d.2.toNat=ix cl e.2.toNat)∧(∀d∈edg m y,∃e∈edg m x,e.1=d.1∧ix cl e.2.toNat=ix cl d.2.toNat):=by
 have hb:∀{z:Nat},z<m.sT.length→∀e∈edg m z,0≤ix cl e.2.toNat∧ix cl e.2.toNat<(cl.length:Int)+1:=fun {z} hz e he=>by
  have g:=hm.ed z hz e he
  have:=h.bd e.2.toNat O
  rw[h.len]
  omega
 have inj:∀{a b c d n:Int},0≤b→b<n→0≤d→d<n→a*n+b=c*n+d→a=c∧b=d:=fun {a b c d n} h1 h2 h3 h4 he=>by
  have hn:0<n:=by omega
  have e1:(a*n+b)/n=a:=by
   rw[Int.add_comm,Int.add_mul_ediv_right _ _ O,Int.ediv_eq_zero_of_lt h1 h2];omega
  have e2:(c*n+d)/n=c:=by
   rw[Int.add_comm,Int.add_mul_ediv_right _ _ O,Int.ediv_eq_zero_of_lt h3 h4];omega
  rw[he] at e1
  have:a=c:=by omega
  subst this
  exact⟨rfl,O⟩
 unfold eK
 rw[Prod.mk.injEq]
 constructor
 ·rintro⟨h1,h2⟩
  refine⟨h1,fun e he=> ?_,fun d hd=> ?_⟩
  ·have:e.1*((cl.length:Int)+1)+ix cl e.2.toNat∈pL cl.length cl (edg m y):=by rw[←h2];exact jW.2 ⟨e,he,rfl⟩
   obtain⟨d,hd,g⟩:=jW.1 this
   obtain⟨g1,g2⟩:=inj (hb hx e he).1 (hb hx e he).2 (hb hy d hd).1 (hb hy d hd).2 g
   exact⟨d,hd,g1.symm,g2.symm⟩
  ·have:d.1*((cl.length:Int)+1)+ix cl d.2.toNat∈pL cl.length cl (edg m x):=by rw[h2];exact jW.2 ⟨d,hd,rfl⟩
   obtain⟨e,he,g⟩:=jW.1 this
   obtain⟨g1,g2⟩:=inj (hb hy d hd).1 (hb hy d hd).2 (hb hx e he).1 (hb hx e he).2 g
   exact⟨e,he,g1.symm,g2.symm⟩
 ·rintro⟨h1,h2,h3⟩
  refine⟨h1,BC (DX _ _ _) (DX _ _ _) fun v=>⟨fun hv=> ?_,fun hv=> ?_⟩⟩
  ·obtain⟨e,he,rfl⟩:=jW.1 hv
   obtain⟨d,hd,g1,g2⟩:=h2 e he
   exact jW.2 ⟨d,hd,by rw[g1,g2]⟩
  ·obtain⟨d,hd,rfl⟩:=jW.1 hv
   obtain⟨e,he,g1,g2⟩:=h3 d hd
   exact jW.2 ⟨e,he,by rw[g1,g2]⟩
end LsysM
end
section
namespace LsysM2
open ref01 ref03 ref04 ref06 Part Rungs LeftM TrimM RoundM MergeM BisM BisM3 BisM4 BisM5 BisM6 Keys WalkM WitM JudgM JudgM2 LevM divr divs divd dive divf divv judg sysw satj ChsM BisS TrimI QuoM FailM DivM RefM GenW CompM CrossM FitM TogM KeepK GuardM MakeM LsysM
theorem CZ (m:aA) (cl:List Int):gQ m cl≤m.sT.length:=by
 have h:=List.Nodup.length_le_of_subset (CX (dF m cl)) (fun k hk=>lH.1 hk)
 unfold dF at h
 rw[List.length_map,List.length_range] at h
 exact h
def wL (m:aA):Nat→Nat→List Int→List Int
 |0,_,cl=>cl
 |f+1,k,cl=>if k<gQ m cl then wL m f (gQ m cl) (eI m cl) else eI m cl
def yE (m:aA) (cl:List Int):Prop:=∀R,BisY m m R→∀x y,x<m.sT.length→y<m.sT.length→R x y→ix cl x=ix cl y
theorem zP {m:aA} (hm:bA m) {k:Nat} {cl:List Int} (h:Lab m.sT.length k cl) (hk:k≤m.sT.length) (hc:yE m cl):yE m (eI m cl):=fun R hR x y hx hy r=>by
 rw[zG hx hy,CY hm h hk hx hy]
 refine⟨hc R hR x y hx hy r,fun e he=> ?_,fun d hd=> ?_⟩
 ·obtain⟨d,hd,g,r2⟩:=hR.fw r e he
  have b1:=hm.ed x hx e he
  have b2:=hm.ed y hy d hd
  exact⟨d,hd,g,(hc R hR _ _ O O r2).symm⟩
 ·obtain⟨e,he,g,r2⟩:=hR.bw r d hd
  have b1:=hm.ed x hx e he
  have b2:=hm.ed y hy d hd
  exact⟨e,he,g,hc R hR _ _ O O r2⟩
structure pT (m:aA) (k:Nat) (nx:List Int):Prop where
 lab:Lab m.sT.length k nx
 few:k≤m.sT.length
 bis:BisY m m (fun x y=>x<m.sT.length∧y<m.sT.length∧ix nx x=ix nx y)
 co:yE m nx
theorem Tx {m:aA} (hm:bA m) {k:Nat} {cl:List Int} (h:Lab m.sT.length k cl) (hk:k≤m.sT.length) (hc:yE m cl) (hs:gQ m cl≤k):pT m (gQ m cl) (eI m cl):=by
 refine⟨Az m cl,CZ m cl,⟨fun {x y} ⟨hx,hy,e⟩ d hd=> ?_,fun {x y} ⟨hx,hy,e⟩ d hd=> ?_⟩,zP hm h hk hc⟩
 ·rw[zG hx hy,CY hm h hk hx hy] at e
  obtain⟨d',hd',g1,g2⟩:=e.2.1 d hd
  have b1:=hm.ed x hx d hd
  have b2:=hm.ed y hy d' hd'
  exact⟨d',hd',g1,O,O,Cd h hs O O g2.symm⟩
 ·rw[zG hx hy,CY hm h hk hx hy] at e
  obtain⟨d',hd',g1,g2⟩:=e.2.2 d hd
  have b1:=hm.ed x hx d' hd'
  have b2:=hm.ed y hy d hd
  exact⟨d',hd',g1,O,O,Cd h hs O O g2⟩
def sQ (m:aA):List Int:=List.replicate m.sT.length 0
def aJ (m:aA):List Int:=wL m (m.sT.length+1) 1 (sQ m)
theorem Gg {m:aA} (hm:bA m):Lab m.sT.length 1 (sQ m):=by
 have f:=hm.few0
 refine⟨by simp[sQ],fun x hx=> ?_,fun c hc=>⟨0,O,?_⟩⟩
 ·have:ix (sQ m) x=0:=BQ 0 hx
  rw[this];omega
 ·have:ix (sQ m) 0=0:=BQ 0 O
  rw[this];omega
def qE (nx:List Int) (es:List PP):List PP:=Lib.compact (cG (es.map fun e=>(e.1,ix nx e.2.toNat)))
def jQ (m:aA) (k:Nat) (nx:List Int):aA:=⟨m.aC,(List.range k).map fun(c:Nat)=>qE nx (edg m (nx.idxOf (c:Int)))⟩
theorem Gh {nx:List Int} {es:List PP} {d:PP}:d∈qE nx es↔∃e∈es,d=(e.1,ix nx e.2.toNat):=by
 unfold qE
 rw[DV,(fJ _).mem_iff,List.mem_map]
 exact⟨fun⟨e,he,g⟩=>⟨e,he,g.symm⟩,fun⟨e,he,g⟩=>⟨e,he,g.symm⟩⟩
theorem Ty (nx:List Int) (es:List PP):(qE nx es).Pairwise uI:=Cb (rY _)
theorem Mw (nx:List Int) (es:List PP):(qE nx es).length≤es.length:=by
 unfold qE
 have h1:=DW (cG (es.map fun e=>((e.1,ix nx e.2.toNat):PP)))
 have h2:=(fJ (es.map fun e=>((e.1,ix nx e.2.toNat):PP))).length_eq
 rw[List.length_map] at h2
 omega
theorem vG {m:aA} {k:Nat} {nx:List Int} {c:Nat} (hc:c<k):edg (jQ m k nx) c=qE nx (edg m (nx.idxOf (c:Int))):=by
 show ix ((List.range k).map _) c=_
 exact bS hc
theorem rL (m:aA) (k:Nat) (nx:List Int):(jQ m k nx).sT.length=k:=by simp[jQ]
section
variable {m:aA} {k:Nat} {nx:List Int}
theorem yF (h:Lab m.sT.length k nx) {c:Nat} (hc:c<k):nx.idxOf (c:Int)<m.sT.length∧ix nx (nx.idxOf (c:Int))=(c:Int):=by
 obtain⟨x,hx,e⟩:=h.on c hc
 have hin:(c:Int)∈nx:=by rw[←e];exact aQ (by rw[h.len];exact hx)
 have h1:=List.idxOf_lt_length_of_mem hin
 refine⟨by rw[←h.len];exact h1,?_⟩
 rw[aD h1]
 exact List.getElem_idxOf h1
theorem Tz (hm:bA m) (h:pT m k nx):BisY m (jQ m k nx) (fun x c=>x<m.sT.length∧c<k∧ix nx x=(c:Int)):=by
 refine⟨fun {x c} ⟨hx,hc,e⟩ d hd=> ?_,fun {x c} ⟨hx,hc,e⟩ d hd=> ?_⟩
 ·obtain⟨r1,r2⟩:=yF h.lab hc
  obtain⟨d',hd',g1,b1,b2,g2⟩:=h.bis.fw (x:=x) (y:=nx.idxOf (c:Int)) ⟨hx,r1,by rw[e,r2]⟩ d hd
  have hb:=h.lab.bd d.2.toNat b1
  have hn:ix nx d'.2.toNat=ix nx d.2.toNat:=g2.symm
  refine⟨(d'.1,ix nx d'.2.toNat),by rw[vG hc];exact Gh.2 ⟨d',hd',rfl⟩,g1,b1,?_,?_⟩
  ·show(ix nx d'.2.toNat).toNat<k
   rw[hn];omega
  ·show ix nx d.2.toNat=(((ix nx d'.2.toNat).toNat:Nat):Int)
   rw[hn];omega
 ·obtain⟨r1,r2⟩:=yF h.lab hc
  rw[vG hc] at hd
  obtain⟨d',hd',rfl⟩:=Gh.1 hd
  obtain⟨e',he',g1,b1,b2,g2⟩:=h.bis.bw (x:=x) (y:=nx.idxOf (c:Int)) ⟨hx,r1,by rw[e,r2]⟩ d' hd'
  have hb:=h.lab.bd e'.2.toNat b1
  refine⟨e',he',g1,b1,?_,?_⟩
  ·show(ix nx d'.2.toNat).toNat<k
   rw[←g2];omega
  ·show ix nx e'.2.toNat=(((ix nx d'.2.toNat).toNat:Nat):Int)
   rw[←g2];omega
theorem Mx (hm:bA m) (h:pT m k nx):bA (jQ m k nx):=by
 have f0:=hm.few0
 have f1:=hm.few1
 have hk:=h.few
 have hb0:=h.lab.bd 0 O
 refine⟨hm.acts,hm.n8,by rw[rL];omega,by rw[rL];omega,fun c hc d hd=> ?_,fun c hc=> ?_⟩
 ·rw[rL] at hc ⊢
  rw[vG hc] at hd
  obtain⟨r1,_⟩:=yF h.lab hc
  obtain⟨e,he,rfl⟩:=Gh.1 hd
  have:=hm.ed _ r1 e he
  have hb:=h.lab.bd e.2.toNat O
  exact⟨this.1,this.2.1,hb.1,hb.2⟩
 ·rw[rL] at hc
  rw[vG hc]
  exact Nat.le_trans (Mw _ _) (hm.many _ (yF h.lab hc).1)
end
theorem My {m:aA} (hm:bA m) {k:Nat} {nx:List Int} (h:pT (aH m) k nx) (h0:ix nx 0=0) {s:SS} (hs:eW m s):eW (jQ (aH m) k nx) s:=by
 have hp:=qC hm
 have f0:=hp.few0
 have hb:=h.lab.bd 0 O
 have h1:eW (aH m) s:=Ge (Tw hm).symm ⟨(kD hm).ne,by show 0=(ix (aY m) 0).toNat;rw[(kD hm).hd];rfl⟩ hs
 exact Ge (Tz hp h) ⟨O,O,by rw[h0];rfl⟩ h1
end LsysM2
end
section
namespace KeepB
open ref01 ref03 ref04 ref06 Part Rungs LeftM TrimM RoundM MergeM BisM BisM3 BisM4 BisM5 BisM6 Keys WalkM WitM JudgM JudgM2 LevM divr divs divd dive divf divv judg sysw satj ChsM BisS TrimI QuoM FailM DivM RefM GenW CompM CrossM FitM TogM KeepK GuardM MakeM LsysM LsysM2
def kL (mm:List (Int × Bool)) (l:List Int):Prop:=∀k,(bP mm k).getD false=decide (k∈l)
theorem pY {mm:List (Int × Bool)} {l:List Int} (h:kL mm l) (k:Int):kL (cD mm k true) (l++ [k]):=fun q=>by
 rw[nA]
 by_cases e:k=q
 ·subst e;rw[if_pos rfl];simp
 ·rw[if_neg e,h q]
  have:q∈l++ [k]↔q∈l:=by
   rw[List.mem_append]
   exact⟨fun h=>h.resolve_right (fun h=>e (List.mem_singleton.1 h).symm),.inl⟩
  rw[decide_eq_decide];exact this.symm
theorem Mz:kL (cD ([]:List (Int × Bool)) 0 true) [0]:=pY (l:= []) (fun q=>by rw[decide_eq_false (by simp)];rfl) 0
noncomputable def dB (m:aA) (u:Int):Bool:=(aY m).all fun x=>decide (bQ (bK m x.toNat) u=u)
theorem TA (m:aA) (i:Nat):bqY m i<+:bqY m (i+1):=by
 show bqY m i<+:(if i<(bqY m i).length then visit (bqY m i) (fS m (ix (bqY m i) i)) else bqY m i)
 split
 ·exact fZ _ _
 ·exact List.prefix_rfl
theorem Gi (m:aA) {i:Nat}:∀{j:Nat},i≤j→bqY m i<+:bqY m j
 |0,h=>by rw[show i=0 by omega];exact List.prefix_rfl
 |j+1,h=>by
  by_cases e:i=j+1
  ·rw[e];exact List.prefix_rfl
  ·exact(Gi m (j:=j) O).trans (TA m j)
theorem Gj {m:aA} {i:Nat} (h:(bqY m i).length≤i):∀j,i≤j→bqY m j=bqY m i
 |0,hj=>by rw[show i=0 by omega]
 |j+1,hj=>by
  by_cases e:i=j+1
  ·rw[e]
  ·have ih:=Gj h j O
   show(if j<(bqY m j).length then visit (bqY m j) (fS m (ix (bqY m j) j)) else bqY m j)=_
   rw[if_neg (by rw[ih];omega),ih]
theorem Da {m:aA} (hm:bA m) {i:Nat} (hi:i≤m.sT.length) (h:(bqY m i).length≤i):bqY m i=aY m:=(Gj h _ hi).symm
theorem Wg {m:aA} {i:Nat} (hi:i≤m.sT.length) {x:Int} (hx:x∈bqY m i):x∈aY m:=(Gi m hi).subset hx
theorem Ce {m:aA} (hm:bA m) (i:Nat):(bqY m i).length≤m.sT.length:=Cc (sM hm i).nd (sM hm i).bd
theorem AA {m:aA} {i:Nat} (hi:i<(bqY m i).length):bqY m (i+1)=visit (bqY m i) (fS m (ix (bqY m i) i)):=by
 show(if i<(bqY m i).length then visit (bqY m i) (fS m (ix (bqY m i) i)) else bqY m i)=_
 rw[if_pos hi]
theorem vH {m:aA} {x:Int} {k:Nat} (hk:k<(edg m x.toNat).length):(fS m x).take (k+1)=(fS m x).take k++ [(ix (edg m x.toNat) k).2]:=by
 unfold fS
 rw[←List.map_take,←List.map_take,bM hk,List.map_append];rfl
theorem yG {l ks:List Int} {y:Int} (h0:0≤y) (h:y∉visit l ks):visit l (ks++ [y])=visit l ks++ [y]:=by rw[tN,vX h0 h]
theorem yH {l ks:List Int} {y:Int} (h:y∈visit l ks):visit l (ks++ [y])=visit l ks:=by rw[tN,tM (.inr h)]
theorem Pp {m:aA} {u:Int} {i:Nat} (hi:i≤m.sT.length) (hl:i<(bqY m i).length) (h:bQ (bK m (ix (bqY m i) i).toNat) u≠u):dB m u=false:=by
 unfold dB
 rw[Bool.eq_false_iff]
 intro g
 have:=List.all_eq_true.1 g _ (Wg hi (aQ hl))
 exact h (of_decide_eq_true this)
theorem MA {m:aA} (hm:bA m) {u:Int} {i:Nat} (hi:i≤m.sT.length) (hl:(bqY m i).length≤i) (h:∀j,j<i→j<(bqY m i).length→bQ (bK m (ix (bqY m i) j).toNat) u=u):dB m u=true:=by
 unfold dB
 rw[←Da hm hi hl]
 refine List.all_eq_true.2 fun x hx=> ?_
 obtain⟨j,hj,rfl⟩:=List.getElem_of_mem hx
 rw[←aD hj]
 exact decide_eq_true (h j O hj)
theorem Wh {m:aA} (hm:bA m) {x:Nat} (h:Au m x):(x:Int)∈aY m:=by
 have hq:=kD hm
 induction h with
 |zero=>
  have:ix (aY m) 0∈aY m:=aQ hq.ne
  rw[hq.hd] at this;exact this
 |step h1 h2 ih=>
  rename_i x e
  obtain⟨j,hj,g⟩:=List.getElem_of_mem ih
  have e1:ix (aY m) j=(x:Int):=by rw[aD hj];exact g
  have:=mH hm hj (e:=e) (by rw[e1,Int.toNat_natCast];exact h2)
  have hb:=hq.bd _ this
  rw[show((e.2.toNat:Nat):Int)=e.2 by omega];exact this
theorem DY {m:aA} (hm:bA m) {u:Int}:dB m u=true↔mG m u:=by
 unfold dB mG
 rw[List.all_eq_true]
 constructor
 ·intro h x hx
  have:=of_decide_eq_true (h _ (Wh hm hx))
  rwa [Int.toNat_natCast] at this
 ·intro h x hx
  exact decide_eq_true (h _ ((kD hm).rch x hx))
end KeepB
end
end Go.Proofs.YtnlfjojfgghchaaGreatDoor
