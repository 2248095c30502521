/- The walks of the functions and the plain laws. Own texts of this claim, packed: Mkdivp, Mkprodm, MkEncM, Mkprodp, Mksatj, MkBesM, MkTogM, MkBrkM, MkProdM, MkSatC, MkOrdM, MkKeepK, Mkmkk, MkGuardM, MkMakeM, MkLsysM, MkLsysM2, MkKeepB. -/
import Derived.Test.YtnlfjojfgghchaaGreatDoorX15
import Derived.Test.YtnlfjojfgghchaaGreatDoorX16
import Derived.Test.YtnlfjojfgghchaaGreatDoorX23
import Derived.Test.YtnlfjojfgghchaaGreatDoorX22
import Derived.Test.YtnlfjojfgghchaaGreatDoorX18
import Derived.Test.YtnlfjojfgghchaaGreatDoorX21
import Derived.Test.YtnlfjojfgghchaaGreatDoorX19
import Derived.Test.YtnlfjojfgghchaaGreatDoorX11
import Derived.Test.YtnlfjojfgghchaaGreatDoorX07
import Derived.Test.YtnlfjojfgghchaaGreatDoorX13
import Derived.Test.YtnlfjojfgghchaaGreatDoorX04
set_option linter.all false
namespace Go.Proofs.YtnlfjojfgghchaaGreatDoor
open AL Go
set_option maxRecDepth 100000
section
open ref01 ref03 ref04 ref06 prog prog2 prog3 prog6 Part Rungs LeftM QuoM
namespace divp
end divp
end
section
open ref01 ref03 ref04 ref06 prog prog2 prog3 prog4 prog5 prog6 prog7 prog8 prog9 prog13 starts Part Rungs LeftM TrimM Itoa Keys RoundM MergeM BisM BisM4 BisM5 WalkM StepM WitM JudgM JudgM2 refw judg wit refj sysw divr divs divd dive divg divw divv LevM LevM2 ChsM TrimI QuoM FailM DivM RefM GenW CompM CrossM prodc divp
namespace prodm
end prodm
end
section
namespace EncM
end EncM
end
section
open ref01 ref03 ref04 ref06 prog prog2 prog3 prog4 prog5 prog6 prog7 prog8 prog9 prog13 prog15 starts Part Rungs LeftM TrimM Itoa Keys RoundM MergeM BisM BisM4 BisM5 WalkM StepM WitM JudgM JudgM2 refw judg wit refj sysw divr divs divd dive divg divw divv LevM LevM2 ChsM TrimI QuoM FailM DivM RefM GenW CompM CrossM CompP PartM EncM prodc divp prodm
noncomputable def Ez (s t:SS) (w:List Int) (u:Int):Int:=if Ev s t=0 then(if UO (s.aC.length:Int) w=true∧eG (s.aC.length:Int) u=true then 0 else 1) else Ev s t
abbrev EA:aB:=⟨[],[]⟩
structure Yg (s t:SS) (w:List Int) (u:Int) (z:(aB × aB) × Int):Prop where
 err:Ez s t w u≠0→z=((EA,EA),Ez s t w u)
 none:Ez s t w u=0→¬QR s t w u→z=((EA,EA),3)
 some:Ez s t w u=0→QR s t w u→z.2=0∧∃a b,a∈acc (tR s).1 (goS (tR s).1 w).toNat∧b∈acc (tR t).1 (goS (tR t).1 w).toNat∧cC a b=u∧BC (tR s).1 (Eu (tR s).1 w a) z.1.1∧BC (tR t).1 (Eu (tR t).1 w b) z.1.2
section
variable {s t:SS} {w:List Int} {u:Int}
end
def NyI (m:aB) (l:List Int) (a:Int) (k j x:Nat):Prop:=(∃i,i<k∧∃e∈edg m (ix l i).toNat,e.1=a∧e.2=(x:Int))∨∃i,i<j∧(ix (edg m (ix l k).toNat) i).1=a∧(ix (edg m (ix l k).toNat) i).2=(x:Int)
structure NyS (m:aB) (l:List Int) (a:Int) (k j:Nat) (b:List Bool):Prop where
 len:b.length=m.sT.length
 mem:∀x,x<m.sT.length→(ix b x=true↔NyI m l a k j x)
section
variable {m:aB} {l:List Int} {a:Int} {k j:Nat} {b:List Bool}
theorem OV:NyS m l a 0 0 (List.replicate m.sT.length false):=by
 refine⟨by simp,fun x hx=> ?_⟩
 rw[aF (by simpa using hx),List.getElem_replicate]
 constructor
 ·intro h;cases h
 ·rintro(⟨i,hi,_⟩|⟨i,hi,_⟩)<;>omega
theorem OW (h:NyS m l a k (edg m (ix l k).toNat).length b):NyS m l a (k+1) 0 b:=by
 refine⟨h.len,fun x hx=>(h.mem x hx).trans ?_⟩
 constructor
 ·rintro(⟨i,hi,g⟩|⟨i,hi,g⟩)
  ·exact .inl ⟨i,O,g⟩
  ·exact .inl ⟨k,O,_,aX hi,g⟩
 ·rintro(⟨i,hi,g⟩|⟨i,hi,_⟩)
  ·by_cases e:i=k
   ·subst e
    obtain⟨ed,he,g⟩:=g
    obtain⟨q,hq,rfl⟩:=List.getElem_of_mem he
    exact .inr ⟨q,hq,by rw[aF hq];exact g⟩
   ·exact .inl ⟨i,O,g⟩
  ·omega
theorem OX (h:NyS m l a k j b) (hn:(ix (edg m (ix l k).toNat) j).1≠a):NyS m l a k (j+1) b:=by
 refine⟨h.len,fun x hx=>(h.mem x hx).trans ?_⟩
 constructor
 ·rintro(g|⟨i,hi,g⟩)
  ·exact .inl g
  ·exact .inr ⟨i,O,g⟩
 ·rintro(g|⟨i,hi,g⟩)
  ·exact .inl g
  ·by_cases e:i=j
   ·subst e;exact absurd g.1 hn
   ·exact .inr ⟨i,O,g⟩
theorem SL (h:NyS m l a k j b) (hn:(ix (edg m (ix l k).toNat) j).1=a) (h0:0≤(ix (edg m (ix l k).toNat) j).2) (h1:(ix (edg m (ix l k).toNat) j).2<(m.sT.length:Int)):NyS m l a k (j+1) (b.set (ix (edg m (ix l k).toNat) j).2.toNat true):=by
 have hl:=h.len
 refine⟨by simp[hl],fun x hx=> ?_⟩
 rw[lC O]
 by_cases e:x=(ix (edg m (ix l k).toNat) j).2.toNat
 ·rw[if_pos e]
  exact⟨fun _=> .inr ⟨j,O,hn,O⟩,fun _=>rfl⟩
 ·rw[if_neg e]
  refine(h.mem x hx).trans ?_
  constructor
  ·rintro(g|⟨i,hi,g⟩)
   ·exact .inl g
   ·exact .inr ⟨i,O,g⟩
  ·rintro(g|⟨i,hi,g⟩)
   ·exact .inl g
   ·by_cases q:i=j
    ·subst q;exact absurd g.2 O
    ·exact .inr ⟨i,O,g⟩
theorem OY (h:NyS m l a l.length 0 b):((List.range m.sT.length).filter fun(x:Nat)=>ix b x).map (fun(x:Nat)=>(x:Int))=dB m l a:=by
 unfold dB
 congr 1
 refine List.filter_congr fun x hx=> ?_
 have hx:=List.mem_range.1 hx
 rw[Bool.eq_iff_iff,h.mem x hx,List.any_eq_true]
 constructor
 ·rintro(⟨i,hi,e,he,g1,g2⟩|⟨i,hi,_⟩)
  ·exact⟨_,aX hi,List.any_eq_true.2 ⟨e,he,by simp[g1,g2]⟩⟩
  ·omega
 ·rintro⟨y,hy,g⟩
  obtain⟨i,hi,rfl⟩:=List.getElem_of_mem hy
  obtain⟨e,he,g2⟩:=List.any_eq_true.1 g
  simp only [Bool.and_eq_true,decide_eq_true_eq] at g2
  exact .inl ⟨i,hi,e,by rw[aF hi];exact he,g2.1,g2.2⟩
end
theorem wH (m:aB) (l:List Int) (a:Int):(dB m l a).length≤m.sT.length:=by
 unfold dB
 rw[List.length_map]
 exact Nat.le_trans (List.length_filter_le _ _) (by simp)
theorem yV {m:aB} (hm:bE m) {x:Nat} (hx:x<m.sT.length):0≤bQ m x∧bQ m x<256:=by
 have h8:=Vh hm hx
 refine⟨rX _,NQ _ fun t ht=> ?_⟩
 obtain⟨e,he,rfl⟩:=List.mem_map.1 ht
 have:=h8 e he
 have hp:2^e.1.toNat≤2^7:=Nat.pow_le_pow_right O O
 omega
namespace prodp
end prodp
end
section
open ref01 ref03 ref04 ref06 prog prog2 prog3 prog6 prog13 prog15 starts search Part Rungs LeftM TrimM RoundM BisM BisM5 BisM6 WalkM StepM WitM JudgM refw judg wit sysw
def pK:WalkM.Mt→List AV:=fun m=> [int m.before,int m.action,int m.s,int m.t]
instance (m:WalkM.Mt):OneAll (pK m):=inferInstanceAs (OneAll [int m.before,int m.action,int m.s,int m.t])
noncomputable def bW (m:aB) (s:SS):Int:=if bL m=true then(if bT s=true then(if m.aC=s.aC then 0 else 10) else 30) else 20
theorem lK {m:aB} {s:SS} (h:bW m s=0):bL m=true∧bT s=true∧m.aC=s.aC:=by
 unfold bW at h
 split at h
 ·next g1=>
  split at h
  ·next g2=>
   split at h
   ·next g3=>exact⟨g1,g2,g3⟩
   ·exact absurd h (by decide)
  ·exact absurd h (by decide)
 ·exact absurd h (by decide)
abbrev Ya (v:VJ):AV:=agg [bl v.holds,sl 2 pE v.pairs,ints v.word,int v.state]
structure Yp (m:aB) (s:SS) (v:VJ):Prop where
 ok:bW m s=0→yS m s v
 no:bW m s≠0→v=⟨false,[],[],0⟩
theorem VA {m:aB} {t:SS} (hm:bE m) (ht:oK t) {q:List WalkM.Mt} (h:QJ m t q):∀p∈q.map dM,bdP p:=by
 intro p hp
 obtain⟨x,hx,rfl⟩:=List.mem_map.1 hp
 have:=h.bd x hx
 have h1:=hm.few1
 have h2:=ht.few1
 unfold bdP dM
 dsimp only
 omega
namespace T
theorem FV:mX Tryz.prog 151 80 4 dK jG:=FU Tryz.underlying151 Tryz.underlying80 kR (by decide+kernel) kR kR ⟨Tryz.underlying3,by kernel_rfl⟩ kR
theorem VB:∀w F,∃u,(zeroValue 4).run Tryz.prog w= .ok u w∧(blV false).p w F u:=zQ (v:= .bool false) kR _ (fun _ _=>Cq)
theorem wI:IsSlice Tryz.prog 156 155 4:=gU kR
theorem Ai:fD Tryz.prog 155 0 0:=eK kR
theorem FX:fD Tryz.prog 153 0 0:=eK kR
theorem OZ:fD Tryz.prog 153 1 1:=eK kR
theorem VC:Ent Tryz.prog 148:=aN kR
theorem yX:Ent Tryz.prog 66:=aN kR
theorem QS:Ent Tryz.prog 67:=aN kR
theorem EB:Ent Tryz.prog 68:=aN kR
theorem z68:eW Tryz.prog 68 [.bool false,.slice none 0 0,.slice none 0 0,.int .i64 0]:=cY kR
theorem QT:iZ Tryz.prog 153 [(0,1),(1,1)] [.int .i64 0,.int .i64 0]:=jB kR kR
theorem QU:iZ Tryz.prog 155 [(0,2),(2,2)] [.int .i64 0,.int .i64 0,.int .i64 0,.int .i64 0]:=jB kR kR
theorem JY:eL Tryz.prog 156 155 4 32 [.int .i64 0,.int .i64 0,.int .i64 0,.int .i64 0]:=jK kR kR
theorem FY:fD Tryz.prog 155 1 2:=eK kR
theorem JZ:Ent Tryz.prog 98:=aN kR
theorem QV:Ent Tryz.prog 97:=aN kR
theorem VD:Ent Tryz.prog 117:=aN kR
theorem VE:iZ Tryz.prog 68 [(0,1),(1,1),(2,1),(3,1)] [.bool false,.slice none 0 0,.slice none 0 0,.int .i64 0]:=jB kR kR
theorem yY:iU Tryz.prog 68 4:=jJ kR
theorem Mh:iU Tryz.prog 155 4:=jJ kR
theorem Yb:eW Tryz.prog 155 [.int .i64 0,.int .i64 0,.int .i64 0,.int .i64 0]:=cY kR
theorem CP:fD Tryz.prog 68 1 1:=eK kR
theorem Mi:Ent Tryz.prog 100:=aN kR
end T
namespace satj
theorem SN (q:List WalkM.Mt) (hb:Lz q) (i:Nat) (hi:i<q.length) (hq:q.length≤1000000000:=by omega):
 Fn0 Tryz.prog 117 [sl 4 pK q,int (i:Int)] (ints (mP q i)):=by
 refine fnI Tryz.func117 rfl rfl (fun w0 F0=> ?_)
 refine fcC (aT 0 J) (fun hm0=> ?_)
 refine sq (rg (ag (nl (th (sq (rg (nw 5 3 1 nE (ag (rtg (key:=5) 5 J (nl (th (sq (bk ?_)))))))))))))
 have hI0_0:0≤(i:Int)∧(i:Int)<(q.length:Int)∧([]:List Int)++upF q (i+1) (i:Int).toNat=upF q (i+1) i∧(i:Int).toNat<(i+1)∧([]:List Int).length+(i:Int).toNat≤i:=by
  exact⟨O,O,by rw[Int.toNat_natCast];rfl,O,by simp⟩
 refine lp (κ:=Nat × Int × Value × (List Int)) (fun p=> [(0,sl 4 pK q),(1,int p.2.1),(4,eqv (.slice none 0 0)),(5,osl 5 p.2.2.1)]) (fun p=> [(5,own p.2.2.1 3 1 nE p.2.2.2)]) (fun p=>0≤p.2.1∧p.2.1<(q.length:Int)∧p.2.2.2++upF q p.1 p.2.1.toNat=upF q (i+1) i∧p.2.1.toNat<p.1∧p.2.2.2.length+p.2.1.toNat≤i) (fun p=>p.2.1.toNat) ⟨i+1,(i:Int),(.slice none 0 0),([]:List Int)⟩ hI0_0 ⟨id,id,id,id,tV⟩ ⟨rI,tV⟩ ?_
 intro⟨n,j,v5,out⟩ hG0
 obtain⟨hj0,hjl,hou,hjn,hol⟩:0≤j∧j<(q.length:Int)∧out++upF q n j.toNat=upF q (i+1) i∧j.toNat<n∧out.length+j.toNat≤i:=hG0
 show Ct _ _ _ _ [(0,sl 4 pK q),(1,int j),(4,eqv (.slice none 0 0)),(5,osl 5 v5)] [(5,own v5 3 1 nE out)] _
 have hbk:=hb j.toNat O
 refine sq (sq (rg (mv (mv (iF J J T.wI O gB (fF J T.Ai (fF J T.FX (lF J J T.aH (bi J J fK (nl (th ?_)))))))))))
 refine cd J (fun hc0=> ?_) (fun hc0=> ?_)
 ·try simp at hc0
  refine sk (th (sq (bk (rg (mv (mv (mv (iF J J T.wI O gB (fF J T.Ai (fF J T.OZ (lF J J T.aH (bsE (enc:=nE) (xs:= [(ix q j.toNat).action]) (css:= [[int (ix q j.toNat).action]]) T.bS ⟨J,J,p1 (φ:=int (ix q j.toNat).action) J,tV⟩ J J J J (ap (key:=5) (zs:= [(ix q j.toNat).action]) bP J J J T.bS (by unfold aQ at*;simp;omega) (by unfold aQ at*;simp;omega) fun v27=>(ag (nl (eb (th (rg (mv (mv (iF J J T.wI O gB (fF J T.Ai (fF J T.FX (lF J J T.aH (ag (nl ?_))))))))))))))))))))))))))
  have hN0:0≤(ix q j.toNat).before∧(ix q j.toNat).before<(q.length:Int)∧(out++ [(ix q j.toNat).action])++upF q (n- 1) (ix q j.toNat).before.toNat=upF q (i+1) i∧(ix q j.toNat).before.toNat<(n- 1)∧(out++ [(ix q j.toNat).action]).length+(ix q j.toNat).before.toNat≤i:=by
   have hbk2:=hbk hc0
   exact⟨hc0,O,US hou hjn hc0,O,by simp;omega⟩
  exact ln (⟨n- 1,(ix q j.toNat).before,v27,out++ [(ix q j.toNat).action]⟩:Nat × Int × Value × (List Int)) hN0 (by have hbk2:=hbk hc0;show(ix q j.toNat).before.toNat<j.toNat;omega) ⟨id,id,id,id,tV⟩ ⟨rI,tV⟩
 ·try simp at hc0
  refine ex (xt_ (xt_ (xb (th (sq (rg (mv (cal (Hi:= [(5,own v5 3 1 nE out)]) (φs:= [osl 5 v5]) ⟨J,tV⟩ (judg.JF v5 out O) T.VC ⟨rI,tV⟩ fun _ _=>(nl (th (sq (rg (mv (ag (nl (th (rt ?_)))))))))))))))))
  refine fzA 5 4 rfl rfl ?_
  have hr0:out.reverse=(mP q i):=by
   rw[RR hou hjn O];rfl
  exact rE () [.tmp 4] J [sl 1 nE out.reverse] ⟨.tmp J,tV⟩ (cA1 (fun x0=>rV [sl 1 nE x0]) hr0) trivial eX
theorem yT (m:aB) (s:SS) (hs:jE s):
 Fn0 Tryz.prog 54 [sys m,spec s] (int (bW m s)):=by
 refine fnI Tryz.func54 rfl rfl (fun w0 F0=> ?_)
 refine fcC (bV 0 J) (fun hS0=> ?_)
 obtain⟨hma0,hms0,hme0⟩:=cQ hS0
 refine fcC (bV 1 J) (fun hS1=> ?_)
 obtain⟨hsa1,hss1,hse1⟩:=sLn hS1
 refine sq (rg (bx (key:=2) (cs:= [sl 1 rE_ m.aC,sl 1 gE m.sT]) J fun b2=>(bx (key:=3) (cs:= [sl 1 rE_ s.aC,sl 2 sE s.sT]) J fun b3=>(ag (nl (th (sq (bk (sq (rg (lPA J J T.bK J (aZ (φs:= [agg [sl 1 rE_ m.aC,sl 1 gE m.sT]]) (φ:=bl (bL m)) ⟨J,tV⟩ (sysw.kB m) T.yX (no J (ag (nl (th ?_))))))))))))))))
 refine cd J (fun hc0=> ?_) (fun hc0=> ?_)
 ·try simp at hc0
  refine sq (rg (ag (nl (th (rt (rb (rt_ ?_)))))))
  have hr0:(20:Int)=(bW m s):=by
   unfold bW;rw[if_neg (by simp[hc0])]
  exact rE () [.tmp 4] J [int 20] ⟨.tmp J,tV⟩ (cA1 (fun x0=>rV [int x0]) hr0) trivial eX
 ·try simp at hc0
  refine sq (rg (lPA J J T.aW J (aZ (φs:= [agg [sl 1 rE_ s.aC,sl 2 sE s.sT]]) (φ:=bl (bT s)) ⟨J,tV⟩ (prog2.kB s aS) T.QS (no J (ag (nl (th ?_)))))))
  refine cd J (fun hc1=> ?_) (fun hc1=> ?_)
  ·try simp at hc1
   refine sq (rg (ag (nl (th (rt (rb (rt_ ?_)))))))
   have hr0:(30:Int)=(bW m s):=by
    unfold bW;rw[if_pos (by simpa using hc0),if_neg (by simp[hc1])]
   exact rE () [.tmp 4] J [int 30] ⟨.tmp J,tV⟩ (cA1 (fun x0=>rV [int x0]) hr0) trivial eX
  ·try simp at hc1
   refine sq (rg (fP J T.gC (lP J J J T.cK (fP J T.cP (lP J J J T.cK (aZ (φs:= [sl 1 rE_ m.aC,sl 1 rE_ s.aC]) (φ:=bl (decide (m.aC=s.aC))) ⟨J,J,tV⟩ (prog.mS _ _) T.EB (no J (ag (nl (th ?_))))))))))
   refine cd J (fun hc2=> ?_) (fun hc2=> ?_)
   ·try simp at hc2
    refine sq (rg (ag (nl (th (rt (rb (rt_ ?_)))))))
    have hr0:(10:Int)=(bW m s):=by
     unfold bW;rw[if_pos (by simpa using hc0),if_pos (by simpa using hc1),if_neg hc2]
    exact rE () [.tmp 4] J [int 10] ⟨.tmp J,tV⟩ (cA1 (fun x0=>rV [int x0]) hr0) trivial eX
   ·try simp at hc2
    refine sk (eb (th (sq (rg (ag (nl (th (rt ?_))))))))
    have hr0:(0:Int)=(bW m s):=by
     unfold bW;rw[if_pos (by simpa using hc0),if_pos (by simpa using hc1),if_pos hc2]
    exact rE () [.tmp 4] J [int 0] ⟨.tmp J,tV⟩ (cA1 (fun x0=>rV [int x0]) hr0) trivial eX
theorem Pb (m:aB) (hm:bE m) (s:SS) (hs:oK s):
 AL.Fn Tryz.prog 70 [sys m,spec s] [] (ι:= { v:VJ//yS m s v }) (fun _ i=>Ya i.1) (fun _=> []):=by
 refine fnI Tryz.func70 rfl rfl (fun w0 F0=> ?_)
 have f1:=hm.few1;have f2:=hs.few1;have f3:=hs.n8;have f4:=hm.n8;have g0:=hm.few0;have g1:=hs.few0;have hmm:m.sT.length*s.sT.length≤10000*10000:=Nat.mul_le_mul f1 f2
 refine fcC (bV 0 J) (fun hS0=> ?_)
 obtain⟨hma0,hms0,hme0⟩:=cQ hS0
 refine fcC (bV 1 J) (fun hS1=> ?_)
 obtain⟨hsa1,hss1,hse1⟩:=sLn hS1
 refine sq (rg (bx (key:=2) (cs:= [sl 1 rE_ m.aC,sl 1 gE m.sT]) J fun b2=>(bx (key:=3) (cs:= [sl 1 rE_ s.aC,sl 2 sE s.sT]) J fun b3=>(al (key:=4) T.z68 (eC (eC (eC (eC eZ)))) fun b4=>(nl (th (sq (rg (mkm (key:=16) (kE:=dK) (dom:=jG) (vE:=blV) fun b16=>(bd (css:= [(0,_),(1,_)]) T.qO (eC (eC eZ)) ⟨J,J,p1 (φ:=int 0) J,⟨J,J,p1 (φ:=int 0) J,tV⟩⟩ (AL.insert (q:=(0,0)) (u:=true) J J fY J T.FV ⟨⟨O,O⟩,⟨O,O⟩⟩ (mv (ag (nl (th (sq (rg (bd (css:= [(0,_)]) T.QT (eC (eC eZ)) ⟨J,J,p1 (φ:=int (-1)) J,tV⟩ (bd (css:= [(0,_)]) T.QU (eC (eC (eC (eC eZ)))) ⟨J,J,pA (cs:= [int (-1),int 0]) J,tV⟩ (bsO 21 (enc:=pK) (xs:= [⟨0,0,(-1),0⟩]) (css:= [[int (-1),int 0,int 0,int 0]]) T.JY ⟨J,J,pA (cs:= [int (-1),int 0,int 0,int 0]) J,tV⟩ J J J J fun v21=>(ag (nl (th (sq (sq (rg (ag (nl (th (bk ?_))))))))))))))))))))))))))))))
 have hI0_0:QJ m s ([⟨0,0,(-1),0⟩]:List WalkM.Mt)∧qP (cI ([]:List ((Int × Int) × Bool)) (0,0) true) ([⟨0,0,(-1),0⟩]:List WalkM.Mt)∧0≤([⟨0,0,(-1),0⟩]:List WalkM.Mt).length∧∀k,k<0→lA m s ([⟨0,0,(-1),0⟩]:List WalkM.Mt) k:=by
  exact⟨Sa hm hs,Ly,by simp,fun k hk=>absurd hk O⟩
 refine lp (κ:=Nat × Value × (List WalkM.Mt) × (List ((Int × Int) × Bool))) (fun p=> [(2,ptr 2 b2 0),(3,ptr 3 b3 0),(4,ptr 4 b4 0),(5,mpv 16 b16),(6,osl 21 p.2.1),(7,int (p.1:Int))]) (fun p=> [(2,cell b2 [sl 1 rE_ m.aC,sl 1 gE m.sT]),(3,cell b3 [sl 1 rE_ s.aC,sl 2 sE s.sT]),(4,cell b4 [bl false,eqv (.slice none 0 0),eqv (.slice none 0 0),int 0]),(16,mp b16 dK jG blV p.2.2.2),(21,own p.2.1 155 4 pK p.2.2.1)]) (fun p=>QJ m s p.2.2.1∧qP p.2.2.2 p.2.2.1∧p.1≤p.2.2.1.length∧∀k,k<p.1→lA m s p.2.2.1 k) (fun p=>m.sT.length*s.sT.length- p.1) ⟨0,v21,([⟨0,0,(-1),0⟩]:List WalkM.Mt),cI ([]:List ((Int × Int) × Bool)) (0,0) true⟩ hI0_0 ⟨id,id,id,id,id,id,tV⟩ ⟨rI,rI,rI,rI,rI,tV⟩ ?_
 intro⟨i,v,q,mm⟩ hG0
 obtain⟨hq,hsm,hil,hdone⟩:QJ m s q∧qP mm q∧i≤q.length∧∀k,k<i→lA m s q k:=hG0
 show Ct _ _ _ _ [(2,ptr 2 b2 0),(3,ptr 3 b3 0),(4,ptr 4 b4 0),(5,mpv 16 b16),(6,osl 21 v),(7,int (i:Int))] [(2,cell b2 [sl 1 rE_ m.aC,sl 1 gE m.sT]),(3,cell b3 [sl 1 rE_ s.aC,sl 2 sE s.sT]),(4,cell b4 [bl false,eqv (.slice none 0 0),eqv (.slice none 0 0),int 0]),(16,mp b16 dK jG blV mm),(21,own v 155 4 pK q)] _
 have hql:=LJ hq
 refine sq (sq (rg (mv (mv (lnO J J T.wI (bi J J aO (nl (th ?_))))))))
 refine cd J (fun hc0=> ?_) (fun hc0=> ?_)
 ·try simp at hc0
  have hbd:=hq.bd _ (aX hc0)
  have hsy:=hs.st (ix q i).t.toNat O
  have hyl:=hsy.len
  have hoff:∀e∈(ix m.sT (ix q i).s.toNat),0≤e.1∧e.1<8:=fun e he=>by have:=hm.ed (ix q i).s.toNat O e he;omega
  refine sk (th (sq (bk (sq (rg (mv (mv (iO J J J T.wI O O (fO J T.FY (lOA J J gB T.dG (by decide) (al (key:=8) T.z80 (eC (eC eZ)) fun b8=>(sPA (cs':= [int (ix q i).s,int (ix q i).t]) J J J T.dG J J (nl (th (sq (rg (fP J T.bA (lP J J J T.bM (iPA J J T.eU T.aH J (lP J J J T.aH (iF J J T.cE O gB (lFA J T.cR (Nat.le_of_ble_eq_true J) (al (key:=9) T.z79 (eC (eC eZ)) fun b9=>(sPA (cs':= [sl 1 nE (ix s.sT (ix q i).t.toNat).aP,sl 1 nE (ix s.sT (ix q i).t.toNat).next]) J J J T.cR J J (nl (th (sq (sq (dr (nh:=10) [0,0,2,0,8,30,62,126,255,511] T.mixed kR ?_)))))))))))))))))))))))))))))
  refine st_ J (fun _ _ _ gq kq=>lPA (gq.1.trans J) J T.cR J kq) ?_
  refine st_ J (fun _ _ _ gq kq=>fP (gq.1.trans J) T.bX kq) ?_
  refine st_ J (fun _ _ _ gq kq=>lP (gq.1.trans J) J J T.cV kq) ?_
  refine st_ J (fun _ _ _ gq kq=>iPA (gq.1.trans J) J T.eU T.aH J kq) ?_
  refine st_ J (fun _ _ _ gq kq=>lP (gq.1.trans J) J J T.aH kq) ?_
  refine st_ J (fun _ _ _ gq kq=>iF (gq.1.trans J) (gq.2.1.trans J) T.eV O gB kq) ?_
  refine st_ J (fun _ _ _ gq kq=>lF (gq.1.trans J) J T.iG kq) ?_
  refine st_ J (fun _ _ _ gq kq=>aZ (φs:= [sl 2 pE (ix m.sT (ix q i).s.toNat)]) (φ:=int (dS (ix m.sT (ix q i).s.toNat))) ⟨(gq.1.trans J),tV⟩ (sysw.xS (ix m.sT (ix q i).s.toNat) aS) T.JZ kq) ?_
  refine st_ J (fun _ _ _ gq kq=>aZ (φs:= [agg [sl 1 nE (ix s.sT (ix q i).t.toNat).aP,sl 1 nE (ix s.sT (ix q i).t.toNat).next],int (dS (ix m.sT (ix q i).s.toNat))]) (φ:=bl (decide ((dS (ix m.sT (ix q i).s.toNat))∈(ix s.sT (ix q i).t.toNat).aP))) ⟨(gq.1.trans J),(gq.2.1.trans J),tV⟩ (search.rD (ix s.sT (ix q i).t.toNat) (hs.st _ O).rise (dS (ix m.sT (ix q i).s.toNat))) T.QV kq) ?_
  refine st_ J (fun _ _ _ gq kq=>no (gq.1.trans J) kq) ?_
  refine pn (nl (th ?_))
  refine cd J (fun hc1=> ?_) (fun hc1=> ?_)
  ·try simp at hc1
   have hnacc:bQ m (ix q i).s.toNat∉acc s (ix q i).t.toNat:=by simpa using hc1
   refine sq (fzC 21 6 J J (dr (nh:=6) [0,0,3,0,8,31,63] T.mixed kR ?_))
   refine st_ J (fun _ _ _ gq kq=>mv' (gq.1.trans J) kq) ?_
   refine st_ J (fun _ _ _ gq kq=>mv' (gq.1.trans J) kq) ?_
   refine st_ J (fun _ _ _ gq kq=>aZ (φs:= [sl 4 pK q,int (i:Int)]) (φ:=sl 1 nE (mP q i)) ⟨(gq.1.trans J),(gq.2.1.trans J),tV⟩ (satj.SN q (Sc hq) i O) T.VD kq) ?_
   refine st_ J (fun _ _ _ gq kq=>iPA (gq.1.trans J) J T.eU T.aH J kq) ?_
   refine st_ J (fun _ _ _ gq kq=>lP (gq.1.trans J) J J T.aH kq) ?_
   refine st_ J (fun _ _ _ gq kq=>bd (css:= [(2,_),(3,_)]) T.VE (eC (eC (eC (eC eZ)))) ⟨J,J,p1 (φ:=sl 1 nE (mP q i)) (by exact(gq.1.trans J)),⟨J,J,p1 (φ:=int (ix q i).s) (by exact(gq.2.1.trans J)),tV⟩⟩ kq) ?_
   refine pn (sPA (cs':= [bl false,eqv (.slice none 0 0),sl 1 nE (mP q i),int (ix q i).s]) J J J T.yY J J (nl (th (rt (rt_ (rb (rt_ (rt_ (rb (rt_ ?_))))))))))
   refine gH 4 1 (sl 2 pE []) rfl rfl slnil ?_
   exact rE ⟨⟨false,[],mP q i,(ix q i).s⟩,⟨fun h=>(nomatch (show false=true from h)),fun _=>⟨UW hq hc0 hnacc,J,q,i,hq,hc0,J,J,hdone,hnacc⟩⟩⟩ [.cell 4 68] J [agg [bl false,sl 2 pE [],sl 1 nE (mP q i),int (ix q i).s]] ⟨.agg J J T.yY J J,tV⟩ J trivial eX
  ·try simp at hc1
   have hacc:bQ m (ix q i).s.toNat∈acc s (ix q i).t.toNat:=by simpa using hc1
   refine sk (th (sq (rg (fP J T.bX (lP J J J T.cV (iPA J J T.eU T.aH J (lP J J J T.aH (iF J J T.eV O gB (lF J J T.iG (fc (aT 60 J) fun hm60=>(lnF J T.dI (mv (nl (th (bk ?_)))))))))))))))
   have hI1_0:0≤(ix m.sT (ix q i).s.toNat).length:=by
    first|omega|simp
   have hI1_1:sI m s q i 0 q mm:=by
    exact LK hq hsm hdone
   refine lp (κ:=Nat × Value × (List WalkM.Mt) × (List ((Int × Int) × Bool))) (fun p=> [(2,ptr 2 b2 0),(3,ptr 3 b3 0),(4,ptr 4 b4 0),(5,mpv 16 b16),(6,osl 21 p.2.1),(7,int (i:Int)),(9,ptr 9 b9 0),(60,sl 2 pE (ix m.sT (ix q i).s.toNat)),(61,int ((ix m.sT (ix q i).s.toNat).length:Int)),(62,int (p.1:Int))]) (fun p=> [(2,cell b2 [sl 1 rE_ m.aC,sl 1 gE m.sT]),(3,cell b3 [sl 1 rE_ s.aC,sl 2 sE s.sT]),(4,cell b4 [bl false,eqv (.slice none 0 0),eqv (.slice none 0 0),int 0]),(8,cell b8 [int (ix q i).s,int (ix q i).t]),(9,cell b9 [sl 1 nE (ix s.sT (ix q i).t.toNat).aP,sl 1 nE (ix s.sT (ix q i).t.toNat).next]),(16,mp b16 dK jG blV p.2.2.2),(21,own p.2.1 155 4 pK p.2.2.1)]) (fun p=>(p.1≤(ix m.sT (ix q i).s.toNat).length)∧(sI m s q i p.1 p.2.2.1 p.2.2.2)) (fun p=>(ix m.sT (ix q i).s.toNat).length- p.1) ⟨0,v,q,mm⟩ ⟨hI1_0,hI1_1⟩ ⟨id,id,id,id,id,id,id,id,id,id,tV⟩ ⟨rI,rI,rI,rI,rI,rI,rI,tV⟩ ?_
   intro⟨k1,v2,q2,mm2⟩ hG1
   obtain⟨hk1,hI1⟩:(k1≤(ix m.sT (ix q i).s.toNat).length)∧(sI m s q i k1 q2 mm2):=hG1
   show Ct _ _ _ _ [(2,ptr 2 b2 0),(3,ptr 3 b3 0),(4,ptr 4 b4 0),(5,mpv 16 b16),(6,osl 21 v2),(7,int (i:Int)),(9,ptr 9 b9 0),(60,sl 2 pE (ix m.sT (ix q i).s.toNat)),(61,int ((ix m.sT (ix q i).s.toNat).length:Int)),(62,int (k1:Int))] [(2,cell b2 [sl 1 rE_ m.aC,sl 1 gE m.sT]),(3,cell b3 [sl 1 rE_ s.aC,sl 2 sE s.sT]),(4,cell b4 [bl false,eqv (.slice none 0 0),eqv (.slice none 0 0),int 0]),(8,cell b8 [int (ix q i).s,int (ix q i).t]),(9,cell b9 [sl 1 nE (ix s.sT (ix q i).t.toNat).aP,sl 1 nE (ix s.sT (ix q i).t.toNat).next]),(16,mp b16 dK jG blV mm2),(21,own v2 155 4 pK q2)] _
   have hq2l:=LJ hI1.qi
   refine sq (rg (bi J J aO (nl (th (sq ?_)))))
   refine cd J (fun hc2=> ?_) (fun hc2=> ?_)
   ·try simp at hc2
    have hek:=hm.ed (ix q i).s.toNat O _ (aX hc2)
    have hgo:=yR hm hs (x:=(ix q i).s.toNat) (y:=(ix q i).t.toNat) O O hacc (aX hc2)
    obtain⟨hgo1,hgo2,hgo3⟩:=hgo
    dsimp only [nxt,edg] at hgo1 hgo2 hgo3 hek
    refine sk (th (sq (bk (sq (rg (iF J J T.dI O gB (lFA J T.dA (Nat.le_of_ble_eq_true J) (al (key:=11) T.z94 (eC (eC eZ)) fun b11=>(sPA (cs':= [int ((ix (ix m.sT (ix q i).s.toNat) k1).1),int ((ix (ix m.sT (ix q i).s.toNat) k1).2)]) J J J T.dA J J (nl (th (sq ?_))))))))))))
    refine drH (nh:=11) [0,1,0,4,0,16,60,124,255,0,1023] [(none,[]),(none,[11]),(none,[]),(none,[9]),(none,[]),(none,[11]),(none,[]),(none,[]),(none,[]),(some 12,[]),(some 12,[12])] T.mixed kR kR ?_
    refine stv (d:=66) (fun β0=>ptr 11 b11 1) [] J bH (fun β0 _ _ _ _ gq gh kq=>fP (gq.1.trans J) T.dY kq) ?_
    refine stv (d:=67) (fun β0=>int ((ix (ix m.sT (ix q i).s.toNat) k1).2)) [11] J bH (fun β0 _ _ _ _ gq gh kq=>lP (gq.1.trans J) (gh.1.trans J) J T.aH kq) ?_
    refine stv (d:=68) (fun β0=>ptr 9 b9 1) [] J bH (fun β0 _ _ _ _ gq gh kq=>fP (gq.1.trans J) T.bR kq) ?_
    refine stv (d:=69) (fun β0=>sl 1 nE (ix s.sT (ix q i).t.toNat).next) [9] J bH (fun β0 _ _ _ _ gq gh kq=>lP (gq.1.trans J) (gh.1.trans J) J T.aY kq) ?_
    refine stv (d:=70) (fun β0=>ptr 11 b11 0) [] J bH (fun β0 _ _ _ _ gq gh kq=>fP (gq.1.trans J) T.dJ kq) ?_
    refine stv (d:=71) (fun β0=>int ((ix (ix m.sT (ix q i).s.toNat) k1).1)) [11] J bH (fun β0 _ _ _ _ gq gh kq=>lP (gq.1.trans J) (gh.1.trans J) J T.aH kq) ?_
    refine stv (d:=72) (fun β0=>fp [int (ix (ix s.sT (ix q i).t.toNat).next ((ix (ix m.sT (ix q i).s.toNat) k1).1).toNat)]) [] J bH (fun β0 _ _ _ _ gq gh kq=>iF (gq.1.trans J) (gq.2.1.trans J) T.aU O gB kq) ?_
    refine stv (d:=73) (fun β0=>int (ix (ix s.sT (ix q i).t.toNat).next ((ix (ix m.sT (ix q i).s.toNat) k1).1).toNat)) [] J bH (fun β0 _ _ _ _ gq gh kq=>lF (gq.1.trans J) J T.aH kq) ?_
    refine stv (d:=74) (fun β0=>agg [int ((ix (ix m.sT (ix q i).s.toNat) k1).2),int (ix (ix s.sT (ix q i).t.toNat).next ((ix (ix m.sT (ix q i).s.toNat) k1).1).toNat)]) [] J bH (fun β0 _ _ _ _ gq gh kq=>bd (css:= [(0,_),(1,_)]) T.qO (eC (eC eZ)) ⟨J,J,p1 (φ:=int ((ix (ix m.sT (ix q i).s.toNat) k1).2)) (by exact(gq.1.trans J)),⟨J,J,p1 (φ:=int (ix (ix s.sT (ix q i).t.toNat).next ((ix (ix m.sT (ix q i).s.toNat) k1).1).toNat)) (by exact(gq.2.1.trans J)),tV⟩⟩ kq) ?_
    refine sta 12 T.z80 (eC (eC eZ)) ?_
    refine stw 12 (fun β0=>cell (gbk (β0 9)) [int ((ix (ix m.sT (ix q i).s.toNat) k1).2),int (ix (ix s.sT (ix q i).t.toNat).next ((ix (ix m.sT (ix q i).s.toNat) k1).1).toNat)]) [12] J (fun β β' hb=>by first|rw[hb 9 J]|(dsimp only;rw[hb 9 J])) (fun β0 _ _ _ _ gq gh kq=>sPA (cs':= [int ((ix (ix m.sT (ix q i).s.toNat) k1).2),int (ix (ix s.sT (ix q i).t.toNat).next ((ix (ix m.sT (ix q i).s.toNat) k1).1).toNat)]) (gq.1.trans J) (gh.1.trans J) (gq.2.1.trans J) T.dG J J kq) ?_
    refine pnH fun β0=>(nl (th (sq (rg (mv (lPA J J T.dG J (lookup (z:=false) (q:=((ix (ix m.sT (ix q i).s.toNat) k1).2,ix (ix s.sT (ix q i).t.toNat).next ((ix (ix m.sT (ix q i).s.toNat) k1).1).toNat)) J J fY T.FV ⟨⟨O,O⟩,⟨O,O⟩⟩ T.VB (no J (nl (th ?_))))))))))
    refine cd J (fun hc3=> ?_) (fun hc3=> ?_)
    ·try simp at hc3
     refine sq (rg (mv (lPA J J T.dG J (mapUpdate (q:=((ix (ix m.sT (ix q i).s.toNat) k1).2,ix (ix s.sT (ix q i).t.toNat).next ((ix (ix m.sT (ix q i).s.toNat) k1).1).toNat)) (u:=true) J J fY J T.FV ⟨⟨O,O⟩,⟨O,O⟩⟩ (nl (th (rg (mv (mv (fP J T.dJ (lP J J J T.aH (bd (css:= [(0,_),(1,_)]) T.QT (eC (eC eZ)) ⟨J,J,p1 (φ:=int (i:Int)) J,⟨J,J,p1 (φ:=int ((ix (ix m.sT (ix q i).s.toNat) k1).1)) J,tV⟩⟩ (lPA J J T.dG J (bd (css:= [(0,_),(2,_)]) T.QU (eC (eC (eC (eC eZ)))) ⟨J,J,pA (cs:= [int (i:Int),int ((ix (ix m.sT (ix q i).s.toNat) k1).1)]) J,⟨J,J,pA (cs:= [int ((ix (ix m.sT (ix q i).s.toNat) k1).2),int (ix (ix s.sT (ix q i).t.toNat).next ((ix (ix m.sT (ix q i).s.toNat) k1).1).toNat)]) J,tV⟩⟩ (bsE (enc:=pK) (xs:= [⟨((ix (ix m.sT (ix q i).s.toNat) k1).2),(ix (ix s.sT (ix q i).t.toNat).next ((ix (ix m.sT (ix q i).s.toNat) k1).1).toNat),(i:Int),((ix (ix m.sT (ix q i).s.toNat) k1).1)⟩]) (css:= [[int (i:Int),int ((ix (ix m.sT (ix q i).s.toNat) k1).1),int ((ix (ix m.sT (ix q i).s.toNat) k1).2),int (ix (ix s.sT (ix q i).t.toNat).next ((ix (ix m.sT (ix q i).s.toNat) k1).1).toNat)]]) T.JY ⟨J,J,pA (cs:= [int (i:Int),int ((ix (ix m.sT (ix q i).s.toNat) k1).1),int ((ix (ix m.sT (ix q i).s.toNat) k1).2),int (ix (ix s.sT (ix q i).t.toNat).next ((ix (ix m.sT (ix q i).s.toNat) k1).1).toNat)]) J,tV⟩ J J J J (ap (key:=21) (zs:= [⟨((ix (ix m.sT (ix q i).s.toNat) k1).2),(ix (ix s.sT (ix q i).t.toNat).next ((ix (ix m.sT (ix q i).s.toNat) k1).1).toNat),(i:Int),((ix (ix m.sT (ix q i).s.toNat) k1).1)⟩]) bP J J J T.JY (by unfold aQ at*;simp;omega) (by unfold aQ at*;simp;omega) fun v89=>(ag (nl (eb (th (rg (bi J J (aG i6) (mv (nl ?_))))))))))))))))))))))))
     have hN0:(k1+1)≤(ix m.sT (ix q i).s.toNat).length:=by
      first|omega|simp_all
     have hN1:sI m s q i (k1+1) (q2++ [⟨((ix (ix m.sT (ix q i).s.toNat) k1).2),(ix (ix s.sT (ix q i).t.toNat).next ((ix (ix m.sT (ix q i).s.toNat) k1).1).toNat),(i:Int),((ix (ix m.sT (ix q i).s.toNat) k1).1)⟩]) (cI mm2 ((ix (ix m.sT (ix q i).s.toNat) k1).2,ix (ix s.sT (ix q i).t.toNat).next ((ix (ix m.sT (ix q i).s.toNat) k1).1).toNat) true):=by
      exact LL hm hs hI1 hc0 hacc hc2 rfl rfl (by simpa using hc3)
     exact ln (⟨k1+1,v89,q2++ [⟨((ix (ix m.sT (ix q i).s.toNat) k1).2),(ix (ix s.sT (ix q i).t.toNat).next ((ix (ix m.sT (ix q i).s.toNat) k1).1).toNat),(i:Int),((ix (ix m.sT (ix q i).s.toNat) k1).1)⟩],cI mm2 ((ix (ix m.sT (ix q i).s.toNat) k1).2,ix (ix s.sT (ix q i).t.toNat).next ((ix (ix m.sT (ix q i).s.toNat) k1).1).toNat) true⟩:Nat × Value × (List WalkM.Mt) × (List ((Int × Int) × Bool))) ⟨hN0,hN1⟩ dO ⟨id,id,id,id,id,id,id,id,id,id,tV⟩ ⟨rI,rI,rI,rI,rI,rI,rI,tV⟩
    ·try simp at hc3
     refine sk (eb (th (rg (bi J J (aG i6) (mv (nl ?_))))))
     have hN0:(k1+1)≤(ix m.sT (ix q i).s.toNat).length:=by
      first|omega|simp_all
     have hN1:sI m s q i (k1+1) q2 mm2:=by
      exact LM hI1 hc2 rfl rfl (by simpa using hc3)
     exact ln (⟨k1+1,v2,q2,mm2⟩:Nat × Value × (List WalkM.Mt) × (List ((Int × Int) × Bool))) ⟨hN0,hN1⟩ dO ⟨id,id,id,id,id,id,id,id,id,id,tV⟩ ⟨rI,rI,rI,rI,rI,rI,rI,tV⟩
   ·try simp at hc2
    refine ex (xt_ (xt_ (xb (eb (th (rg (mv (bi J J (aG i6) (ag (nl ?_))))))))))
    have hN0:QJ m s q2∧qP mm2 q2∧(i+1)≤q2.length∧∀k,k<(i+1)→lA m s q2 k:=by
     exact Ou hI1 hc0 hacc O
    exact ln (⟨i+1,v2,q2,mm2⟩:Nat × Value × (List WalkM.Mt) × (List ((Int × Int) × Bool))) hN0 dO ⟨id,id,id,id,id,id,tV⟩ ⟨rI,rI,rI,rI,rI,tV⟩
 ·try simp at hc0
  refine ex (xt_ (xt_ (xb (th (sq (rg (bd (css:= [(0,_)]) T.VE (eC (eC (eC (eC eZ)))) ⟨J,J,p1 (φ:=bl true) J,tV⟩ (al (key:=13) T.z68 (eC (eC (eC (eC eZ)))) fun b13=>(sPA (cs':= [bl true,eqv (.slice none 0 0),eqv (.slice none 0 0),int 0]) J J J T.yY J J (nl (th (sq (sq (rg (mv (lnO J J T.wI (mv (nl (th (bk ?_))))))))))))))))))))
  refine nwC 130 80 2 pE (iJ 13 1 (osl 130 (.slice none 0 0)) rfl rfl cS ?_)
  have hI2_0:0≤q.length:=by
   first|omega|simp
  have hI2_1:([]:List (Int × Int))=(q.take 0).map dM:=by
   rfl
  refine lp (κ:=Nat × Value × (List (Int × Int))) (fun p=> [(4,ptr 4 b4 0),(13,ptr 13 b13 0),(92,osl 21 v),(93,int (q.length:Int)),(94,int (p.1:Int))]) (fun p=> [(2,cell b2 [sl 1 rE_ m.aC,sl 1 gE m.sT]),(3,cell b3 [sl 1 rE_ s.aC,sl 2 sE s.sT]),(4,cell b4 [bl false,eqv (.slice none 0 0),eqv (.slice none 0 0),int 0]),(13,cell b13 [bl true,osl 130 p.2.1,eqv (.slice none 0 0),int 0]),(16,mp b16 dK jG blV mm),(21,own v 155 4 pK q),(130,own p.2.1 80 2 pE p.2.2)]) (fun p=>(p.1≤q.length)∧(p.2.2=(q.take p.1).map dM)) (fun p=>q.length- p.1) ⟨0,(.slice none 0 0),([]:List (Int × Int))⟩ ⟨hI2_0,hI2_1⟩ ⟨id,id,id,id,id,tV⟩ ⟨rI,rI,rI,rI,rI,rI,rI,tV⟩ ?_
  intro⟨k2,vp,prs⟩ hG2
  obtain⟨hk2,hI2⟩:(k2≤q.length)∧(prs=(q.take k2).map dM):=hG2
  show Ct _ _ _ _ [(4,ptr 4 b4 0),(13,ptr 13 b13 0),(92,osl 21 v),(93,int (q.length:Int)),(94,int (k2:Int))] [(2,cell b2 [sl 1 rE_ m.aC,sl 1 gE m.sT]),(3,cell b3 [sl 1 rE_ s.aC,sl 2 sE s.sT]),(4,cell b4 [bl false,eqv (.slice none 0 0),eqv (.slice none 0 0),int 0]),(13,cell b13 [bl true,osl 130 vp,eqv (.slice none 0 0),int 0]),(16,mp b16 dK jG blV mm),(21,own v 155 4 pK q),(130,own vp 80 2 pE prs)] _
  have hpl:prs.length≤k2:=by rw[hI2];simp;omega
  refine sq (rg (bi J J aO (nl (th (sq ?_)))))
  refine cd J (fun hc4=> ?_) (fun hc4=> ?_)
  ·try simp at hc4
   refine sk (th (sq (bk (sq (rg (iO J J J T.wI O O (lOA J J gB T.Mh (by decide) (al (key:=15) T.Yb (eC (eC (eC (eC eZ)))) fun b15=>(sPA (cs':= [int (ix q k2).before,int (ix q k2).action,int (ix q k2).s,int (ix q k2).t]) J J J T.Mh J J (nl (th (rg (fP J T.CP (lP J J J T.lX (fP J T.FY (lPA J J T.dG J (bs (css:= [[int (ix q k2).s,int (ix q k2).t]]) T.lG ⟨J,J,pA (cs:= [int (ix q k2).s,int (ix q k2).t]) J,tV⟩ J J J (ap (key:=130) (zs:= [((ix q k2).s,(ix q k2).t)]) bP J J J T.lG (by unfold aQ at*;simp;omega) (by unfold aQ at*;simp;omega) fun v103=>(fP J T.CP (bY J J J J T.lX J (nl (eb (th (rg (bi J J (aG i6) (mv (nl ?_)))))))))))))))))))))))))))
   have hN0:(k2+1)≤q.length:=by
    first|omega|simp_all
   have hN1:(prs++ [((ix q k2).s,(ix q k2).t)])=(q.take (k2+1)).map dM:=by
    rw[hI2,bJ hc4,List.map_append];rfl
   exact ln (⟨k2+1,v103,prs++ [((ix q k2).s,(ix q k2).t)]⟩:Nat × Value × (List (Int × Int))) ⟨hN0,hN1⟩ dO ⟨id,id,id,id,id,tV⟩ ⟨rI,rI,rI,rI,rI,rI,rI,tV⟩
  ·try simp at hc4
   refine ex (xt_ (xt_ (xb (th (sq (rg (fP J T.CP (lP J J J T.lX ?_))))))))
   have hbp:∀p∈prs,bdP p:=by rw[hI2,show k2=q.length by omega,List.take_length];exact VA hm hs hq
   refine cal (Hi:= [(130,own vp 80 2 pE prs)]) (φs:= [osl 5 vp,eqv (.func (.func 118) #[] #[])]) ⟨eO.trans eO.symm,rfl,tV⟩ (rN 5 130 (sortE.Hm vp prs aS)) T.Mi ⟨rI,tV⟩ fun _ _=>(nl (th (sq (rg (fzc 13 130 1 rfl rfl rfl rfl (lPA rfl rfl T.yY rfl (sPA (cs':= [bl true,sl 2 pE (cM prs),eqv (.slice none 0 0),int 0]) rfl rfl rfl T.yY rfl rfl (nl (th (rt ?_))))))))))
   refine gH 4 2 (sl 1 nE []) rfl rfl slnil ?_
   exact rE ⟨⟨true,cM prs,[],0⟩,⟨fun _=>⟨Sg hm hs hq (fun k hk=>hdone k O),J,J,q,hq,fun k hk=>hdone k O,by rw[hI2,show k2=q.length by omega,List.take_length]⟩,fun h=>(nomatch (show true=false from h))⟩⟩ [.cell 4 68] J [agg [bl true,sl 2 pE (cM prs),sl 1 nE [],int 0]] ⟨.agg J J T.yY J J,tV⟩ J trivial eX
end satj
end
section
namespace BesM
open ref01 ref03 ref04 ref06 Part Rungs LeftM TrimM RoundM MergeM BisM BisM4 BisM5 Keys WalkM WitM JudgM LevM divr divs divd dive divf divv judg sysw satj ChsM BisS TrimI QuoM FailM DivM RefM GenW CompM CompP prodp
abbrev Sd:=List Int × Int
def Yc (m:aB) (l:List Int):List Int:=l.map fun x=>bQ m x.toNat
def sA (m:aB) (t:SS) (p:Sd):List Int:=Md (Yc m p.1) (acc t p.2.toNat)
def sN (m:aB) (t:SS) (p:Sd) (a:Nat):Sd:=(dB m p.1 (a:Int),ix (nxt t p.2.toNat) a)
structure sOk (m:aB) (t:SS) (p:Sd):Prop where
 rise:p.1.Pairwise (· < ·)
 bd:∀x∈p.1,0≤x∧x<(m.sT.length:Int)
 x0:0≤p.2
 x1:p.2<(t.sT.length:Int)
structure Yd (m:aB) (t:SS) (l:List Sd) (D:SS):Prop where
 numb:pI (sA m t) (sN m t) m.aC.length ([0],0) l D
 ok:∀p∈l,sOk m t p
 acts:D.aC=m.aC
structure Yu (m:aB) (t D:SS):Prop where
 hol:ix (hOl t) 0=true→D=nothing t.aC
 num:ix (hOl t) 0=false→∃l,Yd m (tR t).1 l D∧l.length≤2^m.sT.length*t.sT.length
end BesM
end
section
namespace TogM
open ref01 ref03 ref04 ref06 Part Rungs LeftM TrimM RoundM BisM BisM5 BisM6 WalkM WitM JudgM FailM FitM PartM QuoM
variable {m n:aB} {t:SS}
theorem goT (hm:bE m) (hn:bE n) (ht:oK t) {p:T3} (hp:0≤p.1∧p.1<(m.sT.length:Int)∧0≤p.2.1∧p.2.1<(n.sT.length:Int)∧0≤p.2.2∧p.2.2<(t.sT.length:Int)) (hb:¬JW m n t p) {d e:PP} (hd:d∈edg m p.1.toNat) (he:e∈edg n p.2.1.toNat) (h:d.1=e.1):
 0≤d.2∧d.2<(m.sT.length:Int)∧0≤e.2∧e.2<(n.sT.length:Int)∧0≤ix (nxt t p.2.2.toNat) d.1.toNat∧ix (nxt t p.2.2.toNat) d.1.toNat<(t.sT.length:Int)∧d.1.toNat<t.aC.length:=by
 obtain⟨p0,p1,p2,p3,p4,p5⟩:=hp
 have h1:=hm.ed p.1.toNat O d hd
 have h2:=hn.ed p.2.1.toNat O e he
 have hz:p.2.2.toNat<t.sT.length:=by omega
 have hin:cC (bQ m p.1.toNat) (bQ n p.2.1.toNat)∈acc t p.2.2.toNat:=Classical.byContradiction hb
 have hg:=LeftM.xI (ht.st _ hz) hin (a:=d.1.toNat) (by rw[QuoM.rM,iE.2 ⟨d,hd,rfl⟩,iE.2 ⟨e,he,by rw[h]⟩];rfl)
 exact⟨h1.2.2.1,h1.2.2.2,h2.2.2.1,h2.2.2.2,hg.2,((ht.st _ hz).nx _ hg.1).2,hg.1⟩
theorem nH (hm:bE m) (hn:bE n) (ht:oK t) {p:T3} (h:nG m n t p):0≤p.1∧p.1<(m.sT.length:Int)∧0≤p.2.1∧p.2.1<(n.sT.length:Int)∧0≤p.2.2∧p.2.2<(t.sT.length:Int):=by
 induction h with
 |zero=>
  have f1:=hm.few0
  have f2:=hn.few0
  have f3:=ht.few0
  exact⟨by simp,by show(0:Int)<_;omega,by simp,by show(0:Int)<_;omega,by simp,by show(0:Int)<_;omega⟩
 |step h1 h2 h3 h4 h5 ih=>
  have:=goT hm hn ht ih h2 h3 h4 h5
  exact⟨this.1,this.2.1,this.2.2.1,this.2.2.2.1,this.2.2.2.2.1,this.2.2.2.2.2.1⟩
def Pd (t:SS) (p:T3) (d e:PP):T3:=(d.2,e.2,ix (nxt t p.2.2.toNat) d.1.toNat)
structure TW (m n:aB) (t:SS) (i:Nat) (l:List T3):Prop where
 nd:l.Nodup
 z:((0,0,0):T3)∈l
 rch:∀p∈l,nG m n t p
 il:i≤l.length
 dn:∀j,j<i→¬JW m n t (ix l j)∧∀d∈edg m (ix l j).1.toNat,∀e∈edg n (ix l j).2.1.toNat,d.1=e.1→Pd t (ix l j) d e∈l
structure TN (m n:aB) (t:SS) (i:Nat) (l:List T3) (k1 k2:Nat) (l2:List T3):Prop where
 nd:l2.Nodup
 rch:∀p∈l2,nG m n t p
 pre:l<+:l2
 al1:∀d∈(edg m (ix l i).1.toNat).take k1,∀e∈edg n (ix l i).2.1.toNat,d.1=e.1→Pd t (ix l i) d e∈l2
 al2:∀e∈(edg n (ix l i).2.1.toNat).take k2,(ix (edg m (ix l i).1.toNat) k1).1=e.1→Pd t (ix l i) (ix (edg m (ix l i).1.toNat) k1) e∈l2
variable {i k1 k2:Nat} {l l2:List T3}
def Xe (b c:Nat) (p:T3):Nat:=(p.1.toNat*b+p.2.1.toNat)*c+p.2.2.toNat
def Ye (a b c:Nat) (p:T3):Prop:=0≤p.1∧p.1<(a:Int)∧0≤p.2.1∧p.2.1<(b:Int)∧0≤p.2.2∧p.2.2<(c:Int)
structure Tab (a b c:Nat) (l:List T3) (inn:List Bool):Prop where
 len:inn.length=a*b*c
 at_:∀p,Ye a b c p→ix inn (Xe b c p)=decide (p∈l)
end TogM
end
section
namespace BrkM
open ref01 ref03 ref04 ref06 Part Rungs LeftM TrimM RoundM BisM BisM5 BisM6 WalkM WitM JudgM FailM FitM PartM QuoM TogM
def pm (p:T3):T3:=(p.2.2,p.1,p.2.1)
structure BW (m x:aB) (t:SS) (i:Nat) (l:List T3) (mm:List (T3 × Bool)):Prop where
 tw:TW m x t i (l.map pm)
 sm:JQ mm l
structure BN (m x:aB) (t:SS) (i:Nat) (l:List T3) (k1 k2:Nat) (l2:List T3) (mm2:List (T3 × Bool)):Prop where
 tn:TN m x t i (l.map pm) k1 k2 (l2.map pm)
 sm:JQ mm2 l2
variable {m x:aB} {t:SS} {i k1 k2:Nat} {l l2:List T3} {mm mm2:List (T3 × Bool)}
def tgt (t:SS) (p:T3) (d e:PP):T3:=(e.2,ix (nxt t p.2.1.toNat) e.1.toNat,d.2)
end BrkM
end
section
namespace ProdM
open ref01 ref03 ref04 ref06 Part Rungs LeftM TrimM RoundM BisM BisM5 BisM6 WalkM WitM JudgM FailM FitM PartM QuoM TogM sysw
abbrev pos (q:List PP) (p:PP):Nat:=q.idxOf p
theorem vB {q:List PP} {p:PP} (h:p∈q):pos q p<q.length:=List.idxOf_lt_length_of_mem h
theorem BO {q:List PP} {p:PP} (h:p∈q):ix q (pos q p)=p:=by rw[aF (vB h)];exact List.getElem_idxOf _
theorem SP {q r:List PP} {p:PP} (h:p∈q):pos (q++r) p=pos q p:=FH h
def lL (q F:List PP) (d:PP):List PP:=(F.filter fun e=>decide (d.1=e.1)).map fun e=>(d.1,(pos q ((d.2,e.2):PP):Int))
def kU (q E F:List PP):List PP:=E.flatMap (lL q F)
def sQ (q E F:List PP):Prop:=∀d∈E,∀e∈F,d.1=e.1→((d.2,e.2):PP)∈q
theorem wJ {q F:List PP} {d x:PP}:x∈lL q F d↔∃e∈F,d.1=e.1∧x=(d.1,(pos q ((d.2,e.2):PP):Int)):=by
 unfold lL
 rw[List.mem_map]
 constructor
 ·rintro⟨e,he,rfl⟩
  rw[List.mem_filter] at he
  exact⟨e,he.1,of_decide_eq_true he.2,rfl⟩
 ·rintro⟨e,he,h,rfl⟩
  exact⟨e,List.mem_filter.2 ⟨he,decide_eq_true h⟩,rfl⟩
theorem Aj {q E F:List PP} {x:PP}:x∈kU q E F↔∃d∈E,∃e∈F,d.1=e.1∧x=(d.1,(pos q ((d.2,e.2):PP):Int)):=by
 unfold kU
 rw[List.mem_flatMap]
 exact⟨fun⟨d,hd,h⟩=>⟨d,hd,wJ.1 h⟩,fun⟨d,hd,h⟩=>⟨d,hd,wJ.2 h⟩⟩
theorem FZ {q r F:List PP} {d:PP} (h:∀e∈F,d.1=e.1→((d.2,e.2):PP)∈q):lL (q++r) F d=lL q F d:=by
 unfold lL
 apply List.map_congr_left
 intro e he
 rw[List.mem_filter] at he
 rw[SP (h e he.1 (of_decide_eq_true he.2))]
theorem vC {α β:Type} {f g:α→List β}:∀{l:List α},(∀a∈l,f a=g a)→l.flatMap f=l.flatMap g
 | [],_=>rfl
 |a::l,h=>by rw[List.flatMap_cons,List.flatMap_cons,h a (List.mem_cons_self ..),vC (fun b hb=>h b (List.mem_cons_of_mem _ hb))]
theorem Ga {q r E F:List PP} (h:sQ q E F):kU (q++r) E F=kU q E F:=vC fun d hd=>FZ (h d hd)
theorem Iz {q:List PP} {x y:PP} (hx:x∈q) (hy:y∈q) (h:pos q x=pos q y):x=y:=by
 have h1:=BO hx
 have h2:=BO hy
 rw[h] at h1
 exact h1.symm.trans h2
theorem Ka {q F:List PP} {d:PP} (hF:F.Nodup) (h:∀e∈F,d.1=e.1→((d.2,e.2):PP)∈q):(lL q F d).Nodup:=by
 unfold lL
 rw[List.nodup_iff_pairwise_ne,List.pairwise_map]
 refine List.Pairwise.imp_of_mem ?_ (List.Nodup.sublist List.filter_sublist hF)
 intro a b ha hb hne e
 rw[List.mem_filter] at ha hb
 have a1:=of_decide_eq_true ha.2
 have b1:=of_decide_eq_true hb.2
 simp only [Prod.mk.injEq,true_and] at e
 have:=Iz (h a ha.1 a1) (h b hb.1 b1) O
 exact hne (Prod.ext (a1.symm.trans b1) (Prod.mk.inj this).2)
theorem BQ {q F:List PP} (hF:F.Nodup):∀{E:List PP},E.Nodup→sQ q E F→(kU q E F).Nodup
 | [],_,_=>List.nodup_nil
 |d::E,hE,h=>by
  unfold kU
  rw[List.flatMap_cons,List.nodup_append]
  have hd:=List.nodup_cons.1 hE
  refine⟨Ka hF (h d (List.mem_cons_self ..)),BQ hF hd.2 (fun a ha=>h a (List.mem_cons_of_mem _ ha)),fun x hx y hy e=> ?_⟩
  obtain⟨e1,he1,h1,rfl⟩:=wJ.1 hx
  obtain⟨d2,hd2,e2,he2,h2,rfl⟩:=Aj.1 (show y∈kU q E F from hy)
  simp only [Prod.mk.injEq] at e
  have:=Iz (h d (List.mem_cons_self ..) e1 he1 h1) (h d2 (List.mem_cons_of_mem _ hd2) e2 he2 h2) O
  have:d=d2:=Prod.ext e.1 (Prod.mk.inj this).1
  exact hd.1 (this▸hd2)
theorem Gb {q F:List PP} {d:PP}:(lL q F d).length≤F.length:=by
 unfold lL
 rw[List.length_map];exact List.length_filter_le _ _
theorem Ak {q F:List PP}:∀{E:List PP},(kU q E F).length≤E.length*F.length
 | []=>by simp[kU]
 |d::E=>by
  unfold kU
  rw[List.flatMap_cons,List.length_append,List.length_cons,Nat.add_mul]
  have h1:=Gb (q:=q) (F:=F) (d:=d)
  have h2:(kU q E F).length≤E.length*F.length:=Ak
  unfold kU at h2
  omega
theorem Hw {A N:Nat} {l:List PP} (h:dU A N l=true):l.Nodup:=by
 unfold dU at h
 rw[Bool.and_eq_true] at h
 have hstep:∀j,j+1<l.length→ltP (ix l j) (ix l (j+1))=true:=fun j hj=>List.all_eq_true.1 h.2 j (List.mem_range.2 O)
 have key:∀d j,j+d+1<l.length→(ix l j).1<(ix l (j+d+1)).1∨((ix l j).1=(ix l (j+d+1)).1∧(ix l j).2<(ix l (j+d+1)).2):=by
  intro d
  induction d with
  |zero=>intro j hj;exact pF.1 (hstep j hj)
  |succ d ih=>
   intro j hj
   have h1:=ih j O
   have h2:=pF.1 (hstep (j+d+1) hj)
   rw[show j+(d+1)+1=j+d+1+1 by omega]
   omega
 rw[List.nodup_iff_pairwise_ne,List.pairwise_iff_getElem]
 intro i j hi hj hij e
 have:=key (j- i- 1) i O
 rw[show i+(j- i- 1)+1=j by omega,aF hi,aF hj,e] at this
 omega
theorem DJ {m:aB} (h:bL m=true) {x:Nat} (hx:x<m.sT.length):(edg m x).Nodup:=by
 unfold bL at h
 simp only [Bool.and_eq_true] at h
 exact Hw (uT h.1.2 hx)
structure mQ (m n k:aB) (q:List PP):Prop where
 acts:k.aC=m.aC
 ne:0<q.length
 hd:ix q 0=((0,0):PP)
 nd:q.Nodup
 box:∀p∈q,0≤p.1∧p.1<(m.sT.length:Int)∧0≤p.2∧p.2<(n.sT.length:Int)
 len:k.sT.length=q.length
 all:∀i,i<q.length→sQ q (edg m (ix q i).1.toNat) (edg n (ix q i).2.toNat)
 row:∀i,i<q.length→edg k i=cM (kU q (edg m (ix q i).1.toNat) (edg n (ix q i).2.toNat))
variable {m n k:aB} {t:SS} {q:List PP}
theorem pL (h:mQ m n k q) {i:Nat} (hi:i<q.length) {x:PP}:x∈edg k i↔∃d∈edg m (ix q i).1.toNat,∃e∈edg n (ix q i).2.toNat,d.1=e.1∧x=(d.1,(pos q ((d.2,e.2):PP):Int)):=by
 rw[h.row i hi,(fL _).mem_iff,Aj]
theorem Pe {a b c:Int} (ha:0≤a) (h:∀i:Nat,has a (i:Int)=(has b (i:Int)&&has c (i:Int))):a=cC b c:=by
 have h1:a.toNat=b.toNat&&&c.toNat:=by
  apply Nat.eq_of_testBit_eq
  intro i
  have:=h i
  unfold has at this
  simp only [Int.toNat_natCast] at this
  rw[Nat.testBit_and];exact this
 unfold cC
 omega
theorem Gc (hm:bE m) (hn:bE n) (h:mQ m n k q) {i:Nat} (hi:i<q.length):bQ k i=cC (bQ m (ix q i).1.toNat) (bQ n (ix q i).2.toNat):=by
 have hb:=h.box _ (aX hi)
 refine Pe (rX _) fun a=> ?_
 rw[Bool.eq_iff_iff,Bool.and_eq_true]
 show has (dS (edg k i)) (a:Int)=true↔has (dS (edg m _)) (a:Int)=true∧has (dS (edg n _)) (a:Int)=true
 rw[iE,iE,iE]
 constructor
 ·rintro⟨x,hx,rfl⟩
  obtain⟨d,hd,e,he,hde,rfl⟩:=(pL h hi).1 hx
  exact⟨⟨d,hd,rfl⟩,⟨e,he,by rw[←hde]⟩⟩
 ·rintro⟨⟨d,hd,h1⟩,⟨e,he,h2⟩⟩
  have b1:=hm.ed _ O d hd
  have b2:=hn.ed _ O e he
  exact⟨_,(pL h hi).2 ⟨d,hd,e,he,O,rfl⟩,h1⟩
theorem Pf (hm:bE m) (hn:bE n) (ht:oK t) (h:mQ m n k q):iA k t↔wG m n t:=by
 constructor
 ·rintro⟨R,hR,h00⟩ p hp
  have key:∃i,i<q.length∧ix q i=((p.1,p.2.1):PP)∧R i p.2.2.toNat:=by
   induction hp with
   |zero=>exact⟨0,h.ne,h.hd,h00⟩
   |step h1 h2 hd he hde ih=>
    rename_i p d e
    obtain⟨i,hi,hq,hr⟩:=ih
    have e1:(ix q i).1=p.1:=congrArg Prod.fst hq
    have e2:(ix q i).2=p.2.1:=congrArg Prod.snd hq
    have hb:=nH hm hn ht h1
    have hx:=(pL h hi (x:=(d.1,(pos q ((d.2,e.2):PP):Int)))).2 ⟨d,by rw[e1];exact hd,e,by rw[e2];exact he,hde,rfl⟩
    have hin:=h.all i hi d (by rw[e1];exact hd) e (by rw[e2];exact he) hde
    have hm2:(d.1.toNat,pos q ((d.2,e.2):PP))∈edM k i:=List.mem_map.2 ⟨_,hx,rfl⟩
    have hn2:=hR.nxt hr _ hm2
    exact⟨_,vB hin,BO hin,hn2.2⟩
  obtain⟨i,hi,hq,hr⟩:=key
  have hac:=hR.acc hr
  rw[Gc hm hn h hi,hq] at hac
  exact fun hb=>hb hac
 ·intro hw
  have f2:=ht.few0
  refine⟨fun i z=>i<q.length∧nG m n t ((ix q i).1,(ix q i).2,(z:Int)),⟨fun {i z} ⟨hi,hr⟩=> ?_,fun {i z} ⟨hi,hr⟩=> ?_,fun {i z} ⟨hi,hr⟩ x hx=> ?_,fun {i z} ⟨hi,hr⟩ x hx=> ?_⟩,h.ne,by rw[h.hd];exact .zero⟩
  ·have:=(nH hm hn ht hr).2.2.2.2.2
   have this:(z:Int)<(t.sT.length:Int):=this
   omega
  ·have hb:=hw _ hr
   rw[Gc hm hn h hi]
   have hb:¬cC (bQ m (ix q i).1.toNat) (bQ n (ix q i).2.toNat)∉acc t (z:Int).toNat:=hb
   rw[Int.toNat_natCast] at hb
   exact Classical.byContradiction hb
  ·obtain⟨x',hx',rfl⟩:=List.mem_map.1 hx
   obtain⟨d,hd,e,he,hde,rfl⟩:=(pL h hi).1 hx'
   have hg:=goT hm hn ht (nH hm hn ht hr) (hw _ hr) hd he hde
   have hbx:=(nH hm hn ht hr).2.2.2.2.2
   have hbx:(z:Int)<(t.sT.length:Int):=hbx
   have hl:=(ht.st z O).len
   show d.1.toNat<(ix t.sT z).next.length
   rw[hl];exact hg.2.2.2.2.2.2
  ·obtain⟨x',hx',rfl⟩:=List.mem_map.1 hx
   obtain⟨d,hd,e,he,hde,rfl⟩:=(pL h hi).1 hx'
   have hg:=goT hm hn ht (nH hm hn ht hr) (hw _ hr) hd he hde
   have hin:=h.all i hi d hd e he hde
   have hs:=nG.step hr (hw _ hr) hd he hde
   have e0:ix (nxt t (z:Int).toNat) d.1.toNat=ix (nxt t z) d.1.toNat:=by rw[Int.toNat_natCast]
   have g0:0≤ix (nxt t z) d.1.toNat:=by rw[←e0];exact hg.2.2.2.2.1
   refine⟨g0,vB hin,?_⟩
   show nG m n t ((ix q (pos q ((d.2,e.2):PP))).1,(ix q (pos q ((d.2,e.2):PP))).2,((ix (nxt t z) d.1.toNat).toNat:Int))
   rw[BO hin,Int.toNat_of_nonneg g0,←e0]
   exact hs
theorem BR {α:Type} [DecidableEq α] (w:α→Nat):∀(q all:List α),q.Nodup→(∀p∈q,p∈all)→(q.map w).sum≤(all.map w).sum
 | [],_,_,_=>by simp
 |p::q,all,hnd,hs=>by
  have hp:=hs p (List.mem_cons_self ..)
  have h1:(all.map w).sum=w p+((all.erase p).map w).sum:=by
   have:=(List.perm_cons_erase hp).map w
   have:=this.sum_nat
   rw[this];simp
  have hd:=List.nodup_cons.1 hnd
  have h2:=BR w q (all.erase p) hd.2 (fun x hx=>(List.mem_erase_of_ne (show x≠p from fun e=>hd.1 (e▸hx))).2 (hs x (List.mem_cons_of_mem _ hx)))
  rw[h1,List.map_cons,List.sum_cons];omega
theorem DK (c:Nat):∀l:List Nat,(l.map fun x=>c*x).sum=c*l.sum
 | []=>by simp
 |x::l=>by rw[List.map_cons,List.sum_cons,DK c l,List.sum_cons,Nat.mul_add]
theorem SQ (f g:List Nat):∀(q:List PP),q.Nodup→(∀p∈q,0≤p.1∧p.1<(f.length:Int)∧0≤p.2∧p.2<(g.length:Int))→(q.map fun p=>ix f p.1.toNat*ix g p.2.toNat).sum≤f.sum*g.sum:=by
 intro q hnd hb
 have h1:=BR (fun p:PP=>ix f p.1.toNat*ix g p.2.toNat) q ((List.range f.length).flatMap fun i:Nat=>(List.range g.length).map fun j:Nat=>(((i:Nat):Int),((j:Nat):Int))) hnd (fun p hp=>by
  obtain⟨p0,p1,p2,p3⟩:=hb p hp
  rw[List.mem_flatMap]
  refine⟨p.1.toNat,List.mem_range.2 O,List.mem_map.2 ⟨p.2.toNat,List.mem_range.2 O,Prod.ext ?_ ?_⟩⟩
  ·show((p.1.toNat:Nat):Int)=p.1;omega
  ·show((p.2.toNat:Nat):Int)=p.2;omega)
 refine Nat.le_trans h1 (Nat.le_of_eq ?_)
 have hg:(List.range g.length).map (fun j=>ix g j)=g:=by
  apply List.ext_getElem (by simp)
  intro i h2 h3
  rw[List.getElem_map,List.getElem_range,aF h3]
 have hf:(List.range f.length).map (fun j=>ix f j)=f:=by
  apply List.ext_getElem (by simp)
  intro i h2 h3
  rw[List.getElem_map,List.getElem_range,aF h3]
 have key:∀l:List Nat,((l.flatMap fun i=>(List.range g.length).map fun j=>(((i:Nat):Int),((j:Nat):Int))).map fun p:PP=>ix f p.1.toNat*ix g p.2.toNat).sum=(l.map fun i=>ix f i).sum*g.sum:=by
  intro l
  induction l with
  |nil=>simp
  |cons i l ih=>
   rw[List.flatMap_cons,List.map_append,List.sum_append_nat,ih,List.map_cons,List.sum_cons,Nat.add_mul,List.map_map]
   congr 1
   have:((fun p:PP=>ix f p.1.toNat*ix g p.2.toNat) ∘ fun j:Nat=>(((i:Nat):Int),((j:Nat):Int)))=fun j=>ix f i*ix g j:=by
    funext j
    show ix f (i:Int).toNat*ix g (j:Int).toNat=_
    rw[Int.toNat_natCast,Int.toNat_natCast]
   rw[this]
   have h2:=DK (ix f i) ((List.range g.length).map fun j=>ix g j)
   rw[List.map_map] at h2
   rw[hg] at h2
   exact h2
 rw[key,hf]
structure PI (m n:aB) (i:Nat) (q:List PP) (mm:List (PP × Int)) (aJ:List (List PP)):Prop where
 ne:0<q.length
 hd:ix q 0=((0,0):PP)
 nd:q.Nodup
 box:∀p∈q,0≤p.1∧p.1<(m.sT.length:Int)∧0≤p.2∧p.2<(n.sT.length:Int)
 im:kT mm q
 il:i≤q.length
 dn:∀j,j<i→sQ q (edg m (ix q j).1.toNat) (edg n (ix q j).2.toNat)
 out:aJ=(List.range i).map fun j=>cM (kU q (edg m (ix q j).1.toNat) (edg n (ix q j).2.toNat))
structure PN (m n:aB) (i:Nat) (p:PP) (q:List PP) (mm:List (PP × Int)) (aJ:List (List PP)) (k1 k2:Nat) (l:List PP):Prop where
 pi:PI m n i q mm aJ
 hi:i<q.length
 pe:ix q i=p
 al1:sQ q ((edg m p.1.toNat).take k1) (edg n p.2.toNat)
 al2:∀e∈(edg n p.2.toNat).take k2,(ix (edg m p.1.toNat) k1).1=e.1→(((ix (edg m p.1.toNat) k1).2,e.2):PP)∈q
 es:l=kU q ((edg m p.1.toNat).take k1) (edg n p.2.toNat)++lL q ((edg n p.2.toNat).take k2) (ix (edg m p.1.toNat) k1)
theorem SR (hm:1≤m.sT.length) (hn:1≤n.sT.length):PI m n 0 [(0,0)] (cI [] (0,0) 0) []:=by
 refine⟨by simp,rfl,by simp,fun p hp=> ?_,Ol _,by simp,fun k hk=>absurd hk O,rfl⟩
 rw[List.mem_singleton.1 hp]
 exact⟨by simp,by show(0:Int)<_;omega,by simp,by show(0:Int)<_;omega⟩
theorem zJ {q r E F:List PP} (h:sQ q E F):sQ (q++r) E F:=fun d hd e he hde=>List.mem_append_left _ (h d hd e he hde)
variable {i k1 k2:Nat} {mm:List (PP × Int)} {aJ:List (List PP)} {p:PP} {l:List PP}
theorem Gd (h:PI m n i q mm aJ):q.length≤m.sT.length*n.sT.length:=kO _ _ q h.nd h.box
theorem SU (h:PI m n i q mm aJ) {p:PP} (hp:p∉q) (hb:0≤p.1∧p.1<(m.sT.length:Int)∧0≤p.2∧p.2<(n.sT.length:Int)):PI m n i (q++ [p]) (cI mm p (q.length:Int)) aJ:=by
 have hil:=h.il
 refine⟨by simp,by rw[wD h.ne];exact h.hd,?_,fun r hr=> ?_,qB h.im hp,by simp;omega,fun k hk=> ?_,?_⟩
 ·rw[List.nodup_append]
  exact⟨h.nd,by simp,fun a ha b hb e=>hp (by have:b=p:=(by simpa using hb);rw[←this,←e];exact ha)⟩
 ·rcases List.mem_append.1 hr with hr|hr
  ·exact h.box r hr
  ·have:r=p:=by simpa using hr
   subst this;exact hb
 ·rw[wD O]
  exact zJ (h.dn k hk)
 ·rw[h.out]
  refine List.map_congr_left (fun k hk=> ?_)
  have hk:=List.mem_range.1 hk
  rw[wD O,Ga (h.dn k hk)]
theorem SV (h:PI m n i q mm aJ) (hi:i<q.length):PN m n i (ix q i) q mm aJ 0 0 []:=⟨h,hi,rfl,fun d hd=>by simp at hd,fun e he=>by simp at he,by simp[kU,lL]⟩
theorem xU {q F:List PP} {d:PP} {k:Nat} (hk:k<F.length):lL q (F.take (k+1)) d=lL q (F.take k) d++(if d.1=(ix F k).1 then [(d.1,(pos q ((d.2,(ix F k).2):PP):Int))] else []):=by
 unfold lL
 rw[bJ hk,List.filter_append,List.map_append]
 congr 1
 by_cases g:d.1=(ix F k).1
 ·rw[if_pos g];simp[g]
 ·rw[if_neg g];simp[g]
theorem SX (h:PN m n i p q mm aJ k1 k2 l) (hk:k2<(edg n p.2.toNat).length) (hne:¬(ix (edg m p.1.toNat) k1).1=(ix (edg n p.2.toNat) k2).1):PN m n i p q mm aJ k1 (k2+1) l:=by
 refine⟨h.pi,h.hi,h.pe,h.al1,fun e he hde=> ?_,?_⟩
 ·rw[bJ hk,List.mem_append] at he
  rcases he with g|g
  ·exact h.al2 e g hde
  ·have:e=_:=List.mem_singleton.1 g
   subst this;exact absurd hde hne
 ·rw[xU hk,if_neg hne,List.append_nil];exact h.es
theorem VF (h:PN m n i p q mm aJ k1 k2 l) (hk:k2<(edg n p.2.toNat).length) (he:(ix (edg m p.1.toNat) k1).1=(ix (edg n p.2.toNat) k2).1) (hn:(bO mm ((ix (edg m p.1.toNat) k1).2,(ix (edg n p.2.toNat) k2).2)).isSome=true):
 PN m n i p q mm aJ k1 (k2+1) (l++ [((ix (edg m p.1.toNat) k1).1,(bO mm ((ix (edg m p.1.toNat) k1).2,(ix (edg n p.2.toNat) k2).2)).getD 0)]):=by
 rw[h.pi.im] at hn ⊢
 unfold Ex at hn ⊢
 by_cases hm:(((ix (edg m p.1.toNat) k1).2,(ix (edg n p.2.toNat) k2).2):PP)∈q
 ·rw[if_pos hm]
  refine⟨h.pi,h.hi,h.pe,h.al1,fun e hee hde=> ?_,?_⟩
  ·rw[bJ hk,List.mem_append] at hee
   rcases hee with g|g
   ·exact h.al2 e g hde
   ·have:e=_:=List.mem_singleton.1 g
    subst this;exact hm
  ·rw[xU hk,if_pos he,←List.append_assoc,←h.es];rfl
 ·rw[if_neg hm] at hn;cases hn
theorem VG (h:PN m n i p q mm aJ k1 k2 l) (hk:k2<(edg n p.2.toNat).length) (he:(ix (edg m p.1.toNat) k1).1=(ix (edg n p.2.toNat) k2).1) (hb:0≤(ix (edg m p.1.toNat) k1).2∧(ix (edg m p.1.toNat) k1).2<(m.sT.length:Int)∧0≤(ix (edg n p.2.toNat) k2).2∧(ix (edg n p.2.toNat) k2).2<(n.sT.length:Int))
 (hn:(bO mm ((ix (edg m p.1.toNat) k1).2,(ix (edg n p.2.toNat) k2).2)).isSome=false):
 PN m n i p (q++ [((ix (edg m p.1.toNat) k1).2,(ix (edg n p.2.toNat) k2).2)]) (cI mm ((ix (edg m p.1.toNat) k1).2,(ix (edg n p.2.toNat) k2).2) (q.length:Int)) aJ k1 (k2+1) (l++ [((ix (edg m p.1.toNat) k1).1,(q.length:Int))]):=by
 have hnq:(((ix (edg m p.1.toNat) k1).2,(ix (edg n p.2.toNat) k2).2):PP)∉q:=fun hm=>by
  rw[h.pi.im] at hn
  unfold Ex at hn
  rw[if_pos hm] at hn;cases hn
 have hi:=h.hi
 refine⟨SU h.pi hnq hb,by simp;omega,by rw[wD h.hi];exact h.pe,zJ h.al1,fun e hee hde=> ?_,?_⟩
 ·rw[bJ hk,List.mem_append] at hee
  rcases hee with g|g
  ·exact List.mem_append_left _ (h.al2 e g hde)
  ·have:e=_:=List.mem_singleton.1 g
   subst this;simp
 ·rw[Ga h.al1,xU hk,if_pos he,FZ h.al2,←List.append_assoc,←h.es]
  congr 3
  exact(congrArg (fun x:Nat=>(x:Int)) (HY hnq)).symm
theorem VH (h:PN m n i p q mm aJ k1 k2 l) (hk1:k1<(edg m p.1.toNat).length) (hk:(edg n p.2.toNat).length≤k2):PN m n i p q mm aJ (k1+1) 0 l:=by
 have h2:=h.al2
 have h3:=h.es
 rw[List.take_of_length_le hk] at h2 h3
 refine⟨h.pi,h.hi,h.pe,fun d hd e he hde=> ?_,fun e he=>by simp at he,?_⟩
 ·rw[bJ hk1,List.mem_append] at hd
  rcases hd with g|g
  ·exact h.al1 d g e he hde
  ·have:d=_:=List.mem_singleton.1 g
   subst this
   exact h2 e he hde
 ·rw[h3]
  unfold kU
  rw[bJ hk1,List.flatMap_append]
  simp[lL]
theorem VI (h:PN m n i p q mm aJ k1 k2 l) (hk2:k2=0) (hk1:(edg m p.1.toNat).length≤k1):PI m n (i+1) q mm (aJ++ [cM l]):=by
 have h1:=h.al1
 have h3:=h.es
 rw[List.take_of_length_le hk1] at h1 h3
 subst hk2
 have h4:l=kU q (edg m p.1.toNat) (edg n p.2.toNat):=by rw[h3];simp[lL]
 have hi:=h.hi
 have hpe:=h.pe
 refine⟨h.pi.ne,h.pi.hd,h.pi.nd,h.pi.box,h.pi.im,O,fun j hj=> ?_,?_⟩
 ·by_cases g:j=i
  ·rw[g,hpe];exact h1
  ·exact h.pi.dn j O
 ·rw[List.range_succ,List.map_append,←h.pi.out,h4]
  simp[hpe]
theorem Mj (h:PN m n i p q mm aJ k1 k2 l):l.length≤k1*(edg n p.2.toNat).length+k2:=by
 rw[h.es,List.length_append]
 have h1:=Ak (q:=q) (F:=edg n p.2.toNat) (E:=(edg m p.1.toNat).take k1)
 have h2:=Gb (q:=q) (F:=(edg n p.2.toNat).take k2) (d:=ix (edg m p.1.toNat) k1)
 have h3:((edg m p.1.toNat).take k1).length≤k1:=List.length_take_le _ _
 have h4:((edg n p.2.toNat).take k2).length≤k2:=List.length_take_le _ _
 have h5:=Nat.mul_le_mul_right (edg n p.2.toNat).length h3
 omega
theorem Xf (hm:bE m) (h:PN m n i p q mm aJ k1 k2 l):∀x∈l,0≤x.1∧x.1<8∧0≤x.2∧x.2<(q.length:Int):=fun x hx=>by
 obtain⟨b0,b1,_,_⟩:=h.pi.box p (by rw[←h.pe];exact aX h.hi)
 have hm8:=hm.n8
 rw[h.es,List.mem_append] at hx
 rcases hx with g|g
 ·obtain⟨d,hd,e,he,hde,rfl⟩:=Aj.1 g
  have h1:=hm.ed _ O d (List.mem_of_mem_take hd)
  have h2:=vB (h.al1 d hd e he hde)
  exact⟨h1.1,by show d.1<8;omega,by show(0:Int)≤((pos q _:Nat):Int);omega,by show((pos q _:Nat):Int)<_;omega⟩
 ·obtain⟨e,he,hde,rfl⟩:=wJ.1 g
  have h2:=vB (h.al2 e he hde)
  by_cases hk:k1<(edg m p.1.toNat).length
  ·have h1:=hm.ed _ O _ (aX hk)
   exact⟨h1.1,by show(ix (edg m p.1.toNat) k1).1<8;omega,by show(0:Int)≤((pos q _:Nat):Int);omega,by show((pos q _:Nat):Int)<_;omega⟩
  ·have e0:ix (edg m p.1.toNat) k1=(0,0):=by unfold ix;rw[List.getD_eq_getElem?_getD,List.getElem?_eq_none O];rfl
   rw[e0]
   rw[e0] at h2
   exact⟨by show(0:Int)≤0;omega,by show(0:Int)<8;omega,by show(0:Int)≤((pos q _:Nat):Int);omega,by show((pos q _:Nat):Int)<_;omega⟩
theorem SY (h:PI m n i q mm aJ) (hi:q.length≤i):mQ m n ⟨m.aC,aJ⟩ q:=by
 have hil:=h.il
 have e:i=q.length:=by omega
 subst e
 refine⟨rfl,h.ne,h.hd,h.nd,h.box,by rw[h.out];simp,h.dn,fun j hj=> ?_⟩
 show ix aJ j=_
 rw[h.out,aF (by simpa using hj)]
 simp
def wgt (m n:aB) (p:PP):Nat:=(edg m p.1.toNat).length*(edg n p.2.toNat).length
def iC (m n:aB) (q:List PP) (i:Nat):Nat:=((q.take i).map (wgt m n)).sum
theorem SZ {r:List PP} (hi:i≤q.length):iC m n (q++r) i=iC m n q i:=by
 unfold iC
 rw[List.take_append_of_le_length hi]
theorem wK (hi:i<q.length):iC m n q (i+1)=iC m n q i+wgt m n (ix q i):=by
 unfold iC
 rw[bJ hi,List.map_append,List.sum_append_nat];simp
theorem IA (hnd:q.Nodup) (hbx:∀p∈q,0≤p.1∧p.1<(m.sT.length:Int)∧0≤p.2∧p.2<(n.sT.length:Int)) (j:Nat):iC m n q j≤bU m.sT*bU n.sT:=by
 have h1:=SQ (m.sT.map List.length) (n.sT.map List.length) (q.take j) (List.Nodup.sublist (List.take_sublist _ _) hnd) (fun p hp=>by simpa using hbx p (List.mem_of_mem_take hp))
 unfold bU
 refine Nat.le_trans (Nat.le_of_eq ?_) h1
 unfold iC
 congr 1
 refine List.map_congr_left fun p hp=> ?_
 obtain⟨p0,p1,p2,p3⟩:=hbx p (List.mem_of_mem_take hp)
 unfold wgt
 have e1:ix (m.sT.map List.length) p.1.toNat=(edg m p.1.toNat).length:=by rw[aF (by simp;omega),List.getElem_map,←aF (xs:=m.sT) O]
 have e2:ix (n.sT.map List.length) p.2.toNat=(edg n p.2.toNat).length:=by rw[aF (by simp;omega),List.getElem_map,←aF (xs:=n.sT) O]
 rw[e1,e2]
theorem Ge (h:PI m n i q mm aJ) (j:Nat):iC m n q j≤bU m.sT*bU n.sT:=IA h.nd h.box j
theorem Pg (h:mQ m n k q):q.length≤m.sT.length*n.sT.length:=kO _ _ q h.nd h.box
theorem Ph (h:mQ m n k q):bU k.sT≤iC m n q q.length:=by
 have key:∀j,j≤q.length→bU (k.sT.take j)≤iC m n q j:=by
  intro j
  induction j with
  |zero=>intro _;simp[bU]
  |succ j ih=>
   intro hj
   have hl:=h.len
   rw[bJ (show j<k.sT.length by omega),kP,wK O]
   have h1:=ih O
   have h2:(ix k.sT j).length≤wgt m n (ix q j):=by
    have:=h.row j O
    have e:(ix k.sT j)=cM _:=this
    rw[e,(fL _).length_eq]
    exact Ak
   omega
 have:=key q.length (Nat.le_refl _)
 rwa [List.take_of_length_le (by rw[h.len];exact Nat.le_refl _)] at this
theorem Kb (hm:bL m=true) (hn:bL n=true) (h:mQ m n k q) (h5:q.length≤5000) (h4:bU k.sT≤400000):bL k=true:=by
 have hm1:=eI hm
 have hn1:=eI hn
 have hed:∀j,j<q.length→dU k.aC.length k.sT.length (edg k j)=true:=fun j hj=>by
  obtain⟨b0,b1,b2,b3⟩:=h.box _ (aX hj)
  have hnd:(edg k j).Nodup:=by
   rw[h.row j hj]
   exact(fL _).nodup_iff.2 (BQ (DJ hn O) (DJ hm O) (h.all j hj))
  have hso:(edg k j).Pairwise (fun p q=>p.1<q.1∨(p.1=q.1∧p.2≤q.2)):=by rw[h.row j hj];exact sF _
  refine sJ (fun i hi=> ?_) (fun i hi=> ?_)
  ·obtain⟨d,hd,e,he,hde,hx⟩:=(pL h hj).1 (aX hi)
   have g1:=hm1.ed _ O d hd
   have g2:=vB (h.all j hj d hd e he hde)
   rw[eD,hx,h.acts,h.len]
   exact⟨g1.1,g1.2.1,by show(0:Int)≤((pos q _:Nat):Int);omega,by show((pos q _:Nat):Int)<_;omega⟩
  ·rw[aF (show i<(edg k j).length by omega),aF hi]
   have g1:=(List.pairwise_iff_getElem.1 hso) i (i+1) O hi O
   have g2:=(List.pairwise_iff_getElem.1 hnd) i (i+1) O hi O
   rw[pF]
   rcases g1 with g|⟨g,g'⟩
   ·exact .inl g
   ·refine .inr ⟨g,?_⟩
    rcases Int.lt_or_eq_of_le g' with c|c
    ·exact c
    ·exact absurd (Prod.ext g c) g2
 have hne:=h.ne
 have hl:=h.len
 unfold bL
 rw[h.acts,hm1.acts,decide_eq_true (show 1≤k.sT.length by omega),decide_eq_true (show k.sT.length≤5000 by omega),decide_eq_true h4]
 simp only [Bool.true_and,Bool.and_true]
 refine List.all_eq_true.2 fun l hl2=> ?_
 obtain⟨x,hx,rfl⟩:=List.getElem_of_mem hl2
 rw[←h.acts,←aF hx]
 exact hed x O
end ProdM
end
section
namespace SatC
open ref01 ref03 ref04 ref06 Part Rungs LeftM TrimM RoundM MergeM BisM BisM4 BisM5 BisM6 Keys WalkM WitM JudgM LevM divr divs divd dive divf divv judg sysw satj ChsM BisS TrimI QuoM FailM DivM RefM GenW CompM CompP prodp TogM ProdM BesM
variable {m n k:aB} {q:List PP}
end SatC
end
section
namespace OrdM
open ref01 ref03 ref04 ref06 Part Rungs LeftM TrimM RoundM MergeM BisM BisM2 BisM4 BisM5 BisM6 Keys WalkM WitM JudgM JudgM2 LevM divr divs divd dive divf divv judg sysw satj ChsM BisS TrimI QuoM FailM DivM RefM GenW CompM CompP prodp TogM ProdM BesM SevM SatC
theorem DL {s:SS} (hs:oK s) (e:ix (hOl s) 0=false):∀x,x<(tR s).1.sT.length→acc (tR s).1 x≠[]:=fun x hx=>by
 have h:(tR s).1=tS s:=by rw[dV e]
 rw[h] at hx ⊢
 exact List.ne_nil_of_length_pos (WX hs e hx)
section
variable {S T:SS} (hS:oK S) (hT:oK T) (h1:∀x,x<S.sT.length→acc S x≠[]) (h2:∀x,x<T.sT.length→acc T x≠[]) (hc:(cL S T).length≤500)
include hS hT h1 h2 hc
end
end OrdM
end
section
namespace KeepK
open ref01 ref03 ref04 ref06 Part Rungs LeftM TrimM RoundM MergeM BisM BisM4 BisM5 BisM6 Keys WalkM WitM JudgM JudgM2 LevM divr divs divd dive divf divv judg sysw satj ChsM BisS TrimI QuoM FailM DivM RefM GenW CompM
def yZ (u:Int) (x:SA):SA:=⟨x.aP.filter fun v=>decide (cC v u=u),x.next⟩
def bD (u:Int) (s:SS):SS:=⟨s.aC,s.sT.map (yZ u)⟩
theorem nT (u:Int) (s:SS):(bD u s).sT.length=s.sT.length:=by simp[bD]
theorem Al {u:Int} {s:SS} {k:Nat} (hk:k<s.sT.length):ix (bD u s).sT k=yZ u (ix s.sT k):=CB hk
theorem tU {u:Int} {s:SS} {k:Nat} (hk:k<s.sT.length) {v:Int}:v∈acc (bD u s) k↔v∈acc s k∧cC v u=u:=by
 show v∈(ix (bD u s).sT k).aP↔_
 rw[Al hk]
 show v∈(ix s.sT k).aP.filter _↔_
 rw[List.mem_filter,decide_eq_true_eq]
theorem rJ {u:Int} {s:SS} {k:Nat} (hk:k<s.sT.length):nxt (bD u s) k=nxt s k:=by
 show(ix (bD u s).sT k).next=_
 rw[Al hk];rfl
theorem jP {s:SS} (hs:oK s) (u:Int):oK (bD u s):=by
 refine⟨hs.acts,hs.n8,by rw[nT];exact hs.few0,by rw[nT];exact hs.few1,fun k hk=> ?_⟩
 rw[nT] at hk ⊢
 have h:=hs.st k hk
 rw[Al hk]
 have hin:∀{i:Nat},i<((ix s.sT k).aP.filter fun v=>decide (cC v u=u)).length→∃j,j<(ix s.sT k).aP.length∧ix (ix s.sT k).aP j=ix ((ix s.sT k).aP.filter fun v=>decide (cC v u=u)) i:=fun {i} hi=>mM (List.mem_filter.1 (aX hi)).1
 refine⟨h.len,h.nx,fun i hi=> ?_,fun i hi a ha=> ?_,xM ((nQ h.rise).filter _)⟩
 ·obtain⟨j,hj,e⟩:=hin hi
  have:=h.ac j hj
  rw[e] at this;exact this
 ·obtain⟨j,hj,e⟩:=hin hi
  exact h.go j hj a (by rw[e];exact ha)
theorem xV {s:SS} (hs:oK s) (hf:s.sT.length≤500) (u:Int):Same (tR (bD u s)).1 (bD u s):=by
 have hk:=jP hs u
 have hr:=FN hk hk rfl ⟨FM hk,FM hk⟩
 have:=Af hk
 rw[nT] at this
 exact⟨mA hk,O,qD _,DI hk,hr.1,hr.2⟩
inductive Am (m:aB):Nat→Prop
 |zero:Am m 0
 |step {x:Nat} {e:PP}:Am m x→e∈edg m x→Am m e.2.toNat
def qF (m:aB) (u:Int):Prop:=∀x,Am m x→cC (bQ m x) u=u
theorem DN {m:aB} {s:SS} {u:Int}:iA m (bD u s)↔iA m s∧qF m u:=by
 constructor
 ·rintro⟨R,hR,r⟩
  have hb:∀{x y},R x y→y<s.sT.length:=fun h=>by have:=hR.bd h;rwa [nT] at this
  refine⟨⟨R,⟨fun h=>hb h,fun h=>((tU (hb h)).1 (hR.acc h)).1,fun {x y} h e he=>by have:=hR.len h e he;rwa [rJ (hb h)] at this,fun {x y} h e he=>by have:=hR.nxt h e he;rwa [rJ (hb h)] at this⟩,r⟩,fun x hx=> ?_⟩
  have key:∃y,R x y:=by
   induction hx with
   |zero=>exact⟨0,r⟩
   |step h1 h2 ih=>
    rename_i x e
    obtain⟨y,hy⟩:=ih
    exact⟨_,(hR.nxt hy (e.1.toNat,e.2.toNat) (List.mem_map.2 ⟨e,h2,rfl⟩)).2⟩
  obtain⟨y,hy⟩:=key
  exact((tU (hb hy)).1 (hR.acc hy)).2
 ·rintro⟨⟨R,hR,r⟩,hk⟩
  refine⟨fun x y=>R x y∧Am m x,⟨fun h=>by rw[nT];exact hR.bd h.1,fun {x y} h=>(tU (hR.bd h.1)).2 ⟨hR.acc h.1,hk _ h.2⟩,fun {x y} h e he=>by rw[rJ (hR.bd h.1)];exact hR.len h.1 e he,fun {x y} h e he=> ?_⟩,r,.zero⟩
  rw[rJ (hR.bd h.1)]
  have:=hR.nxt h.1 e he
  obtain⟨e',he',rfl⟩:=List.mem_map.1 he
  exact⟨this.1,this.2,.step h.2 he'⟩
theorem Mk {m:aB} {s:SS} (hs:oK s) {u:Int}:iA m (tR (bD u s)).1↔iA m s∧qF m u:=by
 rw[←DN]
 unfold iA
 rw[tQ (mA (jP hs u)) (xQ m),tQ (jP hs u) (xQ m)]
 exact⟨fun h=>yQ h (sL (jP hs u)),fun h=>yQ h (sL (jP hs u)).symm⟩
end KeepK
end
section
open ref01 ref03 ref04 ref06 prog prog2 prog3 prog6 prog9 Part Rungs LeftM TrimM RoundM MergeM BisM BisM4 BisM5 QuoM KeepK
theorem Ml {u:Int} {l:List Int} {k:Nat} (hk:k<l.length) (h:cC (ix l k) u=u):(l.take (k+1)).filter (fun v=>decide (cC v u=u))=(l.take k).filter (fun v=>decide (cC v u=u))++ [ix l k]:=by
 rw[bJ hk,List.filter_append]
 simp[h]
theorem Kc {u:Int} {l:List Int} {k:Nat} (hk:k<l.length) (h:¬cC (ix l k) u=u):(l.take (k+1)).filter (fun v=>decide (cC v u=u))=(l.take k).filter (fun v=>decide (cC v u=u)):=by
 rw[bJ hk,List.filter_append]
 simp[h]
theorem Gf {n:Nat} {u:Int} (hn:n≤8) (h:eG (n:Int) u=true):0≤u∧u<256:=by
 unfold eG at h
 rw[Bool.and_eq_true,decide_eq_true_eq,decide_eq_true_eq,Int.toNat_natCast] at h
 have h2:2^n≤2^8:=Nat.pow_le_pow_right O hn
 omega
namespace T
theorem QX:Ent Tryz.prog 73:=aN kR
end T
namespace mkk
theorem Mm (n s:Int) (h0:0≤n) (h1:n<63):
 Fn0 Tryz.prog 61 [int n,int s] (bl (eG n s)):=by
 refine fnI Tryz.func61 rfl rfl (fun w0 F0=> ?_)
 refine sq (rg (ag (nl (th (sq (rg (mv (bi J J fK (mv ?_)))))))))
 apply cZ (t:=7) (pd:=12) rfl
 rotate_left
 ·intro hg0 fin
  have hg0':=hg0
  try simp at hg0'
  exact gy J J J hg0 (mv (gy J J J hg0 (mv (gy J J J hg0 (bi J J (pX O O) (gy J J J hg0 (bi J J aO (pkT J hg0 J (drp (X:= [(11,_),(10,_),(9,_),(8,_)]) ⟨J,J,J,J,tV⟩ fin)))))))))
 ·intro hg0 fin
  exact gn J J J hg0 J J (gn J J J hg0 J J (gn J J J hg0 J J (gn J J J hg0 J J (pkF J hg0 J (drp (X:= [(11,_),(10,_),(9,_),(8,_)]) ⟨J,J,J,J,tV⟩ fin)))))
 refine ag (nl (th (rt ?_)))
 have hr0:((decide (0≤s))&&(decide (s<((2^n.toNat:Nat):Int))))=(eG n s):=by
  first|rfl|simp_all|omega
 exact rE () [.tmp 4] J [bl ((decide (0≤s))&&(decide (s<((2^n.toNat:Nat):Int))))] ⟨.tmp J,tV⟩ (cA1 (fun x0=>rV [bl x0]) hr0) trivial eX
theorem Kd (s:SS) (hs:oK s) (u:Int) (h0:0≤u) (h1:u<256):
 Fn0 Tryz.prog 72 [spec s,int u] (spec (tR (bD u s)).1):=by
 refine fnI Tryz.func72 rfl rfl (fun w0 F0=> ?_)
 have hko:=jP hs u;have hf1:=hs.few1;have hn8:=hs.n8
 refine fcC (bV 0 J) (fun hS0=> ?_)
 obtain⟨hsa0,hss0,hse0⟩:=sLn hS0
 refine sq (rg (bx (key:=2) (cs:= [sl 1 rE_ s.aC,sl 2 sE s.sT]) J fun b2=>(al (key:=4) T.z28 (eC (eC eZ)) fun b4=>(nl (th (sq (rg (fP J T.cP (lP J J J T.cK (bd (css:= [(0,_)]) T.nA (eC (eC eZ)) ⟨J,J,p1 (φ:=sl 1 rE_ s.aC) J,tV⟩ (al (key:=5) T.z28 (eC (eC eZ)) fun b5=>(sPA (cs':= [sl 1 rE_ s.aC,eqv (.slice none 0 0)]) J J J T.aW J J (nl (th (sq (sq (rg (fP J T.bA (lP J J J T.bM (fc (aT 15 J) fun hm15=>(lnF J T.cE (mv (nl (th (bk ?_)))))))))))))))))))))))))
 refine nwC 50 79 2 sE (iJ 5 1 (osl 50 (.slice none 0 0)) rfl rfl cS ?_)
 have hI0_0:0≤s.sT.length:=by
  first|omega|simp
 have hI0_1:([]:List SA)=(s.sT.take 0).map (yZ u):=by
  rfl
 refine lp (κ:=Nat × Value × (List SA)) (fun p=> [(1,int u),(4,ptr 4 b4 0),(5,ptr 5 b5 0),(15,sl 2 sE s.sT),(16,int (s.sT.length:Int)),(17,int (p.1:Int))]) (fun p=> [(2,cell b2 [sl 1 rE_ s.aC,sl 2 sE s.sT]),(4,cell b4 [eqv (.slice none 0 0),eqv (.slice none 0 0)]),(5,cell b5 [sl 1 rE_ s.aC,osl 50 p.2.1]),(50,own p.2.1 79 2 sE p.2.2)]) (fun p=>(p.1≤s.sT.length)∧(p.2.2=(s.sT.take p.1).map (yZ u))) (fun p=>s.sT.length- p.1) ⟨0,(.slice none 0 0),([]:List SA)⟩ ⟨hI0_0,hI0_1⟩ ⟨id,id,id,id,id,id,tV⟩ ⟨rI,rI,rI,rI,tV⟩ ?_
 intro⟨k,v5x,aJ⟩ hG0
 obtain⟨hk0,hI0⟩:(k≤s.sT.length)∧(aJ=(s.sT.take k).map (yZ u)):=hG0
 show Ct _ _ _ _ [(1,int u),(4,ptr 4 b4 0),(5,ptr 5 b5 0),(15,sl 2 sE s.sT),(16,int (s.sT.length:Int)),(17,int (k:Int))] [(2,cell b2 [sl 1 rE_ s.aC,sl 2 sE s.sT]),(4,cell b4 [eqv (.slice none 0 0),eqv (.slice none 0 0)]),(5,cell b5 [sl 1 rE_ s.aC,osl 50 v5x]),(50,own v5x 79 2 sE aJ)] _
 have hol:aJ.length≤k:=by rw[hI0];simp;omega
 refine sq (rg (bi J J aO (nl (th (sq ?_)))))
 refine cd J (fun hc0=> ?_) (fun hc0=> ?_)
 ·try simp at hc0
  have hst:=hs.st k O
  have hacl:=hst.acl
  have hsl:=hst.len
  refine sk (th (sq (bk (sq (rg (iF J J T.cE O gB (lFA J T.cR (Nat.le_of_ble_eq_true J) (al (key:=7) T.z79 (eC (eC eZ)) fun b7=>(sPA (cs':= [sl 1 nE (ix s.sT k).aP,sl 1 nE (ix s.sT k).next]) J J J T.cR J J (nl (th (sq (rg (fP J T.bR (lP J J J T.aY (bd (css:= [(1,_)]) T.vR (eC (eC eZ)) ⟨J,J,p1 (φ:=sl 1 nE (ix s.sT k).next) J,tV⟩ (al (key:=8) T.z79 (eC (eC eZ)) fun b8=>(sPA (cs':= [eqv (.slice none 0 0),sl 1 nE (ix s.sT k).next]) J J J T.cR J J (nl (th (sq (sq (rg (fP J T.cJ (lP J J J T.aY (fc (aT 25 J) fun hm25=>(lnF J T.aU (mv (nl (th (bk ?_)))))))))))))))))))))))))))))))
  refine nwC 80 3 1 nE (iJ 8 0 (osl 80 (.slice none 0 0)) rfl rfl cS ?_)
  have hI1_0:0≤(ix s.sT k).aP.length:=by
   first|omega|simp
  have hI1_1:([]:List Int)=((ix s.sT k).aP.take 0).filter (fun v=>decide (cC v u=u)):=by
   rfl
  refine lp (κ:=Nat × Value × (List Int)) (fun p=> [(1,int u),(4,ptr 4 b4 0),(5,ptr 5 b5 0),(8,ptr 8 b8 0),(15,sl 2 sE s.sT),(16,int (s.sT.length:Int)),(17,int (k:Int)),(25,sl 1 nE (ix s.sT k).aP),(26,int ((ix s.sT k).aP.length:Int)),(27,int (p.1:Int))]) (fun p=> [(2,cell b2 [sl 1 rE_ s.aC,sl 2 sE s.sT]),(4,cell b4 [eqv (.slice none 0 0),eqv (.slice none 0 0)]),(5,cell b5 [sl 1 rE_ s.aC,osl 50 v5x]),(7,cell b7 [sl 1 nE (ix s.sT k).aP,sl 1 nE (ix s.sT k).next]),(8,cell b8 [osl 80 p.2.1,sl 1 nE (ix s.sT k).next]),(50,own v5x 79 2 sE aJ),(80,own p.2.1 3 1 nE p.2.2)]) (fun p=>(p.1≤(ix s.sT k).aP.length)∧(p.2.2=((ix s.sT k).aP.take p.1).filter (fun v=>decide (cC v u=u)))) (fun p=>(ix s.sT k).aP.length- p.1) ⟨0,(.slice none 0 0),([]:List Int)⟩ ⟨hI1_0,hI1_1⟩ ⟨id,id,id,id,id,id,id,id,id,id,tV⟩ ⟨rI,rI,rI,rI,rI,rI,rI,tV⟩ ?_
  intro⟨k1,v8x,ou2⟩ hG1
  obtain⟨hk1,hI1⟩:(k1≤(ix s.sT k).aP.length)∧(ou2=((ix s.sT k).aP.take k1).filter (fun v=>decide (cC v u=u))):=hG1
  show Ct _ _ _ _ [(1,int u),(4,ptr 4 b4 0),(5,ptr 5 b5 0),(8,ptr 8 b8 0),(15,sl 2 sE s.sT),(16,int (s.sT.length:Int)),(17,int (k:Int)),(25,sl 1 nE (ix s.sT k).aP),(26,int ((ix s.sT k).aP.length:Int)),(27,int (k1:Int))] [(2,cell b2 [sl 1 rE_ s.aC,sl 2 sE s.sT]),(4,cell b4 [eqv (.slice none 0 0),eqv (.slice none 0 0)]),(5,cell b5 [sl 1 rE_ s.aC,osl 50 v5x]),(7,cell b7 [sl 1 nE (ix s.sT k).aP,sl 1 nE (ix s.sT k).next]),(8,cell b8 [osl 80 v8x,sl 1 nE (ix s.sT k).next]),(50,own v5x 79 2 sE aJ),(80,own v8x 3 1 nE ou2)] _
  have CM:ou2.length≤256:=by rw[hI1];refine Nat.le_trans (List.length_filter_le _ _) ?_;simp;omega
  refine sq (rg (bi J J aO (nl (th (sq ?_)))))
  refine cd J (fun hc1=> ?_) (fun hc1=> ?_)
  ·try simp at hc1
   have hak:=hst.ac k1 O
   refine sk (th (sq (bk (sq (rg (iF J J T.aU O gB (lF J J T.aH (ag (nl (th (sq (rg (mv (mv (bi J J (AR O O O O) (mv (bi J J eS (nl (th ?_)))))))))))))))))))
   refine cd J (fun hc2=> ?_) (fun hc2=> ?_)
   ·try simp at hc2
    refine rg (fP J T.cJ (lP J J J T.aY (mv (bsE (enc:=nE) (xs:= [(ix (ix s.sT k).aP k1)]) (css:= [[int (ix (ix s.sT k).aP k1)]]) T.bS ⟨J,J,p1 (φ:=int (ix (ix s.sT k).aP k1)) J,tV⟩ J J J J (ap (key:=80) (zs:= [(ix (ix s.sT k).aP k1)]) bP J J J T.bS (by unfold aQ at*;simp;omega) (by unfold aQ at*;simp;omega) fun v40=>(fP J T.cJ (bY J J J J T.aY J (nl (eb (th (rg (bi J J (aG i6) (mv (nl ?_))))))))))))))
    have hN0:(k1+1)≤(ix s.sT k).aP.length:=by
     first|omega|simp_all
    have hN1:(ou2++ [(ix (ix s.sT k).aP k1)])=((ix s.sT k).aP.take (k1+1)).filter (fun v=>decide (cC v u=u)):=by
     rw[Ml O (by simpa [cC] using hc2),←hI1]
    exact ln (⟨k1+1,v40,ou2++ [(ix (ix s.sT k).aP k1)]⟩:Nat × Value × (List Int)) ⟨hN0,hN1⟩ dO ⟨id,id,id,id,id,id,id,id,id,id,tV⟩ ⟨rI,rI,rI,rI,rI,rI,rI,tV⟩
   ·try simp at hc2
    refine sk (eb (th (rg (bi J J (aG i6) (mv (nl ?_))))))
    have hN0:(k1+1)≤(ix s.sT k).aP.length:=by
     first|omega|simp_all
    have hN1:ou2=((ix s.sT k).aP.take (k1+1)).filter (fun v=>decide (cC v u=u)):=by
     rw[Kc O (by simpa [cC] using hc2),←hI1]
    exact ln (⟨k1+1,v8x,ou2⟩:Nat × Value × (List Int)) ⟨hN0,hN1⟩ dO ⟨id,id,id,id,id,id,id,id,id,id,tV⟩ ⟨rI,rI,rI,rI,rI,rI,rI,tV⟩
  ·try simp at hc1
   refine ex (xt_ (xt_ (xb (th (rg (fP J T.bA (lP J J J T.bM (fzc 8 80 0 J J J J (lPA J J T.cR J (bsE (enc:=sE) (xs:= [(⟨ou2,(ix s.sT k).next⟩)]) (css:= [[sl 1 nE ou2,sl 1 nE (ix s.sT k).next]]) T.kS ⟨J,J,pA (cs:= [sl 1 nE ou2,sl 1 nE (ix s.sT k).next]) J,tV⟩ J J J J (ap (key:=50) (zs:= [(⟨ou2,(ix s.sT k).next⟩)]) bP J J J T.kS (by unfold aQ at*;simp;omega) (by unfold aQ at*;simp;omega) fun v47=>(fP J T.bA (bY J J J J T.bM J (nl (eb (th (rg (bi J J (aG i6) (mv (nl ?_))))))))))))))))))))
   have hN0:(k+1)≤s.sT.length:=by
    first|omega|simp_all
   have hN1:(aJ++ [(⟨ou2,(ix s.sT k).next⟩)])=(s.sT.take (k+1)).map (yZ u):=by
    rw[hI0,bJ O,List.map_append,hI1,show k1=(ix s.sT k).aP.length by omega,List.take_length];rfl
   exact ln (⟨k+1,v47,aJ++ [(⟨ou2,(ix s.sT k).next⟩)]⟩:Nat × Value × (List SA)) ⟨hN0,hN1⟩ dO ⟨id,id,id,id,id,id,tV⟩ ⟨rI,rI,rI,rI,tV⟩
 ·try simp at hc0
  refine ex (xt_ (xt_ (xb (th (sq (rg (fzc 5 50 1 J J J J (lPA J J T.aW J (kn 51 (spec (bD u s)) J (by rw[show aJ=(bD u s).sT by rw[hI0,show k=s.sT.length by omega,List.take_length];rfl];exact fun h=>h) (lB (φs:= [agg [sl 1 rE_ (bD u s).aC,sl 2 sE (bD u s).sT]]) (φ:=tup [agg [sl 1 rE_ ((tR (bD u s)).1.aC),sl 2 sE ((tR (bD u s)).1.sT)],sl 1 nE ((tR (bD u s)).2)]) ⟨J,tV⟩ (prog9.Bs (bD u s) aS) T.QX (fun N hN=>fun h=>uR (cs:= [agg [fre N (sl 1 rE_ ((tR (bD u s)).1.aC)),frb (ix (hOl (bD u s)) 0) N (sl 2 sE ((tR (bD u s)).1.sT))],sl 1 nE ((tR (bD u s)).2)]) (ds:= [agg [sl 1 rE_ ((tR (bD u s)).1.aC),sl 2 sE ((tR (bD u s)).1.sT)],sl 1 nE ((tR (bD u s)).2)]) ⟨fun h=>jR (cs:= [fre N (sl 1 rE_ ((tR (bD u s)).1.aC)),frb (ix (hOl (bD u s)) 0) N (sl 2 sE ((tR (bD u s)).1.sT))]) (ds:= [sl 1 rE_ ((tR (bD u s)).1.aC),sl 2 sE ((tR (bD u s)).1.sT)]) ⟨fun h=>jQ h,fun h=>Fc h,tV⟩ h,fun h=>h,tV⟩ h) (mv (xt J J (xt J J (sPA (cs':= [sl 1 rE_ ((tR (bD u s)).1.aC),sl 2 sE ((tR (bD u s)).1.sT)]) J J J T.aW J J (nl (th (sq (rg (lPA J J T.aW J (sPA (cs':= [sl 1 rE_ ((tR (bD u s)).1.aC),sl 2 sE ((tR (bD u s)).1.sT)]) J J J T.aW J J (nl (th (rt ?_)))))))))))))))))))))))
  have hr0:((tR (bD u s)).1.aC)=((tR (bD u s)).1).aC:=by
   first|rfl|simp_all|omega
  have hr1:((tR (bD u s)).1.sT)=((tR (bD u s)).1).sT:=by
   first|rfl|simp_all|omega
  exact rE () [.cell 4 28] J [agg [sl 1 rE_ ((tR (bD u s)).1.aC),sl 2 sE ((tR (bD u s)).1.sT)]] ⟨.agg J J T.aW J J,tV⟩ (cA2 (fun x0 x1=>rV [agg [sl 1 rE_ x0,sl 2 sE x1]]) hr0 hr1) trivial eX
end mkk
end
section
namespace GuardM
open ref01 ref03 ref04 ref06 Part Rungs LeftM TrimM RoundM MergeM BisM BisM4 BisM5 BisM6 Keys WalkM WitM JudgM LevM divr divs divd dive divf divv judg sysw satj ChsM BisS TrimI QuoM FailM DivM RefM GenW CompM FitM TogM
abbrev LP:=List PP
def uH (p q:PP):Prop:=p.1<q.1∨(p.1=q.1∧p.2<q.2)
theorem DR {α:Type} {lt:α→α→Prop} (asym:∀a b,lt a b→¬lt b a):∀{l m:List α},l.Pairwise lt→m.Pairwise lt→(∀u,u∈l↔u∈m)→l=m
 | [],[],_,_,_=>rfl
 | [],y::m,_,_,h=>by have:=(h y).2 (by simp);cases this
 |x::l,[],_,_,h=>by have:=(h x).1 (by simp);cases this
 |x::l,y::m,hl,hm,h=>by
  obtain⟨l1,l2⟩:=List.pairwise_cons.1 hl
  obtain⟨m1,m2⟩:=List.pairwise_cons.1 hm
  have e:x=y:=by
   rcases List.mem_cons.1 ((h x).1 (by simp)) with g|g
   ·exact g
   ·rcases List.mem_cons.1 ((h y).2 (by simp)) with k|k
    ·exact k.symm
    ·exact absurd (l1 y k) (asym _ _ (m1 x g))
  subst e
  have irr:∀a,¬lt a a:=fun a g=>asym a a g g
  rw[DR asym l2 m2 fun u=>⟨fun hu=>by
   rcases List.mem_cons.1 ((h u).1 (by simp[hu])) with g|g
   ·subst g;exact absurd (l1 u hu) (irr u)
   ·exact g,fun hu=>by
   rcases List.mem_cons.1 ((h u).2 (by simp[hu])) with g|g
   ·subst g;exact absurd (m1 u hu) (irr u)
   ·exact g⟩]
theorem Mn (p q:PP) (h:uH p q):¬uH q p:=by
 unfold uH at h ⊢;omega
def oN (x y:Nat):LP:=(List.range x).flatMap fun(i:Nat)=>(List.range y).map fun(j:Nat)=>(((i:Int),(j:Int)):PP)
theorem pM {x y:Nat} {p:PP}:p∈oN x y↔0≤p.1∧p.1<(x:Int)∧0≤p.2∧p.2<(y:Int):=by
 unfold oN
 rw[List.mem_flatMap]
 constructor
 ·rintro⟨i,hi,h⟩
  obtain⟨j,hj,rfl⟩:=List.mem_map.1 h
  have:=List.mem_range.1 hi
  have:=List.mem_range.1 hj
  show 0≤(i:Int)∧(i:Int)<x∧0≤(j:Int)∧(j:Int)<y
  omega
 ·intro h
  exact⟨p.1.toNat,List.mem_range.2 O,List.mem_map.2 ⟨p.2.toNat,List.mem_range.2 O,Prod.ext (by show((p.1.toNat:Nat):Int)=p.1;omega) (by show((p.2.toNat:Nat):Int)=p.2;omega)⟩⟩
theorem Hy (x y:Nat):(oN x y).Pairwise uH:=by
 unfold oN
 rw[List.pairwise_flatMap]
 refine⟨fun i _=> ?_,?_⟩
 ·rw[List.pairwise_map]
  refine List.pairwise_lt_range.imp fun {a b} h=> .inr ⟨rfl,?_⟩
  show(a:Int)<(b:Int)
  omega
 ·refine List.pairwise_lt_range.imp fun {a b} h p hp q hq=> ?_
  obtain⟨j,_,rfl⟩:=List.mem_map.1 hp
  obtain⟨k,_,rfl⟩:=List.mem_map.1 hq
  refine .inl ?_
  show(a:Int)<(b:Int)
  omega
theorem Ao (x y:Nat):(oN x y).length=x*y:=by
 unfold oN
 induction x with
 |zero=>simp
 |succ n ih=>rw[List.range_succ,List.flatMap_append,List.length_append,ih,Nat.succ_mul];simp
def CQ {α:Type}:List α→List (List α)
 | []=> [[]]
 |x::l=>CQ l++(CQ l).map (x:: ·)
theorem IB {α:Type}:∀l:List α,(CQ l).length=2^l.length
 | []=>rfl
 |x::l=>by
  show(CQ l++(CQ l).map _).length=_
  rw[List.length_append,List.length_map,IB l,List.length_cons,Nat.pow_succ];omega
theorem Ta {α:Type} {l m:List α} (h:l.Sublist m):l∈CQ m:=by
 induction h with
 |slnil=>exact List.mem_singleton.2 rfl
 |cons x _ ih=>exact List.mem_append.2 (.inl ih)
 |cons_cons x _ ih=>exact List.mem_append.2 (.inr (List.mem_map.2 ⟨_,ih,rfl⟩))
def gA (m:aB) (t:SS) (l:LP):List Int:=(cD t.aC.length).filter fun u=>l.all fun p=>decide (cC u (bQ m p.1.toNat)∈acc t p.2.toNat)
def gN (m:aB) (t:SS) (l:LP) (a:Nat):LP:=(oN m.sT.length t.sT.length).filter fun q=>l.any fun p=>(edg m p.1.toNat).any fun e=>decide (e.1=(a:Int)∧e.2=q.1∧ix (nxt t p.2.toNat) a=q.2)
def gOk (m:aB) (t:SS) (l:LP):Prop:=l.Sublist (oN m.sT.length t.sT.length)
def pk_:LP→List UInt8
 | []=> []
 |p::l=>Lib.itoa p.1++32::(Lib.itoa p.2++32::pk_ l)
def pkB (l:LP):ByteArray:=⟨(pk_ l).toArray⟩
theorem Mo:∀{l r:LP},(∀p∈l,0≤p.1∧0≤p.2)→(∀p∈r,0≤p.1∧0≤p.2)→pk_ l=pk_ r→l=r
 | [],[],_,_,_=>rfl
 | [],q::r,_,_,h=>by simp[pk_] at h
 |p::l,[],_,_,h=>by simp[pk_] at h
 |p::l,q::r,hl,hr,h=>by
  have h:Lib.itoa p.1++32::(Lib.itoa p.2++32::pk_ l)=Lib.itoa q.1++32::(Lib.itoa q.2++32::pk_ r):=h
  have hp:=hl p (by simp)
  have hq:=hr q (by simp)
  obtain⟨e1,k⟩:=Bt (nP hp.1) (nP hq.1) (.inr ⟨_,rfl⟩) (.inr ⟨_,rfl⟩) h
  obtain⟨e2,k2⟩:=Bt (nP hp.2) (nP hq.2) (.inr ⟨_,rfl⟩) (.inr ⟨_,rfl⟩) (List.cons.inj k).2
  rw[Prod.ext (vX hp.1 hq.1 e1) (vX hp.2 hq.2 e2),Mo (fun x hx=>hl x (by simp[hx])) (fun x hx=>hr x (by simp[hx])) (List.cons.inj k2).2]
theorem jU {m:aB} {t:SS} {l:LP} (h:gOk m t l) {p:PP} (hp:p∈l):0≤p.1∧p.1<(m.sT.length:Int)∧0≤p.2∧p.2<(t.sT.length:Int):=pM.1 (h.subset hp)
theorem xW {m:aB} {t:SS} {l:LP} {u:Int}:u∈gA m t l↔u∈cD t.aC.length∧∀p∈l,cC u (bQ m p.1.toNat)∈acc t p.2.toNat:=by
 unfold gA
 rw[List.mem_filter,List.all_eq_true]
 exact⟨fun h=>⟨h.1,fun p hp=>of_decide_eq_true (h.2 p hp)⟩,fun h=>⟨h.1,fun p hp=>decide_eq_true (h.2 p hp)⟩⟩
theorem Gg {m:aB} {t:SS} {l:LP} {a:Nat} {q:PP}:q∈gN m t l a↔q∈oN m.sT.length t.sT.length∧∃p∈l,∃e∈edg m p.1.toNat,e.1=(a:Int)∧e.2=q.1∧ix (nxt t p.2.toNat) a=q.2:=by
 unfold gN
 rw[List.mem_filter,List.any_eq_true]
 constructor
 ·rintro⟨h,p,hp,g⟩
  obtain⟨e,he,k⟩:=List.any_eq_true.1 g
  exact⟨h,p,hp,e,he,of_decide_eq_true k⟩
 ·rintro⟨h,p,hp,e,he,k⟩
  exact⟨h,p,hp,List.any_eq_true.2 ⟨e,he,decide_eq_true k⟩⟩
theorem wL (m:aB) (t:SS) (l:LP) (a:Nat):gOk m t (gN m t l a):=List.filter_sublist
theorem Ap {m:aB} {t:SS} (ht:oK t):GS (gA m t) (gN m t) (gOk m t) pkB t.aC.length (2^ (m.sT.length*t.sT.length)) where
 inj:=fun p q hp hq h=>Mo (fun x hx=>by have:=jU hp hx;omega) (fun x hx=>by have:=jU hq hx;omega) (Lp h)
 acts:=fun p _ a _=>wL m t p a.toNat
 few:=fun l hn h=>by
  have:=List.Nodup.length_le_of_subset hn (fun p hp=>Ta (h p hp))
  rw[IB,Ao] at this;exact this
 hasn:=fun p _ a h=>by
  obtain⟨u,hu,hh⟩:=(cU _ _).1 h
  exact Sy (xW.1 hu).1 hh
 n8:=ht.n8
theorem BS {m:aB} {t:SS} (hm:bE m) (ht:oK t):gOk m t [(0,0)]:=by
 have f1:=hm.few0
 have f2:=ht.few0
 refine List.singleton_sublist.2 (pM.2 ⟨by simp,by show(0:Int)<_;omega,by simp,by show(0:Int)<_;omega⟩)
noncomputable def gL (m:aB) (t:SS):List LP:=iX (gA m t) (gN m t) (2^ (m.sT.length*t.sT.length)) 0 [[(0,0)]]
noncomputable def gD (m:aB) (t:SS):SS:=⟨t.aC,(gL m t).map (ofL (gA m t) (gN m t) t.aC.length (gL m t))⟩
theorem BU {m:aB} {t:SS} (hm:bE m) (ht:oK t):qQ (gA m t) (gN m t) (gOk m t) [(0,0)] (gL m t).length (gL m t):=Vr (Ap ht) (BS hm ht)
theorem Mp {m:aB} {t:SS} (hm:bE m) (ht:oK t):pI (gA m t) (gN m t) t.aC.length [(0,0)] (gL m t) (gD m t):=Mc (Ap ht) (BU hm ht) _
theorem Xg {m:aB} {t:SS} (hm:bE m) (ht:oK t):(gL m t).length≤2^ (m.sT.length*t.sT.length):=(Ap ht).few _ (BU hm ht).nd (BU hm ht).ok
structure Gh (m:aB) (t:SS) (l:List LP) (D:SS):Prop where
 numb:pI (gA m t) (gN m t) t.aC.length [(0,0)] l D
 ok:∀p∈l,gOk m t p
 acts:D.aC=t.aC
theorem xX {m:aB} {t:SS} (hm:bE m) (ht:oK t):Gh m t (gL m t) (gD m t):=⟨Mp hm ht,(BU hm ht).ok,rfl⟩
theorem IC {n:Nat} (hn:n≤8) {u:Int} (h:u∈cD n):0≤u∧u<256:=by
 have:=wF.1 h
 have h2:2^n≤2^8:=Nat.pow_le_pow_right O hn
 omega
theorem rO {m:aB} {t:SS} (ht:oK t) {l:List LP} {D:SS} (h:Gh m t l D) (hl:l.length≤10000):oK D:=
 Sv h.numb (by rw[h.acts];exact ht.acts) (by rw[h.acts]) hl (fun p _ u hu=>IC ht.n8 (xW.1 hu).1) (fun p _ a g=>(Ap (m:=m) ht).hasn p (h.ok p aS) a g) (fun p _=>xM ((LZ _).filter _))
noncomputable def bC (m:aB) (t:SS):SS × Bool:=if (gL m t).length≤500 then((tR (gD m t)).1,true) else(⟨[],[]⟩,false)
noncomputable def gdS (m:aB) (t:SS):SS × Int:=
 if bW m t=0 then(if (bC m t).2=true then((bC m t).1,0) else(⟨[],[]⟩,2)) else(⟨[],[]⟩,bW m t)
def EC (n:Nat):Bool:=decide (20<n)||decide (500<2^n)
theorem Mq {m:aB} {t:SS} (hm:bE m) (ht:oK t) (h:(bC m t).2=false):EC (m.sT.length*t.sT.length)=true:=by
 unfold bC at h
 split at h
 ·cases h
 ·next g=>
  have:=Xg hm ht
  unfold EC
  rw[decide_eq_true (show 500<2^ (m.sT.length*t.sT.length) by omega),Bool.or_true]
theorem Pi {m:aB} {t D:SS} (hm:bE m) (ht:oK t) {l:List LP} (h:Gh m t l D) (hl:l.length≤10000) (hq:(bC m t).2=true):Same (bC m t).1 D:=by
 have hD:=rO ht h hl
 unfold bC at hq ⊢
 split at hq
 ·next g=>
  rw[if_pos g]
  have hok:=rO ht (xX hm ht) O
  have ha:(gD m t).aC=D.aC:=h.acts.symm
  have hr:=OD hok hD ha (Mp hm ht) h.numb
  have hr2:=FN hok hD ha hr
  refine⟨mA hok,?_,by rw[qD];exact ha,DI hok,hr2.1,hr2.2⟩
  have:=Af hok
  have e2:(gD m t).sT.length=(gL m t).length:=by simp[gD]
  show(tR (gD m t)).1.sT.length≤500
  omega
 ·cases hq
theorem Pj {x:aB} (hx:bE x) {q:Nat} (hq:q<x.sT.length):bQ x q∈cD x.aC.length:=by
 rw[wF]
 have h0:=yV hx hq
 refine⟨h0.1,?_⟩
 have hlt:(bQ x q).toNat<2^x.aC.length:=by
  refine Nat.lt_pow_two_of_testBit _ fun i hi=> ?_
  cases e:(bQ x q).toNat.testBit i with
  |false=>rfl
  |true=>
   obtain⟨d,hd,rfl⟩:=iE.1 (show has (bQ x q) (i:Int)=true by unfold has;rw[Int.toNat_natCast];exact e)
   have:=hx.ed q hq d hd
   omega
 omega
theorem Mr {m x:aB} {t D:SS} (hm:bE m) (hx:bE x) (ht:oK t) (hxt:x.aC=t.aC) {L:List LP} (h:Gh m t L D):iA x D↔wG m x t:=by
 have hN:=h.numb
 constructor
 ·rintro⟨R,hR,r⟩
  have key:∀{p:T3},nG m x t p→∃i,R p.2.1.toNat i∧(p.1,p.2.2)∈ix L i∧i<L.length:=fun {p} hp=>by
   induction hp with
   |zero=>exact⟨0,r,by rw[hN.hd];exact List.mem_singleton.2 rfl,hN.ne⟩
   |step h1 h2 hd he hde ih=>
    rename_i p d e
    obtain⟨i,hi,hin,hl⟩:=ih
    have hg:=goT hm hx ht (nH hm hx ht h1) h2 hd he hde
    have ha:=hR.acc hi
    rw[hN.acc i hl] at ha
    have hh:has (aV (gA m t (ix L i))) ((e.1.toNat:Nat):Int)=true:=(cU _ _).2 ⟨_,ha,iE.2 ⟨e,he,rfl⟩⟩
    have han:e.1.toNat<t.aC.length:=by rw[←hde];exact hg.2.2.2.2.2.2
    have hcl:=hN.cl i hl e.1.toNat han hh
    have hn:=(hR.nxt hi (e.1.toNat,e.2.toNat) (List.mem_map.2 ⟨e,he,rfl⟩)).2
    have hn:R e.2.toNat (ix (nxt D i) e.1.toNat).toNat:=hn
    rw[hN.nx i hl _ han,if_pos hh,Int.toNat_natCast] at hn
    have h1e:=hx.ed p.2.1.toNat (by have:=nH hm hx ht h1;omega) e he
    refine⟨_,hn,?_,QuoM.vA hcl⟩
    rw[QuoM.sM hcl]
    refine Gg.2 ⟨pM.2 ⟨hg.1,hg.2.1,hg.2.2.2.2.1,hg.2.2.2.2.2.1⟩,(p.1,p.2.2),hin,d,hd,?_,rfl,?_⟩
    ·rw[hde];omega
    ·show ix (nxt t p.2.2.toNat) e.1.toNat=ix (nxt t p.2.2.toNat) d.1.toNat
     rw[hde]
  intro p hp hb
  obtain⟨i,hi,hin,hl⟩:=key hp
  have ha:=hR.acc hi
  rw[hN.acc i hl] at ha
  refine hb ?_
  rw[FitM.tT]
  exact(xW.1 ha).2 _ hin
 ·intro hw
  have f1:=hx.few0
  have hsat:∀{q i:Nat},(q<x.sT.length∧i<L.length∧∀p∈ix L i,nG m x t (p.1,(q:Int),p.2))→bQ x q∈gA m t (ix L i):=fun {q i} ⟨hq,hi,hp⟩=>by
   refine xW.2 ⟨by rw[←hxt];exact Pj hx hq,fun p hpm=> ?_⟩
   have:=hw _ (hp p hpm)
   have:=Classical.not_not.1 this
   rw[FitM.tT]
   have this:cC (bQ m p.1.toNat) (bQ x (q:Int).toNat)∈acc t p.2.toNat:=this
   rw[Int.toNat_natCast] at this
   exact this
  refine⟨fun q i=>q<x.sT.length∧i<L.length∧∀p∈ix L i,nG m x t (p.1,(q:Int),p.2),⟨fun {q i} ⟨_,hi,_⟩=>by rw[hN.len];exact hi,fun {q i} hp=>by rw[hN.acc i hp.2.1];exact hsat hp,fun {q i} hp d hd=> ?_,fun {q i} hp d hd=> ?_⟩,O,hN.ne,fun p hp=> ?_⟩
  ·obtain⟨e,he,rfl⟩:=List.mem_map.1 hd
   have:=hx.ed q hp.1 e he
   rw[hN.nl i hp.2.1,←hxt]
   show e.1.toNat<_
   omega
  ·obtain⟨e,he,rfl⟩:=List.mem_map.1 hd
   have h1:=hx.ed q hp.1 e he
   have ha:=hsat hp
   have hh:has (aV (gA m t (ix L i))) ((e.1.toNat:Nat):Int)=true:=(cU _ _).2 ⟨_,ha,iE.2 ⟨e,he,rfl⟩⟩
   have han:e.1.toNat<t.aC.length:=by rw[←hxt];omega
   have hcl:=hN.cl i hp.2.1 e.1.toNat han hh
   have hnx:=hN.nx i hp.2.1 _ han
   rw[if_pos hh] at hnx
   show 0≤ix (nxt D i) e.1.toNat∧(e.2.toNat<x.sT.length∧(ix (nxt D i) e.1.toNat).toNat<L.length∧∀p∈ix L (ix (nxt D i) e.1.toNat).toNat,nG m x t (p.1,((e.2.toNat:Nat):Int),p.2))
   rw[hnx,Int.toNat_natCast]
   refine⟨O,O,QuoM.vA hcl,fun p' hp'=> ?_⟩
   rw[QuoM.sM hcl] at hp'
   obtain⟨_,p,hpm,d,hd2,e1,e2,e3⟩:=Gg.1 hp'
   have hr:=hp.2.2 p hpm
   have:=nG.step (e:=e) hr (hw _ hr) hd2 (by show e∈edg x (q:Int).toNat;rw[Int.toNat_natCast];exact he) (by rw[e1];omega)
   have e4:(d.2,e.2,ix (nxt t p.2.toNat) d.1.toNat)=((p'.1,((e.2.toNat:Nat):Int),p'.2):T3):=by
    rw[e2,show d.1.toNat=e.1.toNat by omega,e3]
    refine Prod.ext rfl (Prod.ext ?_ rfl)
    show e.2=((e.2.toNat:Nat):Int)
    omega
   rw[←e4];exact this
  ·rw[hN.hd] at hp
   rw[List.mem_singleton.1 hp]
   exact .zero
end GuardM
end
section
namespace MakeM
open ref01 ref03 ref04 ref06 Part Rungs LeftM TrimM RoundM MergeM BisM BisM4 BisM5 BisM6 Keys WalkM WitM JudgM JudgM2 LevM divr divs divd dive divf divv judg sysw satj ChsM BisS TrimI QuoM FailM DivM RefM GenW CompM FitM TogM KeepK GuardM
structure BisY (m n:aB) (R:Nat→Nat→Prop):Prop where
 fw:∀{x y},R x y→∀e∈edg m x,∃d∈edg n y,d.1=e.1∧R e.2.toNat d.2.toNat
 bw:∀{x y},R x y→∀d∈edg n y,∃e∈edg m x,e.1=d.1∧R e.2.toNat d.2.toNat
theorem BisY.symm {m n:aB} {R:Nat→Nat→Prop} (h:BisY m n R):BisY n m (fun y x=>R x y):=
 ⟨fun g d hd=>h.bw g d hd,fun g e he=>h.fw g e he⟩
theorem Tb {l r:List PP} (h1:∀e∈l,∃d∈r,d.1=e.1) (h2:∀d∈r,∃e∈l,e.1=d.1):dS l=dS r:=by
 have key:∀a:Nat,has (dS l) (a:Int)=has (dS r) (a:Int):=fun a=>by
  rw[Bool.eq_iff_iff,iE,iE]
  exact⟨fun⟨e,he,g⟩=>by obtain⟨d,hd,k⟩:=h1 e he;exact⟨d,hd,by rw[k];exact g⟩,fun⟨d,hd,g⟩=>by obtain⟨e,he,k⟩:=h2 d hd;exact⟨e,he,by rw[k];exact g⟩⟩
 have n1:0≤dS l:=rX _
 have n2:0≤dS r:=rX _
 have:(dS l).toNat=(dS r).toNat:=by
  apply Nat.eq_of_testBit_eq
  intro i
  have:=key i
  unfold has at this
  rwa [Int.toNat_natCast] at this
 omega
theorem Pk {m n:aB} {R:Nat→Nat→Prop} (h:BisY m n R) {x y:Nat} (g:R x y):bQ m x=bQ n y:=
 Tb (fun e he=>by obtain⟨d,hd,k,_⟩:=h.fw g e he;exact⟨d,hd,k⟩) (fun d hd=>by obtain⟨e,he,k,_⟩:=h.bw g d hd;exact⟨e,he,k⟩)
theorem Gi {m n:aB} {s:SS} {R:Nat→Nat→Prop} (h:BisY m n R) (h0:R 0 0) (hs:iA m s):iA n s:=by
 obtain⟨Q,hQ,q0⟩:=hs
 refine⟨fun y z=> ∃x,R x y∧Q x z,⟨fun⟨x,_,q⟩=>hQ.bd q,fun {y z} ⟨x,g,q⟩=>by rw[←Pk h g];exact hQ.acc q,fun {y z} ⟨x,g,q⟩ e he=> ?_,fun {y z} ⟨x,g,q⟩ e he=> ?_⟩,0,h0,q0⟩
 ·obtain⟨d,hd,rfl⟩:=List.mem_map.1 he
  obtain⟨e,he2,k,_⟩:=h.bw g d hd
  have:=hQ.len q (e.1.toNat,e.2.toNat) (List.mem_map.2 ⟨e,he2,rfl⟩)
  show d.1.toNat<_
  rw[←k];exact this
 ·obtain⟨d,hd,rfl⟩:=List.mem_map.1 he
  obtain⟨e,he2,k,r⟩:=h.bw g d hd
  have:=hQ.nxt q (e.1.toNat,e.2.toNat) (List.mem_map.2 ⟨e,he2,rfl⟩)
  show 0≤ix (nxt s z) d.1.toNat∧∃x,R x d.2.toNat∧Q x (ix (nxt s z) d.1.toNat).toNat
  rw[←k]
  exact⟨this.1,e.2.toNat,r,this.2⟩
def mkE (n:Nat) (u:Int) (nx:List Int):List PP:=(aL n u).map fun a=>(a,ix nx a.toNat)
def mkM (ch:Nat→Int) (s:SS):aB:=⟨s.aC,(List.range s.sT.length).map fun y=>mkE s.aC.length (ch y) (nxt s y)⟩
theorem vD {ch:Nat→Int} {s:SS} {y:Nat} (hy:y<s.sT.length):edg (mkM ch s) y=mkE s.aC.length (ch y) (nxt s y):=by
 show ix ((List.range s.sT.length).map _) y=_
 exact cB hy
theorem CS {n:Nat} {u:Int} {nx:List Int} {e:PP}:e∈mkE n u nx↔∃a:Nat,a<n∧has u (a:Int)=true∧e=((a:Int),ix nx a):=by
 unfold mkE
 rw[List.mem_map]
 constructor
 ·rintro⟨x,hx,rfl⟩
  obtain⟨a,rfl,ha,hh⟩:=eB.1 hx
  exact⟨a,ha,hh,by rw[Int.toNat_natCast]⟩
 ·rintro⟨a,ha,hh,rfl⟩
  exact⟨(a:Int),eB.2 ⟨a,rfl,ha,hh⟩,by rw[Int.toNat_natCast]⟩
section
variable {s:SS} (hs:oK s) {ch:Nat→Int} (hc:∀y,y<s.sT.length→ch y∈acc s y)
include hs hc
theorem Tc {y:Nat} (hy:y<s.sT.length):bQ (mkM ch s) y=ch y:=by
 have hin:=hc y hy
 have hb:=CompM.xH hs hy _ hin
 have n1:0≤bQ (mkM ch s) y:=rX _
 have key:∀a:Nat,has (bQ (mkM ch s) y) (a:Int)=has (ch y) (a:Int):=fun a=>by
  rw[Bool.eq_iff_iff,iE,vD hy]
  constructor
  ·rintro⟨e,he,g⟩
   obtain⟨b,hb,hh,rfl⟩:=CS.1 he
   have g:(b:Int).toNat=a:=g
   rw[Int.toNat_natCast] at g
   rw[←g];exact hh
  ·intro hh
   have:=(pT hs hy ((cU _ _).2 ⟨_,hin,hh⟩)).1
   exact⟨_,CS.2 ⟨a,this,hh,rfl⟩,by show((a:Int)).toNat=a;rw[Int.toNat_natCast]⟩
 have:(bQ (mkM ch s) y).toNat=(ch y).toNat:=by
  apply Nat.eq_of_testBit_eq
  intro i
  have:=key i
  unfold has at this
  rwa [Int.toNat_natCast] at this
 omega
theorem Gj {y:Nat} (hy:y<s.sT.length) {e:PP} (he:e∈edg (mkM ch s) y):e.1.toNat<s.aC.length∧0≤e.1∧e.2=ix (nxt s y) e.1.toNat∧0≤e.2∧e.2<(s.sT.length:Int):=by
 rw[vD hy] at he
 obtain⟨a,ha,hh,rfl⟩:=CS.1 he
 have:=pT hs hy ((cU _ _).2 ⟨_,hc y hy,hh⟩)
 show((a:Int)).toNat<_∧0≤(a:Int)∧ix (nxt s y) a=ix (nxt s y) (a:Int).toNat∧0≤ix (nxt s y) a∧ix (nxt s y) a<_
 rw[Int.toNat_natCast]
 exact⟨ha,Int.natCast_nonneg _,rfl,this.2.1,this.2.2⟩
theorem IE:iA (mkM ch s) s:=by
 have f0:=hs.few0
 refine⟨fun x y=>x=y∧y<s.sT.length,⟨fun h=>h.2,fun {x y} ⟨e,hy⟩=>by subst e;rw[Tc hs hc hy];exact hc _ hy,fun {x y} ⟨e,hy⟩ d hd=> ?_,fun {x y} ⟨e,hy⟩ d hd=> ?_⟩,rfl,O⟩
 ·subst e
  obtain⟨e,he,rfl⟩:=List.mem_map.1 hd
  have:=Gj hs hc hy he
  have hl:(nxt s x).length=s.aC.length:=(hs.st x hy).len
  rw[hl];exact this.1
 ·subst e
  obtain⟨e,he,rfl⟩:=List.mem_map.1 hd
  obtain⟨h1,h2,h3,h4,h5⟩:=Gj hs hc hy he
  show 0≤ix (nxt s x) e.1.toNat∧(e.2.toNat=(ix (nxt s x) e.1.toNat).toNat∧(ix (nxt s x) e.1.toNat).toNat<s.sT.length)
  rw[←h3]
  exact⟨h4,rfl,O⟩
theorem vF:bE (mkM ch s):=by
 have f0:=hs.few0
 have f1:=hs.few1
 have e:(mkM ch s).sT.length=s.sT.length:=by simp[mkM]
 refine⟨hs.acts,hs.n8,by rw[e];exact f0,by rw[e];exact f1,fun x hx d hd=> ?_,fun x hx=> ?_⟩
 ·rw[e] at hx ⊢
  obtain⟨h1,h2,h3,h4,h5⟩:=Gj hs hc hx hd
  exact⟨h2,by show d.1<(s.aC.length:Int);omega,h4,h5⟩
 ·rw[e] at hx
  rw[vD hx]
  show((aL s.aC.length (ch x)).map _).length≤400000
  rw[List.length_map]
  have h1:(aL s.aC.length (ch x)).length≤s.aC.length:=by
   unfold aL
   first
     |(refine Nat.le_trans (List.length_filterMap_le _ _) ?_;simp)
     |(rw[List.length_map];exact Nat.le_trans (List.length_filter_le _ _) (by simp))
     |(exact Nat.le_trans (List.length_filter_le _ _) (by simp))
  have:=hs.n8
  omega
end
end MakeM
end
section
namespace LsysM
open ref01 ref03 ref04 ref06 Part Rungs LeftM TrimM RoundM MergeM BisM BisM3 BisM4 BisM5 BisM6 Keys WalkM WitM JudgM JudgM2 LevM divr divs divd dive divf divv judg sysw satj ChsM BisS TrimI QuoM FailM DivM RefM GenW CompM CrossM FitM TogM KeepK GuardM MakeM
theorem iH {α:Type} [Inhabited α] {zs:List α} {i:Nat} (hi:i<zs.length):zs.toArray[i]! =ix zs i:=by
 rw[aF hi,getElem!_pos _ i (by simpa using hi)];simp
theorem DT {α:Type} [Inhabited α] [DecidableEq α] {zs:List α} {x:α}:x∈Lib.compact zs↔x∈zs:=by
 unfold Lib.compact Lib.compactUpTo
 rw[List.mem_map]
 constructor
 ·rintro⟨i,hi,rfl⟩
  have hi':i<zs.length:=List.mem_range.1 (List.mem_filter.1 hi).1
  rw[iH hi'];exact aX hi'
 ·intro hx
  obtain⟨i,hi,rfl⟩:=List.getElem_of_mem hx
  have key:∀i,i<zs.length→∃j,j∈(List.range zs.length).filter (Lib.keeps zs.toArray)∧ix zs j=ix zs i:=by
   intro i
   induction i with
   |zero=>intro hi;exact⟨0,List.mem_filter.2 ⟨List.mem_range.2 hi,by simp[Lib.keeps]⟩,rfl⟩
   |succ i ih=>
    intro hi
    by_cases e:ix zs (i+1)=ix zs i
    ·obtain⟨j,h1,h2⟩:=ih O
     exact⟨j,h1,h2.trans e.symm⟩
    ·refine⟨i+1,List.mem_filter.2 ⟨List.mem_range.2 hi,?_⟩,rfl⟩
     refine Lib.keeps_pos ?_
     rw[iH hi,show i+1- 1=i from rfl,iH O];exact e
  obtain⟨j,h1,h2⟩:=key i hi
  refine⟨j,h1,?_⟩
  rw[iH (List.mem_range.1 (List.mem_filter.1 h1).1),h2,aF hi]
theorem DU {α:Type} [Inhabited α] [DecidableEq α] (zs:List α):(Lib.compact zs).length≤zs.length:=by
 unfold Lib.compact Lib.compactUpTo
 rw[List.length_map]
 exact Nat.le_trans (List.length_filter_le _ _) (by simp)
theorem BV {zs:List PP} (h:zs.Pairwise (fun p q=>p.1<q.1∨(p.1=q.1∧p.2≤q.2))):(Lib.compact zs).Pairwise uH:=by
 have hs:∀i j,i≤j→j<zs.length→(ix zs i).1<(ix zs j).1∨((ix zs i).1=(ix zs j).1∧(ix zs i).2≤(ix zs j).2):=fun i j hij hj=>by
  rcases Nat.lt_or_ge i j with g|g
  ·rw[aF O,aF hj]
   exact List.pairwise_iff_getElem.1 h i j O hj g
  ·have:i=j:=by omega
   subst this;exact .inr ⟨rfl,Int.le_refl _⟩
 unfold Lib.compact Lib.compactUpTo
 rw[List.pairwise_map]
 refine List.Pairwise.imp_of_mem (R:=(· < ·)) (fun {i j} hi hj hij=> ?_) (List.pairwise_lt_range.filter _)
 obtain⟨hi1,_⟩:=List.mem_filter.1 hi
 obtain⟨hj1,hj2⟩:=List.mem_filter.1 hj
 have hi1:=List.mem_range.1 hi1
 have hj1:=List.mem_range.1 hj1
 have hne:ix zs j≠ix zs (j- 1):=by
  unfold Lib.keeps at hj2
  have:=of_decide_eq_true hj2
  rcases this with g|g
  ·omega
  ·rwa [iH hj1,iH O] at g
 rw[iH hi1,iH hj1]
 have h1:=hs i (j- 1) O O
 have h2:=hs (j- 1) j O hj1
 have h3:¬((ix zs j).1=(ix zs (j- 1)).1∧(ix zs j).2=(ix zs (j- 1)).2):=fun g=>hne (Prod.ext g.1 g.2)
 unfold uH
 omega
def iN (m:aB) (x:Int):List Int:=(edg m x.toNat).map Prod.snd
def bqY (m:aB):Nat→List Int
 |0=> [0]
 |i+1=>if i<(bqY m i).length then visit (bqY m i) (iN m (ix (bqY m i) i)) else bqY m i
def bG (m:aB):List Int:=bqY m m.sT.length
structure QY (m:aB) (i:Nat) (l:List Int):Prop where
 nd:l.Nodup
 bd:∀x∈l,0≤x∧x<(m.sT.length:Int)
 ne:0<l.length
 hd:ix l 0=0
 dn:∀j,j<i→j<l.length→∀e∈edg m (ix l j).toNat,e.2∈l
 rch:∀x∈l,Am m x.toNat
theorem BX {n:Nat} {l:List Int} (hn:l.Nodup) (hb:∀x∈l,0≤x∧x<(n:Int)):l.length≤n:=by
 have h:=List.Nodup.length_le_of_subset (l₂:=(List.range n).map fun(k:Nat)=>(k:Int)) hn (fun x hx=>by
  have:=hb x hx
  exact List.mem_map.2 ⟨x.toNat,List.mem_range.2 O,O⟩)
 simpa using h
theorem Td {m:aB} (hm:bE m):QY m 0 [0]:=by
 have f:=hm.few0
 exact⟨by simp,fun x hx=>by rw[List.mem_singleton.1 hx];omega,by simp,rfl,fun j hj=>absurd hj O,fun x hx=>by rw[List.mem_singleton.1 hx];exact .zero⟩
theorem Te {m:aB} (hm:bE m) {i:Nat} {l:List Int} (h:QY m i l) (hi:i<l.length):QY m (i+1) (visit l (iN m (ix l i))):=by
 have hp:=gY (iN m (ix l i)) l
 have hle:=hp.length_le
 have hne:=h.ne
 have hbi:=h.bd _ (aX hi)
 have hed:∀y∈iN m (ix l i),∃e∈edg m (ix l i).toNat,e.2=y:=fun y hy=>by
  obtain⟨e,he,rfl⟩:=List.mem_map.1 hy
  exact⟨e,he,rfl⟩
 have hnn:∀e∈edg m (ix l i).toNat,0≤e.2∧e.2<(m.sT.length:Int):=fun e he=>by have:=hm.ed _ O e he;omega
 refine⟨uD _ _ h.nd,fun x hx=> ?_,O,(lJ hp hne).trans h.hd,fun j hj hjl e he=> ?_,fun x hx=> ?_⟩
 ·rcases tI _ _ hx with g|g
  ·exact h.bd x g
  ·obtain⟨e,he,rfl⟩:=hed x g
   exact hnn e he
 ·by_cases c:j=i
  ·subst c
   rw[lJ hp hi] at he
   exact tM (hnn e he).1 _ _ (List.mem_map.2 ⟨e,he,rfl⟩)
  ·have hjl2:j<l.length:=by omega
   rw[lJ hp hjl2] at he
   exact hp.subset (h.dn j O hjl2 e he)
 ·rcases tI _ _ hx with g|g
  ·exact h.rch x g
  ·obtain⟨e,he,rfl⟩:=hed x g
   exact .step (h.rch _ (aX hi)) he
theorem vG {m:aB} (hm:bE m):∀i,QY m i (bqY m i)
 |0=>Td hm
 |i+1=>by
  have ih:=vG hm i
  show QY m (i+1) (if i<(bqY m i).length then visit (bqY m i) (iN m (ix (bqY m i) i)) else bqY m i)
  by_cases c:i<(bqY m i).length
  ·rw[if_pos c];exact Te hm ih c
  ·rw[if_neg c]
   exact { ih with dn:=fun j hj hjl=>ih.dn j O hjl }
theorem lM {m:aB} (hm:bE m):QY m m.sT.length (bG m):=vG hm _
theorem rP {m:aB} (hm:bE m):(bG m).length≤m.sT.length:=BX (lM hm).nd (lM hm).bd
theorem mR {m:aB} (hm:bE m) {i:Nat} (hi:i<(bG m).length) {e:PP} (he:e∈edg m (ix (bG m) i).toNat):e.2∈bG m:=by
 have:=rP hm
 exact(lM hm).dn i O hi e he
def uI (l:List Int) (es:List PP):List PP:=cM (es.map fun e=>(e.1,dR l e.2))
def aI (m:aB):aB:=⟨m.aC,(bG m).map fun x=>uI (bG m) (edg m x.toNat)⟩
theorem lN (m:aB):(aI m).sT.length=(bG m).length:=by simp[aI]
theorem vH {m:aB} {i:Nat} (hi:i<(bG m).length):edg (aI m) i=uI (bG m) (edg m (ix (bG m) i).toNat):=CB hi
theorem Aq {l:List Int} {es:List PP} {d:PP}:d∈uI l es↔∃e∈es,d=(e.1,dR l e.2):=by
 unfold uI
 rw[(fL _).mem_iff,List.mem_map]
 exact⟨fun⟨e,he,g⟩=>⟨e,he,g.symm⟩,fun⟨e,he,g⟩=>⟨e,he,g.symm⟩⟩
theorem Tf {m:aB} (hm:bE m):BisY (aI m) m (fun i x=>i<(bG m).length∧x=(ix (bG m) i).toNat):=by
 refine⟨fun {i x} ⟨hi,hx⟩ d hd=> ?_,fun {i x} ⟨hi,hx⟩ e he=> ?_⟩
 ·subst hx
  rw[vH hi] at hd
  obtain⟨e,he,rfl⟩:=Aq.1 hd
  obtain⟨p1,p2⟩:=kN (mR hm hi he)
  have p0:=(fZ (bG m) e.2).1
  exact⟨e,he,rfl,by show(dR (bG m) e.2).toNat<_;omega,by show e.2.toNat=(ix (bG m) (dR (bG m) e.2).toNat).toNat;rw[p2]⟩
 ·subst hx
  obtain⟨p1,p2⟩:=kN (mR hm hi he)
  have p0:=(fZ (bG m) e.2).1
  refine⟨(e.1,dR (bG m) e.2),by rw[vH hi];exact Aq.2 ⟨e,he,rfl⟩,rfl,by show(dR (bG m) e.2).toNat<_;omega,by show e.2.toNat=(ix (bG m) (dR (bG m) e.2).toNat).toNat;rw[p2]⟩
theorem qG {m:aB} (hm:bE m):bE (aI m):=by
 have hq:=lM hm
 have hl:=rP hm
 have f1:=hm.few1
 refine⟨hm.acts,hm.n8,by rw[lN];exact hq.ne,by rw[lN];omega,fun i hi d hd=> ?_,fun i hi=> ?_⟩
 ·rw[lN] at hi ⊢
  rw[vH hi] at hd
  obtain⟨e,he,rfl⟩:=Aq.1 hd
  have hb:=hq.bd _ (aX hi)
  have:=hm.ed _ O e he
  obtain⟨p1,p2⟩:=kN (mR hm hi he)
  exact⟨this.1,this.2.1,(fZ (bG m) e.2).1,p1⟩
 ·rw[lN] at hi
  rw[vH hi]
  unfold uI
  rw[(fL _).length_eq,List.length_map]
  have hb:=hq.bd _ (aX hi)
  exact hm.many _ O
def pN (n:Nat) (cl:List Int) (es:List PP):List Int:=Lib.compact (fG (es.map fun e=>e.1*((n:Int)+1)+ix cl e.2.toNat))
theorem kF {n:Nat} {cl:List Int} {es:List PP} {v:Int}:v∈pN n cl es↔∃e∈es,v=e.1*((n:Int)+1)+ix cl e.2.toNat:=by
 unfold pN
 rw[OL]
 unfold fG
 rw[(List.mergeSort_perm _ _).mem_iff,List.mem_map]
 exact⟨fun⟨e,he,g⟩=>⟨e,he,g.symm⟩,fun⟨e,he,g⟩=>⟨e,he,g.symm⟩⟩
theorem DV (n:Nat) (cl:List Int) (es:List PP):(pN n cl es).Pairwise (· < ·):=Me (Vv _)
abbrev KY:=Int × List Int
def eJ (m:aB) (cl:List Int) (x:Nat):KY:=(ix cl x,pN cl.length cl (edg m x))
def dH (m:aB) (cl:List Int):List KY:=(List.range m.sT.length).map (eJ m cl)
def gS (ks:List KY):List KY:=ks.foldl dL []
def eH (m:aB) (cl:List Int):List Int:=(dH m cl).map fun k=>(pxa (gS (dH m cl)) k:Int)
def gO (m:aB) (cl:List Int):Nat:=(gS (dH m cl)).length
theorem IG:∀(ks l:List KY) {k:KY},k∈ks.foldl dL l↔k∈l∨k∈ks
 | [],l,k=>by simp
 |x::ks,l,k=>by
  rw[List.foldl_cons,IG ks]
  constructor
  ·rintro(h|h)
   ·rcases CK h with g|g
    ·exact .inl g
    ·exact .inr (by rw[g];simp)
   ·exact .inr (List.mem_cons_of_mem _ h)
  ·rintro(h|h)
   ·exact .inl ((pV l x).subset h)
   ·rcases List.mem_cons.1 h with g|g
    ·exact .inl (by rw[g];exact wE l x)
    ·exact .inr g
theorem Ms:∀(ks l:List KY),l.Nodup→(ks.foldl dL l).Nodup
 | [],l,h=>h
 |x::ks,l,h=>Ms ks _ (yU h)
theorem lQ {ks:List KY} {k:KY}:k∈gS ks↔k∈ks:=by unfold gS;rw[IG];simp
theorem CU (ks:List KY):(gS ks).Nodup:=Ms ks [] (by simp)
theorem rQ {m:aB} {cl:List Int} {x:Nat} (hx:x<m.sT.length):eJ m cl x∈dH m cl:=List.mem_map.2 ⟨x,List.mem_range.2 hx,rfl⟩
theorem wH (m:aB) (cl:List Int):(eH m cl).length=m.sT.length:=by simp[eH,dH]
theorem vI {m:aB} {cl:List Int} {x:Nat} (hx:x<m.sT.length):ix (eH m cl) x=(pxa (gS (dH m cl)) (eJ m cl x):Int):=by
 unfold eH
 rw[CB (by simpa [dH] using hx)]
 unfold dH
 rw[cB hx]
theorem zA {m:aB} {cl:List Int} {x y:Nat} (hx:x<m.sT.length) (hy:y<m.sT.length):ix (eH m cl) x=ix (eH m cl) y↔eJ m cl x=eJ m cl y:=by
 rw[vI hx,vI hy]
 constructor
 ·intro h
  have h:pxa (gS (dH m cl)) (eJ m cl x)=pxa (gS (dH m cl)) (eJ m cl y):=by omega
  have e1:=QuoM.sM (lQ.2 (rQ (cl:=cl) hx))
  have e2:=QuoM.sM (lQ.2 (rQ (cl:=cl) hy))
  have e1:ix (gS (dH m cl)) (pxa (gS (dH m cl)) (eJ m cl x))=eJ m cl x:=e1
  rw[h] at e1
  exact e1.symm.trans e2
 ·intro h;rw[h]
structure Lab (n k:Nat) (cl:List Int):Prop where
 len:cl.length=n
 bd:∀x,x<n→0≤ix cl x∧ix cl x<(k:Int)
 on:∀c:Nat,c<k→∃x,x<n∧ix cl x=(c:Int)
theorem Ar (m:aB) (cl:List Int):Lab m.sT.length (gO m cl) (eH m cl):=by
 refine⟨wH m cl,fun x hx=> ?_,fun c hc=> ?_⟩
 ·rw[vI hx]
  have:pxa (gS (dH m cl)) (eJ m cl x)<(gS (dH m cl)).length:=QuoM.vA (lQ.2 (rQ hx))
  unfold gO
  omega
 ·have hin:ix (gS (dH m cl)) c∈dH m cl:=lQ.1 (aX hc)
  obtain⟨x,hx,e⟩:=List.mem_map.1 hin
  have hx:=List.mem_range.1 hx
  refine⟨x,hx,?_⟩
  rw[vI hx,e]
  have hc:c<(gS (dH m cl)).length:=hc
  have h1:pxa (gS (dH m cl)) (ix (gS (dH m cl)) c)≤c:=QuoM.FQ hc rfl
  have h2:=QuoM.sM (aX hc)
  have h2:ix (gS (dH m cl)) (pxa (gS (dH m cl)) (ix (gS (dH m cl)) c))=ix (gS (dH m cl)) c:=h2
  generalize pxa (gS (dH m cl)) (ix (gS (dH m cl)) c)=j at h1 h2 ⊢
  rcases Nat.lt_or_ge j c with g|g
  ·exfalso
   rw[aF O,aF hc] at h2
   exact(List.pairwise_iff_getElem.1 (CU (dH m cl)) _ _ O hc g) h2
  ·omega
theorem BZ {m:aB} {k:Nat} {cl:List Int} (h:Lab m.sT.length k cl) (hk:gO m cl≤k) {x y:Nat} (hx:x<m.sT.length) (hy:y<m.sT.length) (e:ix cl x=ix cl y):ix (eH m cl) x=ix (eH m cl) y:=by
 rw[zA hx hy]
 refine Classical.byContradiction fun hne=> ?_
 have hD:=CU (dH m cl)
 have m1:=lQ.2 (rQ (cl:=cl) hx)
 have m2:=lQ.2 (rQ (cl:=cl) hy)
 have hcov:∀c∈(List.range k).map (fun(c:Nat)=>(c:Int)),c∈((gS (dH m cl)).erase (eJ m cl y)).map Prod.fst:=fun v hv=>by
  obtain⟨c,hc,hcv⟩:=List.mem_map.1 hv
  subst hcv
  obtain⟨z,hz,ez⟩:=h.on c (List.mem_range.1 hc)
  have m3:=lQ.2 (rQ (cl:=cl) hz)
  by_cases g:eJ m cl z=eJ m cl y
  ·refine List.mem_map.2 ⟨eJ m cl x,(List.Nodup.mem_erase_iff hD).2 ⟨hne,m1⟩,?_⟩
   have:ix cl z=ix cl y:=congrArg Prod.fst g
   show ix cl x=(c:Int)
   rw[e,←this,ez]
  ·exact List.mem_map.2 ⟨eJ m cl z,(List.Nodup.mem_erase_iff hD).2 ⟨g,m3⟩,ez⟩
 have hn:((List.range k).map (fun(c:Nat)=>(c:Int))).Nodup:=by
  rw[List.nodup_iff_pairwise_ne,List.pairwise_map]
  exact List.pairwise_lt_range.imp fun h=>by omega
 have:=List.Nodup.length_le_of_subset hn hcov
 rw[List.length_map,List.length_map,List.length_range,List.length_erase_of_mem m2] at this
 have hp:0<(gS (dH m cl)).length:=List.length_pos_of_mem m2
 unfold gO at hk
 omega
theorem CV {m:aB} (hm:bE m) {k:Nat} {cl:List Int} (h:Lab m.sT.length k cl) (hkn:k≤m.sT.length) {x y:Nat} (hx:x<m.sT.length) (hy:y<m.sT.length):
 eJ m cl x=eJ m cl y↔ix cl x=ix cl y∧(∀e∈edg m x,∃d∈edg m y,d.1=e.1∧ix cl d.2.toNat=ix cl e.2.toNat)∧(∀d∈edg m y,∃e∈edg m x,e.1=d.1∧ix cl e.2.toNat=ix cl d.2.toNat):=by
 have hb:∀{z:Nat},z<m.sT.length→∀e∈edg m z,0≤ix cl e.2.toNat∧ix cl e.2.toNat<(cl.length:Int)+1:=fun {z} hz e he=>by
  have g:=hm.ed z hz e he
  have:=h.bd e.2.toNat O
  rw[h.len]
  omega
 have inj:∀{a b c d n:Int},0≤b→b<n→0≤d→d<n→a*n+b=c*n+d→a=c∧b=d:=fun {a b c d n} h1 h2 h3 h4 he=>by
  have hn:0<n:=by omega
  have e1:(a*n+b)/n=a:=by
   rw[Int.add_comm,Int.add_mul_ediv_right _ _ O,Int.ediv_eq_zero_of_lt h1 h2];omega
  have e2:(c*n+d)/n=c:=by
   rw[Int.add_comm,Int.add_mul_ediv_right _ _ O,Int.ediv_eq_zero_of_lt h3 h4];omega
  rw[he] at e1
  have:a=c:=by omega
  subst this
  exact⟨rfl,O⟩
 unfold eJ
 rw[Prod.mk.injEq]
 constructor
 ·rintro⟨h1,h2⟩
  refine⟨h1,fun e he=> ?_,fun d hd=> ?_⟩
  ·have:e.1*((cl.length:Int)+1)+ix cl e.2.toNat∈pN cl.length cl (edg m y):=by rw[←h2];exact kF.2 ⟨e,he,rfl⟩
   obtain⟨d,hd,g⟩:=kF.1 this
   obtain⟨g1,g2⟩:=inj (hb hx e he).1 (hb hx e he).2 (hb hy d hd).1 (hb hy d hd).2 g
   exact⟨d,hd,g1.symm,g2.symm⟩
  ·have:d.1*((cl.length:Int)+1)+ix cl d.2.toNat∈pN cl.length cl (edg m x):=by rw[h2];exact kF.2 ⟨d,hd,rfl⟩
   obtain⟨e,he,g⟩:=kF.1 this
   obtain⟨g1,g2⟩:=inj (hb hy d hd).1 (hb hy d hd).2 (hb hx e he).1 (hb hx e he).2 g
   exact⟨e,he,g1.symm,g2.symm⟩
 ·rintro⟨h1,h2,h3⟩
  refine⟨h1,Bw (DV _ _ _) (DV _ _ _) fun v=>⟨fun hv=> ?_,fun hv=> ?_⟩⟩
  ·obtain⟨e,he,rfl⟩:=kF.1 hv
   obtain⟨d,hd,g1,g2⟩:=h2 e he
   exact kF.2 ⟨d,hd,by rw[g1,g2]⟩
  ·obtain⟨d,hd,rfl⟩:=kF.1 hv
   obtain⟨e,he,g1,g2⟩:=h3 d hd
   exact kF.2 ⟨e,he,by rw[g1,g2]⟩
end LsysM
end
section
namespace LsysM2
open ref01 ref03 ref04 ref06 Part Rungs LeftM TrimM RoundM MergeM BisM BisM3 BisM4 BisM5 BisM6 Keys WalkM WitM JudgM JudgM2 LevM divr divs divd dive divf divv judg sysw satj ChsM BisS TrimI QuoM FailM DivM RefM GenW CompM CrossM FitM TogM KeepK GuardM MakeM LsysM
theorem CW (m:aB) (cl:List Int):gO m cl≤m.sT.length:=by
 have h:=List.Nodup.length_le_of_subset (CU (dH m cl)) (fun k hk=>lQ.1 hk)
 unfold dH at h
 rw[List.length_map,List.length_range] at h
 exact h
def wM (m:aB):Nat→Nat→List Int→List Int
 |0,_,cl=>cl
 |f+1,k,cl=>if k<gO m cl then wM m f (gO m cl) (eH m cl) else eH m cl
def xY (m:aB) (cl:List Int):Prop:=∀R,BisY m m R→∀x y,x<m.sT.length→y<m.sT.length→R x y→ix cl x=ix cl y
theorem zK {m:aB} (hm:bE m) {k:Nat} {cl:List Int} (h:Lab m.sT.length k cl) (hk:k≤m.sT.length) (hc:xY m cl):xY m (eH m cl):=fun R hR x y hx hy r=>by
 rw[zA hx hy,CV hm h hk hx hy]
 refine⟨hc R hR x y hx hy r,fun e he=> ?_,fun d hd=> ?_⟩
 ·obtain⟨d,hd,g,r2⟩:=hR.fw r e he
  have b1:=hm.ed x hx e he
  have b2:=hm.ed y hy d hd
  exact⟨d,hd,g,(hc R hR _ _ O O r2).symm⟩
 ·obtain⟨e,he,g,r2⟩:=hR.bw r d hd
  have b1:=hm.ed x hx e he
  have b2:=hm.ed y hy d hd
  exact⟨e,he,g,hc R hR _ _ O O r2⟩
structure pW (m:aB) (k:Nat) (nx:List Int):Prop where
 lab:Lab m.sT.length k nx
 few:k≤m.sT.length
 bis:BisY m m (fun x y=>x<m.sT.length∧y<m.sT.length∧ix nx x=ix nx y)
 co:xY m nx
theorem Tg {m:aB} (hm:bE m) {k:Nat} {cl:List Int} (h:Lab m.sT.length k cl) (hk:k≤m.sT.length) (hc:xY m cl) (hs:gO m cl≤k):pW m (gO m cl) (eH m cl):=by
 refine⟨Ar m cl,CW m cl,⟨fun {x y} ⟨hx,hy,e⟩ d hd=> ?_,fun {x y} ⟨hx,hy,e⟩ d hd=> ?_⟩,zK hm h hk hc⟩
 ·rw[zA hx hy,CV hm h hk hx hy] at e
  obtain⟨d',hd',g1,g2⟩:=e.2.1 d hd
  have b1:=hm.ed x hx d hd
  have b2:=hm.ed y hy d' hd'
  exact⟨d',hd',g1,O,O,BZ h hs O O g2.symm⟩
 ·rw[zA hx hy,CV hm h hk hx hy] at e
  obtain⟨d',hd',g1,g2⟩:=e.2.2 d hd
  have b1:=hm.ed x hx d' hd'
  have b2:=hm.ed y hy d hd
  exact⟨d',hd',g1,O,O,BZ h hs O O g2⟩
def sR (m:aB):List Int:=List.replicate m.sT.length 0
def aK (m:aB):List Int:=wM m (m.sT.length+1) 1 (sR m)
theorem Gk {m:aB} (hm:bE m):Lab m.sT.length 1 (sR m):=by
 have f:=hm.few0
 refine⟨by simp[sR],fun x hx=> ?_,fun c hc=>⟨0,O,?_⟩⟩
 ·have:ix (sR m) x=0:=BL 0 hx
  rw[this];omega
 ·have:ix (sR m) 0=0:=BL 0 O
  rw[this];omega
def qE (nx:List Int) (es:List PP):List PP:=Lib.compact (cM (es.map fun e=>(e.1,ix nx e.2.toNat)))
def jV (m:aB) (k:Nat) (nx:List Int):aB:=⟨m.aC,(List.range k).map fun(c:Nat)=>qE nx (edg m (nx.idxOf (c:Int)))⟩
theorem Gl {nx:List Int} {es:List PP} {d:PP}:d∈qE nx es↔∃e∈es,d=(e.1,ix nx e.2.toNat):=by
 unfold qE
 rw[DT,(fL _).mem_iff,List.mem_map]
 exact⟨fun⟨e,he,g⟩=>⟨e,he,g.symm⟩,fun⟨e,he,g⟩=>⟨e,he,g.symm⟩⟩
theorem Ti (nx:List Int) (es:List PP):(qE nx es).Pairwise uH:=BV (sF _)
theorem Mu (nx:List Int) (es:List PP):(qE nx es).length≤es.length:=by
 unfold qE
 have h1:=DU (cM (es.map fun e=>((e.1,ix nx e.2.toNat):PP)))
 have h2:=(fL (es.map fun e=>((e.1,ix nx e.2.toNat):PP))).length_eq
 rw[List.length_map] at h2
 omega
theorem vJ {m:aB} {k:Nat} {nx:List Int} {c:Nat} (hc:c<k):edg (jV m k nx) c=qE nx (edg m (nx.idxOf (c:Int))):=by
 show ix ((List.range k).map _) c=_
 exact cB hc
theorem rR (m:aB) (k:Nat) (nx:List Int):(jV m k nx).sT.length=k:=by simp[jV]
section
variable {m:aB} {k:Nat} {nx:List Int}
theorem xZ (h:Lab m.sT.length k nx) {c:Nat} (hc:c<k):nx.idxOf (c:Int)<m.sT.length∧ix nx (nx.idxOf (c:Int))=(c:Int):=by
 obtain⟨x,hx,e⟩:=h.on c hc
 have hin:(c:Int)∈nx:=by rw[←e];exact aX (by rw[h.len];exact hx)
 have h1:=List.idxOf_lt_length_of_mem hin
 refine⟨by rw[←h.len];exact h1,?_⟩
 rw[aF h1]
 exact List.getElem_idxOf h1
theorem Tj (hm:bE m) (h:pW m k nx):BisY m (jV m k nx) (fun x c=>x<m.sT.length∧c<k∧ix nx x=(c:Int)):=by
 refine⟨fun {x c} ⟨hx,hc,e⟩ d hd=> ?_,fun {x c} ⟨hx,hc,e⟩ d hd=> ?_⟩
 ·obtain⟨r1,r2⟩:=xZ h.lab hc
  obtain⟨d',hd',g1,b1,b2,g2⟩:=h.bis.fw (x:=x) (y:=nx.idxOf (c:Int)) ⟨hx,r1,by rw[e,r2]⟩ d hd
  have hb:=h.lab.bd d.2.toNat b1
  have hn:ix nx d'.2.toNat=ix nx d.2.toNat:=g2.symm
  refine⟨(d'.1,ix nx d'.2.toNat),by rw[vJ hc];exact Gl.2 ⟨d',hd',rfl⟩,g1,b1,?_,?_⟩
  ·show(ix nx d'.2.toNat).toNat<k
   rw[hn];omega
  ·show ix nx d.2.toNat=(((ix nx d'.2.toNat).toNat:Nat):Int)
   rw[hn];omega
 ·obtain⟨r1,r2⟩:=xZ h.lab hc
  rw[vJ hc] at hd
  obtain⟨d',hd',rfl⟩:=Gl.1 hd
  obtain⟨e',he',g1,b1,b2,g2⟩:=h.bis.bw (x:=x) (y:=nx.idxOf (c:Int)) ⟨hx,r1,by rw[e,r2]⟩ d' hd'
  have hb:=h.lab.bd e'.2.toNat b1
  refine⟨e',he',g1,b1,?_,?_⟩
  ·show(ix nx d'.2.toNat).toNat<k
   rw[←g2];omega
  ·show ix nx e'.2.toNat=(((ix nx d'.2.toNat).toNat:Nat):Int)
   rw[←g2];omega
theorem Mv (hm:bE m) (h:pW m k nx):bE (jV m k nx):=by
 have f0:=hm.few0
 have f1:=hm.few1
 have hk:=h.few
 have hb0:=h.lab.bd 0 O
 refine⟨hm.acts,hm.n8,by rw[rR];omega,by rw[rR];omega,fun c hc d hd=> ?_,fun c hc=> ?_⟩
 ·rw[rR] at hc ⊢
  rw[vJ hc] at hd
  obtain⟨r1,_⟩:=xZ h.lab hc
  obtain⟨e,he,rfl⟩:=Gl.1 hd
  have:=hm.ed _ r1 e he
  have hb:=h.lab.bd e.2.toNat O
  exact⟨this.1,this.2.1,hb.1,hb.2⟩
 ·rw[rR] at hc
  rw[vJ hc]
  exact Nat.le_trans (Mu _ _) (hm.many _ (xZ h.lab hc).1)
end
theorem Mw {m:aB} (hm:bE m) {k:Nat} {nx:List Int} (h:pW (aI m) k nx) (h0:ix nx 0=0) {s:SS} (hs:iA m s):iA (jV (aI m) k nx) s:=by
 have hp:=qG hm
 have f0:=hp.few0
 have hb:=h.lab.bd 0 O
 have h1:iA (aI m) s:=Gi (Tf hm).symm ⟨(lM hm).ne,by show 0=(ix (bG m) 0).toNat;rw[(lM hm).hd];rfl⟩ hs
 exact Gi (Tj hp h) ⟨O,O,by rw[h0];rfl⟩ h1
end LsysM2
end
section
namespace KeepB
open ref01 ref03 ref04 ref06 Part Rungs LeftM TrimM RoundM MergeM BisM BisM3 BisM4 BisM5 BisM6 Keys WalkM WitM JudgM JudgM2 LevM divr divs divd dive divf divv judg sysw satj ChsM BisS TrimI QuoM FailM DivM RefM GenW CompM CrossM FitM TogM KeepK GuardM MakeM LsysM LsysM2
def kT (mm:List (Int × Bool)) (l:List Int):Prop:=∀k,(bO mm k).getD false=decide (k∈l)
theorem qB {mm:List (Int × Bool)} {l:List Int} (h:kT mm l) (k:Int):kT (cI mm k true) (l++ [k]):=fun q=>by
 rw[nJ]
 by_cases e:k=q
 ·subst e;rw[if_pos rfl];simp
 ·rw[if_neg e,h q]
  have:q∈l++ [k]↔q∈l:=by
   rw[List.mem_append]
   exact⟨fun h=>h.resolve_right (fun h=>e (List.mem_singleton.1 h).symm),.inl⟩
  rw[decide_eq_decide];exact this.symm
theorem Mx:kT (cI ([]:List (Int × Bool)) 0 true) [0]:=qB (l:= []) (fun q=>by rw[decide_eq_false (by simp)];rfl) 0
noncomputable def jI (m:aB) (u:Int):Bool:=(bG m).all fun x=>decide (cC (bQ m x.toNat) u=u)
theorem Tk (m:aB) (i:Nat):bqY m i<+:bqY m (i+1):=by
 show bqY m i<+:(if i<(bqY m i).length then visit (bqY m i) (iN m (ix (bqY m i) i)) else bqY m i)
 split
 ·exact gY _ _
 ·exact List.prefix_rfl
theorem Gm (m:aB) {i:Nat}:∀{j:Nat},i≤j→bqY m i<+:bqY m j
 |0,h=>by rw[show i=0 by omega];exact List.prefix_rfl
 |j+1,h=>by
  by_cases e:i=j+1
  ·rw[e];exact List.prefix_rfl
  ·exact(Gm m (j:=j) O).trans (Tk m j)
theorem Gn {m:aB} {i:Nat} (h:(bqY m i).length≤i):∀j,i≤j→bqY m j=bqY m i
 |0,hj=>by rw[show i=0 by omega]
 |j+1,hj=>by
  by_cases e:i=j+1
  ·rw[e]
  ·have ih:=Gn h j O
   show(if j<(bqY m j).length then visit (bqY m j) (iN m (ix (bqY m j) j)) else bqY m j)=_
   rw[if_neg (by rw[ih];omega),ih]
theorem II {m:aB} (hm:bE m) {i:Nat} (hi:i≤m.sT.length) (h:(bqY m i).length≤i):bqY m i=bG m:=(Gn h _ hi).symm
theorem VK {m:aB} {i:Nat} (hi:i≤m.sT.length) {x:Int} (hx:x∈bqY m i):x∈bG m:=(Gm m hi).subset hx
theorem Gp {m:aB} (hm:bE m) (i:Nat):(bqY m i).length≤m.sT.length:=BX (vG hm i).nd (vG hm i).bd
theorem Gq {m:aB} {i:Nat} (hi:i<(bqY m i).length):bqY m (i+1)=visit (bqY m i) (iN m (ix (bqY m i) i)):=by
 show(if i<(bqY m i).length then visit (bqY m i) (iN m (ix (bqY m i) i)) else bqY m i)=_
 rw[if_pos hi]
theorem Ca {m:aB} {x:Int} {k:Nat} (hk:k<(edg m x.toNat).length):(iN m x).take (k+1)=(iN m x).take k++ [(ix (edg m x.toNat) k).2]:=by
 unfold iN
 rw[←List.map_take,←List.map_take,bJ hk,List.map_append];rfl
theorem DW {l ks:List Int} {y:Int} (h0:0≤y) (h:y∉visit l ks):visit l (ks++ [y])=visit l ks++ [y]:=by rw[tO,vZ h0 h]
theorem DX {l ks:List Int} {y:Int} (h:y∈visit l ks):visit l (ks++ [y])=visit l ks:=by rw[tO,tN (.inr h)]
theorem Pm {m:aB} {u:Int} {i:Nat} (hi:i≤m.sT.length) (hl:i<(bqY m i).length) (h:cC (bQ m (ix (bqY m i) i).toNat) u≠u):jI m u=false:=by
 unfold jI
 rw[Bool.eq_false_iff]
 intro g
 have:=List.all_eq_true.1 g _ (VK hi (aX hl))
 exact h (of_decide_eq_true this)
theorem My {m:aB} (hm:bE m) {u:Int} {i:Nat} (hi:i≤m.sT.length) (hl:(bqY m i).length≤i) (h:∀j,j<i→j<(bqY m i).length→cC (bQ m (ix (bqY m i) j).toNat) u=u):jI m u=true:=by
 unfold jI
 rw[←II hm hi hl]
 refine List.all_eq_true.2 fun x hx=> ?_
 obtain⟨j,hj,rfl⟩:=List.getElem_of_mem hx
 rw[←aF hj]
 exact decide_eq_true (h j O hj)
theorem VL {m:aB} (hm:bE m) {x:Nat} (h:Am m x):(x:Int)∈bG m:=by
 have hq:=lM hm
 induction h with
 |zero=>
  have:ix (bG m) 0∈bG m:=aX hq.ne
  rw[hq.hd] at this;exact this
 |step h1 h2 ih=>
  rename_i x e
  obtain⟨j,hj,g⟩:=List.getElem_of_mem ih
  have e1:ix (bG m) j=(x:Int):=by rw[aF hj];exact g
  have:=mR hm hj (e:=e) (by rw[e1,Int.toNat_natCast];exact h2)
  have hb:=hq.bd _ this
  rw[show((e.2.toNat:Nat):Int)=e.2 by omega];exact this
theorem Mz {m:aB} (hm:bE m) {u:Int}:jI m u=true↔qF m u:=by
 unfold jI qF
 rw[List.all_eq_true]
 constructor
 ·intro h x hx
  have:=of_decide_eq_true (h _ (VL hm hx))
  rwa [Int.toNat_natCast] at this
 ·intro h x hx
  exact decide_eq_true (h _ ((lM hm).rch x hx))
end KeepB
end
end Go.Proofs.YtnlfjojfgghchaaGreatDoor
