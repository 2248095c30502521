/- The walks of the functions and the plain laws. Own texts of this claim, packed: Zdprodq. -/
import Derived.Test.YtcjemmihcplgdaaGreatDoorX25
import Derived.Test.YtcjemmihcplgdaaGreatDoorX24
import Derived.Test.YtcjemmihcplgdaaGreatDoorX26
set_option linter.all false
namespace Go.Proofs.YtcjemmihcplgdaaGreatDoor
open AL Go
set_option maxRecDepth 100000
section
set_option maxHeartbeats 2000000
open ValidM ref01 ref03 ref04 ref06 prog prog2 prog3 prog4 prog5 prog6 prog7 prog8 prog9 prog13 prog15 starts Part Rungs LeftM TrimM Itoa Keys RoundM MergeM BisM BisM4 BisM5 WalkM StepM WitM JudgM JudgM2 refw judg wit refj sysw satj divr divs divd dive divg divw divv LevM LevM2 ChsM TrimI QuoM FailM DivM RefM GenW CompM CrossM CompP EncM EncM2 prodc divp prodm prodp BesM prodb prodr ForkM prodk SevM SatC TogM ProdM prods prody prodo OrdM
theorem BG {s:SS} (hs:oK s):size s≤8+10000+s.sT.length*264:=by
 have h8:=hs.n8
 have h1:=hs.few1
 have h0:part s 0≤8+10000:=by unfold part;simp;omega
 have key:∀k,k≤s.sT.length→part s k≤8+10000+k*264:=by
  intro k
  induction k with
  |zero=>intro _;omega
  |succ k ih=>
   intro hk
   have h2:=(hs.st k O).len
   have h3:=(hs.st k O).acl
   have h4:=ih O
   rw[tW O,Nat.add_mul]
   omega
 exact key _ (Nat.le_refl _)
theorem EU:bK ⟨[],[]⟩:=fun k hk=>absurd hk (by show ¬k<0;omega)
theorem EV (s t:SS):(aA s t).1=⟨[],[]⟩∨(oK (aA s t).1∧(aA s t).1.sT.length≤500):=by
 unfold aA
 by_cases e:bN s t=0
 ·rw[if_pos e]
  obtain⟨h1,h2,_⟩:=Go.Proofs.YtcjemmihcplgdaaGreatDoor.mX e
  cases g:(bB s t).2 with
  |true=>rw[if_pos rfl];exact .inr ⟨kD (bW h1) (bW h2) g,mZ (bW h1) (bW h2) g⟩
  |false=>rw[if_neg (by simp)];exact .inl rfl
 ·rw[if_neg e];exact .inl rfl
theorem size_nil:size ⟨[],[]⟩=0:=rfl
theorem mJ (s t:SS):bK (aA s t).1:=by
 rcases EV s t with h|h
 ·rw[h];exact EU
 ·exact h.1.small
theorem nU (s t:SS):(size (aA s t).1:Int)≤1000000:=by
 rcases EV s t with h|h
 ·rw[h,size_nil];omega
 ·have:=BG h.1
  have:=h.2
  omega
theorem Om (m:aI) (t:SS) (hz:2^m.sT.length*t.sT.length≤10000):(cG m t).1=⟨[],[]⟩∨(oK (cG m t).1∧(cG m t).1.sT.length≤500):=by
 by_cases h:(cG m t).2=0
 ·by_cases hf:cO m t=0
  ·obtain⟨h1,_⟩:=Ih hf hz h
   exact .inr ⟨bW h1,KV h1⟩
  ·unfold cG;rw[if_neg hf];exact .inl rfl
 ·left
  unfold cG at h ⊢
  by_cases hf:cO m t=0
  ·rw[if_pos hf] at h ⊢
   by_cases e:ix (hOl t) 0=true
   ·rw[if_pos e] at h;exact absurd rfl h
   ·rw[if_neg e] at h ⊢
    split at h
    ·exact absurd rfl h
    ·next g=>rw[if_neg g]
  ·rw[if_neg hf]
theorem QR (m:aI) (t:SS) (hz:2^m.sT.length*t.sT.length≤10000):bK (cG m t).1∧(size (cG m t).1:Int)≤1000000:=by
 rcases Om m t hz with h|h
 ·rw[h,size_nil];exact⟨EU,O⟩
 ·have:=BG h.1
  have:=h.2
  exact⟨h.1.small,O⟩
theorem Ft {s t:SS} (hs:oK s) (ht:oK t) (h:s.sT.length*t.sT.length≤500):(bB s t).2=true:=by
 cases e:(bB s t).2 with
 |true=>rfl
 |false=>
  have:=EH hs ht e
  unfold Hu at this
  rw[decide_eq_true_eq] at this
  have e2:((s.sT.length*t.sT.length:Nat):Int)=(s.sT.length:Int)*(t.sT.length:Int):=by simp
  omega
theorem vO {s t:SS} (hf:bN s t=0) (h:(bB s t).2=true):aA s t=((bB s t).1,0):=by unfold aA;rw[if_pos hf,if_pos h]
theorem iT {s t:SS} (h1:aX s=true) (h2:aX t=true) (h3:s.aC=t.aC):bN s t=0:=by unfold bN;rw[if_pos ⟨h1,h2⟩,if_pos h3]
theorem Io {s t:SS} (hf:bN s t=0) (h1:dA s t) (h2:dA t s):eqB s t=true:=by unfold eqB;rw[decide_eq_true hf,nR.2 h1,nR.2 h2];rfl
theorem Oo {s t:SS} (hf:bN s t=0) (h1:dA s t):rfB s t=true:=by unfold rfB;rw[decide_eq_true hf,nR.2 h1];rfl
theorem We {s t:SS} (h:rfB s t=true):dA s t:=by unfold rfB at h;rw[Bool.and_eq_true] at h;exact nR.1 h.2
structure OkO (s x:SS):Prop where
 few:x.sT.length≤6
 sz:(size x:Int)≤200
 fine:bN x s=0
theorem Wf {s x:SS} (h:((decide ((6:Int)<(x.sT.length:Int))|| !few x 200)||decide (rW x s≠0))=false):OkO s x:=by
 rw[Bool.or_eq_false_iff,Bool.or_eq_false_iff,Bool.not_eq_false',decide_eq_false_iff_not,decide_eq_false_iff_not] at h
 exact⟨O,Tu h.1.2,Classical.not_not.1 h.2⟩
theorem ix6 (k:Nat):ix [(0:Int),0,0,0,0,0] k=0:=by
 match k with
 |0=>rfl
 |1=>rfl
 |2=>rfl
 |3=>rfl
 |4=>rfl
 |5=>rfl
 |_+6=>rfl
structure Wg (s t u:SS):Prop where
 st:(aA s t).2=0
 ts:(aA t s).2=0
 tu:(aA t u).2=0
 ut:(aA u t).2=0
 one:jK s.aC []=(aQ s.aC,0)
 none:aA s (nothing s.aC)=(nothing s.aC,0)
 e1:eqB (aA s t).1 (aA t s).1=true
 e2:(aA s (aQ s.aC)).2=0→eqB (aA s (aQ s.aC)).1 s=true
 e3:(aA (aA s t).1 u).2=0→(aA s (aA t u).1).2=0→eqB (aA (aA s t).1 u).1 (aA s (aA t u).1).1=true
 r:rfB s u=true→rfB (aA s t).1 (aA u t).1=true
 hs:oK s
 ht:oK t
 hu:oK u
 sv:aX s=true
 tv:aX t=true
 uv:aX u=true
 ta:t.aC=s.aC
 ua:u.aC=s.aC
theorem TQ {s t u:SS} (k0:OkO s s) (k1:OkO s t) (k2:OkO s u):Wg s t u:=by
 obtain⟨sv,_,_⟩:=Go.Proofs.YtcjemmihcplgdaaGreatDoor.mX k0.fine
 obtain⟨tv,_,ta⟩:=Go.Proofs.YtcjemmihcplgdaaGreatDoor.mX k1.fine
 obtain⟨uv,_,ua⟩:=Go.Proofs.YtcjemmihcplgdaaGreatDoor.mX k2.fine
 have hs:=bW sv
 have ht:=bW tv
 have hu:=bW uv
 have f0:=k0.few
 have f1:=k1.few
 have f2:=k2.few
 have m:∀{a b:SS},a.sT.length≤6→b.sT.length≤6→a.sT.length*b.sT.length≤6*6:=fun h g=>Nat.mul_le_mul h g
 have cst:=Ft hs ht (by have:=m f0 f1;omega)
 have cts:=Ft ht hs (by have:=m f1 f0;omega)
 have ctu:=Ft ht hu (by have:=m f1 f2;omega)
 have cut:=Ft hu ht (by have:=m f2 f1;omega)
 have gst:=vO (iT sv tv ta.symm) cst
 have gts:=vO (iT tv sv ta) cts
 have gtu:=vO (iT tv uv (ta.trans ua.symm)) ctu
 have gut:=vO (iT uv tv (ua.trans ta.symm)) cut
 have vst:aX (bB s t).1=true:=gD (kD hs ht cst) (mZ hs ht cst)
 have vts:aX (bB t s).1=true:=gD (kD ht hs cts) (mZ ht hs cts)
 have vtu:aX (bB t u).1=true:=gD (kD ht hu ctu) (mZ ht hu ctu)
 have vut:aX (bB u t).1=true:=gD (kD hu ht cut) (mZ hu ht cut)
 have ast:=lL cst
 have ats:=lL cts
 have atu:=lL ctu
 have aut:=lL cut
 have vne:aX (aQ s.aC)=true:=gD (mY hs.acts) (by show 1≤500;omega)
 have fno:bN s (nothing s.aC)=0:=iT sv (gD (jE hs.acts) (by show 1≤500;omega)) rfl
 refine⟨by rw[gst],by rw[gts],by rw[gtu],by rw[gut],?_,?_,?_,fun h=> ?_,fun h1 h2=> ?_,fun h=> ?_,hs,ht,hu,sv,tv,uv,ta,ua⟩
 ·have hl:gY s.aC []=0:=by unfold gY;rw[if_neg (by simp),hs.acts];rfl
  unfold jK
  rw[if_pos hl,if_pos (show sF s.aC [] [].length from fun j hj=>absurd hj (by show ¬j<0;omega))];rfl
 ·have e:eO s (nothing s.aC):= .inr (eP _)
  have:=vN e
  rw[vO fno (by rw[this]),this]
 ·rw[gst,gts]
  exact Io (iT vst vts (by rw[ast,ats,ta])) (Ik hs ht cst cts) (Ik ht hs cts cst)
 ·have f:bN s (aQ s.aC)=0:=iT sv vne rfl
  obtain⟨k,e⟩:=vM f h
  have vx:aX (bB s (aQ s.aC)).1=true:=gD (kD hs (mY hs.acts) k) (mZ hs (mY hs.acts) k)
  obtain⟨r1,r2⟩:=QQ hs k
  rw[e]
  exact Io (iT vx sv (lL k)) r1 r2
 ·rw[gst] at h1 ⊢
  rw[gtu] at h2 ⊢
  obtain⟨k1,e1⟩:=vM (iT vst uv (ast.trans ua.symm)) h1
  obtain⟨k2,e2⟩:=vM (iT sv vtu (by rw[atu,ta])) h2
  have oX:=kD hs ht cst
  have oY:=kD ht hu ctu
  have va:aX (bB (bB s t).1 u).1=true:=gD (kD oX hu k1) (mZ oX hu k1)
  have vb:aX (bB s (bB t u).1).1=true:=gD (kD hs oY k2) (mZ hs oY k2)
  obtain⟨r1,r2⟩:=Ol hs ht hu cst ctu k1 k2
  show eqB (aA (bB s t).1 u).1 (aA s (bB t u).1).1=true
  rw[e1,e2]
  exact Io (iT va vb (by rw[lL k1,lL k2,ast])) r1 r2
 ·rw[gst,gut]
  exact Oo (iT vst vut (by rw[ast,aut,ua])) (QP hs hu ht (We h) cst cut)
theorem TR {s t u:SS} (hF:Wg s t u) {m:aI} (hz:2^m.sT.length*t.sT.length≤10000) {v:VJ} (hv:Fs m s v) (h1:cO m s=0) (h2:v.holds=true) (h3:(cG m t).2=0):rfB (cG m t).1 (aA s t).1=true:=by
 obtain⟨k1,k2,ha⟩:=wP h1
 have hsat:=(MZ (hv.ok h1)).1 h2
 have hmt:cO m t=0:=by unfold cO;rw[if_pos k1,if_pos hF.tv,if_pos (ha.trans hF.ta.symm)]
 obtain⟨b1,b2⟩:=Ih hmt hz h3
 have f:=iT hF.sv hF.tv hF.ta.symm
 obtain⟨c,e⟩:=vM f hF.st
 obtain⟨c1,c2⟩:=QL f hF.st
 refine Oo (iT b1 c1 (by rw[b2,c2,ha])) ?_
 rw[e]
 exact TM hF.hs hmt hsat h3 c
namespace T
theorem Fu:Tryz.prog.underlying 61=some (.array 3 25):=by kernel_rfl
theorem Xa:fH Tryz.prog 61 6:=fT kR
theorem Xb:Ent Tryz.prog 18:=aG kR
theorem Xc:Ent Tryz.prog 13:=aG kR
theorem Lw:Ent Tryz.prog 12:=aG kR
theorem Xd:Ent Tryz.prog 30:=aG kR
theorem Xe:Ent Tryz.prog 28:=aG kR
theorem XD:eG Tryz.prog 77 28 1 8 [.int .i64 0]:=fU kR kR
theorem Wh:IsSlice Tryz.prog 77 28 1:=dW kR
theorem Xf:dF Tryz.prog 28:=dH kR
theorem Lx:Ent Tryz.prog 51:=aG kR
theorem Ly:Ent Tryz.prog 52:=aG kR
theorem RI:Ent Tryz.prog 36:=aG kR
theorem Xg:Ent Tryz.prog 42:=aG kR
theorem Xh:Ent Tryz.prog 35:=aG kR
theorem TS:cW Tryz.prog 69 0 0:=cB kR
end T
namespace prodq
theorem IQ (l:List ByteArray):AL.Fn0 Tryz.prog 28 [kQ (strs l),eqv (.slice none 0 0)] (tup [spec (jK l []).1,int (jK l []).2]):=fun w F vs hvs=>by
 match vs,hvs with
 | [u,v],⟨h1,h2,_⟩=>exact prods.Lp l [] (fun k hk=>absurd hk (by show ¬k<0;omega)) w F [u,v] ⟨h1,bT h2,tV⟩
theorem BH (s:SS) (hsm:bK s) (t:SS) (htm:bK t) (u:SS) (hum:bK u) (m:aI):
 Fn0 Tryz.prog 10 [kQ (agg [strs s.aC,sl 2 sE s.sT,strs t.aC,sl 2 sE t.sT,strs u.aC,sl 2 sE u.sT]),sys m] (bl true):=by
 refine fnI Tryz.func10 rfl rfl (fun w0 F0=> ?_)
 refine tbI 0 9999 rfl ?_
 refine GD (ψ:=tab) 9999 997 rfl ?_
 refine fcC (bO 1 J) (fun hS1=> ?_)
 obtain⟨hma1,hms1,hme1⟩:=eI hS1
 refine sq (rg (bx (key:=2) (cs:= [sl 1 rE_ s.aC,sl 2 sE s.sT,sl 1 rE_ t.aC,sl 2 sE t.sT,sl 1 rE_ u.aC,sl 2 sE u.sT]) J fun b2=>(bx (key:=3) (cs:= [sl 1 rE_ m.aC,sl 1 gE m.sT]) J fun b3=>(ag (nl (th (sq ?_)))))))
 refine drH (nh:=12) [0,1,0,4,0,16,0,0,0,451,975,2047] [(none,[]),(none,[2]),(none,[]),(none,[2]),(none,[]),(none,[2]),(some 5,[]),(some 6,[]),(some 7,[]),(some 5,[5]),(some 6,[6]),(some 7,[7])] T.mixed kR kR ?_
 refine stv (d:=34) (fun β0=>ptr 2 b2 0) [] J bH (fun β0 _ _ _ _ gq gh kq=>Pv (gq.1.trans J) J T.Fu T.aD J kq) ?_
 refine stv (d:=35) (fun β0=>agg [sl 1 rE_ s.aC,sl 2 sE s.sT]) [2] J bH (fun β0 _ _ _ _ gq gh kq=>lPA (gq.1.trans J) (gh.1.trans J) T.aD J kq) ?_
 refine stv (d:=36) (fun β0=>ptr 2 b2 2) [] J bH (fun β0 _ _ _ _ gq gh kq=>Pv (gq.1.trans J) J T.Fu T.aD J kq) ?_
 refine stv (d:=37) (fun β0=>agg [sl 1 rE_ t.aC,sl 2 sE t.sT]) [2] J bH (fun β0 _ _ _ _ gq gh kq=>lPA (gq.1.trans J) (gh.1.trans J) T.aD J kq) ?_
 refine stv (d:=38) (fun β0=>ptr 2 b2 4) [] J bH (fun β0 _ _ _ _ gq gh kq=>Pv (gq.1.trans J) J T.Fu T.aD J kq) ?_
 refine stv (d:=39) (fun β0=>agg [sl 1 rE_ u.aC,sl 2 sE u.sT]) [2] J bH (fun β0 _ _ _ _ gq gh kq=>lPA (gq.1.trans J) (gh.1.trans J) T.aD J kq) ?_
 refine sta 5 T.z25 (eC (eC eZ)) ?_
 refine sta 6 T.z25 (eC (eC eZ)) ?_
 refine sta 7 T.z25 (eC (eC eZ)) ?_
 refine stw 5 (fun β0=>cell (gbk (β0 6)) [sl 1 rE_ s.aC,sl 2 sE s.sT]) [5] J (fun β β' hb=>by first|rw[hb 6 J]|(dsimp only;rw[hb 6 J])) (fun β0 _ _ _ _ gq gh kq=>sPA (cs':= [sl 1 rE_ s.aC,sl 2 sE s.sT]) (gq.1.trans J) (gh.1.trans J) (gq.2.1.trans J) T.aD J J kq) ?_
 refine stw 6 (fun β0=>cell (gbk (β0 7)) [sl 1 rE_ t.aC,sl 2 sE t.sT]) [6] J (fun β β' hb=>by first|rw[hb 7 J]|(dsimp only;rw[hb 7 J])) (fun β0 _ _ _ _ gq gh kq=>sPA (cs':= [sl 1 rE_ t.aC,sl 2 sE t.sT]) (gq.1.trans J) (gh.1.trans J) (gq.2.1.trans J) T.aD J J kq) ?_
 refine stw 7 (fun β0=>cell (gbk (β0 8)) [sl 1 rE_ u.aC,sl 2 sE u.sT]) [7] J (fun β β' hb=>by first|rw[hb 8 J]|(dsimp only;rw[hb 8 J])) (fun β0 _ _ _ _ gq gh kq=>sPA (cs':= [sl 1 rE_ u.aC,sl 2 sE u.sT]) (gq.1.trans J) (gh.1.trans J) (gq.2.1.trans J) T.aD J J kq) ?_
 refine pnH fun β0=>(nl (th (sq (sq (rg (lPA J J T.Xa J (mv (nl (th (bk ?_))))))))))
 have hI0_0:0≤3:=by
  first|omega|simp
 have hI0_1:∀j,j<0→OkO s (ix [s,t,u] j):=by
  exact fun j hj=>absurd hj O
 refine lp (κ:=Nat) (fun p=> [(3,ptr 3 b3 0),(5,ptr 5 (gbk (β0 6)) 0),(6,ptr 6 (gbk (β0 7)) 0),(7,ptr 7 (gbk (β0 8)) 0),(40,agg [sl 1 rE_ s.aC,sl 2 sE s.sT,sl 1 rE_ t.aC,sl 2 sE t.sT,sl 1 rE_ u.aC,sl 2 sE u.sT]),(41,int (p:Int)),(9999,tab)]) (fun p=> [(2,cell b2 [sl 1 rE_ s.aC,sl 2 sE s.sT,sl 1 rE_ t.aC,sl 2 sE t.sT,sl 1 rE_ u.aC,sl 2 sE u.sT]),(3,cell b3 [sl 1 rE_ m.aC,sl 1 gE m.sT]),(5,cell (gbk (β0 6)) [sl 1 rE_ s.aC,sl 2 sE s.sT]),(6,cell (gbk (β0 7)) [sl 1 rE_ t.aC,sl 2 sE t.sT]),(7,cell (gbk (β0 8)) [sl 1 rE_ u.aC,sl 2 sE u.sT]),(997,eR tab)]) (fun p=>(p≤3)∧(∀j,j<p→OkO s (ix [s,t,u] j))) (fun p=>3- p) 0 ⟨hI0_0,hI0_1⟩ ⟨id,id,id,id,id,id,id,tV⟩ ⟨rI,rI,rI,rI,rI,rI,tV⟩ ?_
 intro k hG0
 obtain⟨hk0,hI0⟩:(k≤3)∧(∀j,j<k→OkO s (ix [s,t,u] j)):=hG0
 refine sq (rg (bi J J aN (nl (th (sq ?_)))))
 refine cd J (fun hc0=> ?_) (fun hc0=> ?_)
 ·try simp at hc0
  have hxsm:bK (ix [s,t,u] k):=by rcases(by omega:k=0∨k=1∨k=2) with h|h|h<;>subst h<;>assumption
  refine sk (th (sq (bk (sq (rg (WZ (n:=2) (cs':= [sl 1 rE_ (ix [s,t,u] k).aC,sl 2 sE (ix [s,t,u] k).sT]) J J T.Fu T.aD O (by rcases(by omega:k=0∨k=1∨k=2) with h|h|h<;>subst h<;>rfl) (al (key:=9) T.z25 (eC (eC eZ)) fun b9=>(sPA (cs':= [sl 1 rE_ (ix [s,t,u] k).aC,sl 2 sE (ix [s,t,u] k).sT]) J J J T.aD J J (nl (th (sq (rg (fP J T.aY (lP J J J T.bI (fc (aL 45 J) fun hm45=>(lnF J T.bU (bi J J gW (mv ?_))))))))))))))))))
  apply gOr (t:=48) (pd:=52) rfl
  rotate_left
  ·intro hg0 fin
   have hg0':=hg0
   try simp at hg0'
   exact gy J J J hg0 (lPA J J T.aD J (gy J J J hg0 (aO (φs:= [agg [sl 1 rE_ (ix [s,t,u] k).aC,sl 2 sE (ix [s,t,u] k).sT],int 200]) (φ:=bl (few (ix [s,t,u] k) 200)) ⟨J,J,tV⟩ (ref03.FO (ix [s,t,u] k) _ O) T.Xb (gy J J J hg0 (no J (pkF J hg0 J (drp (X:= [(51,_),(50,_),(49,_)]) ⟨J,J,J,tV⟩ fin)))))))
  ·intro hg0 fin
   exact gn J J J hg0 J J (gn J J J hg0 J J (gn J J J hg0 J J (pkT J hg0 J (drp (X:= [(51,_),(50,_),(49,_)]) ⟨J,J,J,tV⟩ fin))))
  refine mv ?_
  apply gOr (t:=53) (pd:=58) rfl
  rotate_left
  ·intro hg1 fin
   have hg1':=hg1
   try simp at hg1'
   exact gy J J J hg1 (lPA J J T.aD J (gy J J J hg1 (lPA J J T.aD J (gy J J J hg1 (aO (φs:= [agg [sl 1 rE_ (ix [s,t,u] k).aC,sl 2 sE (ix [s,t,u] k).sT],agg [sl 1 rE_ s.aC,sl 2 sE s.sT]]) (φ:=int (rW (ix [s,t,u] k) s)) ⟨J,J,tV⟩ (prodk.Qr (ix [s,t,u] k) s) T.Xc (gy J J J hg1 (bi J J fS (pkF J hg1 J (drp (X:= [(57,_),(56,_),(55,_),(54,_)]) ⟨J,J,J,J,tV⟩ fin)))))))))
  ·intro hg1 fin
   exact gn J J J hg1 J J (gn J J J hg1 J J (gn J J J hg1 J J (gn J J J hg1 J J (pkT J hg1 J (drp (X:= [(57,_),(56,_),(55,_),(54,_)]) ⟨J,J,J,J,tV⟩ fin)))))
  refine nl (th ?_)
  refine cd J (fun hc1=> ?_) (fun hc1=> ?_)
  ·skip
   refine sq (rg (OD (ψ:=tab) (φs:= []) (φ:=bl true) trivial prodk.Bw T.Lw 9999 J J (ag (nl (th (rt (rb (rt_ (rt_ (rb (rt_ ?_)))))))))))
   exact rE () [.tmp 4] J [bl true] ⟨.tmp J,tV⟩ J trivial eX
  ·skip
   refine sk (eb (th (rg (bi J J (aK i6) (mv (nl ?_))))))
   have hN0:(k+1)≤3:=by
    first|omega|simp_all
   have hN1:∀j,j<(k+1)→OkO s (ix [s,t,u] j):=by
    exact fun j hj=>by
     by_cases e:j=k
     ·subst e;exact Wf hc1
     ·exact hI0 j O
   exact ln (k+1) ⟨hN0,hN1⟩ dO ⟨id,id,id,id,id,id,id,tV⟩ ⟨rI,rI,rI,rI,rI,rI,tV⟩
 ·try simp at hc0
  have kO0:OkO s s:=hI0 0 O
  have kO1:OkO s t:=hI0 1 O
  have kO2:OkO s u:=hI0 2 O
  have hF:=TQ kO0 kO1 kO2
  have hs:=hF.hs
  have ht:=hF.ht
  have hu:=hF.hu
  have hzs:=kO0.sz
  have hzt:=kO1.sz
  have hzu:=kO2.sz
  have hsl:=hs.n8
  have hno:=mY hs.acts
  have hnm:bK (aQ s.aC):=hno.small
  have hnz:(size (aQ s.aC):Int)≤1000000:=by have h1:=BG hno;have h2:(aQ s.aC).sT.length=1:=rfl;omega
  have nnm:bK (nothing s.aC):=(jE hs.acts).small
  have st1:=mJ s t
  have st2:=nU s t
  have ts1:=mJ t s
  have ts2:=nU t s
  have tu1:=mJ t u
  have tu2:=nU t u
  have ut1:=mJ u t
  have ut2:=nU u t
  have sn1:=mJ s (aQ s.aC)
  have sn2:=nU s (aQ s.aC)
  have sa1:=mJ (aA s t).1 u
  have sa2:=nU (aA s t).1 u
  have sb1:=mJ s (aA t u).1
  have sb2:=nU s (aA t u).1
  refine Gz (E':= [(3,ptr 3 b3 0),(5,ptr 5 (gbk (β0 6)) 0),(6,ptr 6 (gbk (β0 7)) 0),(7,ptr 7 (gbk (β0 8)) 0),(40,agg [sl 1 rE_ s.aC,sl 2 sE s.sT,sl 1 rE_ t.aC,sl 2 sE t.sT,sl 1 rE_ u.aC,sl 2 sE u.sT]),(41,int (k:Int)),(9999,tab)]) (H':= [(2,cell b2 [sl 1 rE_ s.aC,sl 2 sE s.sT,sl 1 rE_ t.aC,sl 2 sE t.sT,sl 1 rE_ u.aC,sl 2 sE u.sT]),(3,cell b3 [sl 1 rE_ m.aC,sl 1 gE m.sT]),(5,cell (gbk (β0 6)) [sl 1 rE_ s.aC,sl 2 sE s.sT]),(6,cell (gbk (β0 7)) [sl 1 rE_ t.aC,sl 2 sE t.sT]),(7,cell (gbk (β0 8)) [sl 1 rE_ u.aC,sl 2 sE u.sT]),(997,eR tab)]) ⟨id,id,id,id,id,id,id,tV⟩ ⟨rI,rI,rI,rI,rI,rI,tV⟩ ?_
  refine ex (xt_ (xt_ (xb (th (sq (sq (rg (fP J T.dS (lP J J J T.gH (fc (aL 62 J) fun hm62=>(lnF J T.jN (bi J J gW (mv ?_)))))))))))))
  apply gOr (t:=65) (pd:=69) rfl
  rotate_left
  ·intro hg2 fin
   have hg2':=hg2
   try simp at hg2'
   exact gy J J J hg2 (lPA J J T.cD J (gy J J J hg2 (aO (φs:= [agg [sl 1 rE_ m.aC,sl 1 gE m.sT],int 200]) (φ:=bl (GR m 200)) ⟨J,J,tV⟩ (sysw.FO m 200 O) T.Xd (gy J J J hg2 (no J (pkF J hg2 J (drp (X:= [(68,_),(67,_),(66,_)]) ⟨J,J,J,tV⟩ fin)))))))
  ·intro hg2 fin
   exact gn J J J hg2 J J (gn J J J hg2 J J (gn J J J hg2 J J (pkT J hg2 J (drp (X:= [(68,_),(67,_),(66,_)]) ⟨J,J,J,tV⟩ fin))))
  refine nl (th ?_)
  refine cd J (fun hc2=> ?_) (fun hc2=> ?_)
  ·try simp at hc2
   refine sq (rg (OD (ψ:=tab) (φs:= []) (φ:=bl true) trivial prodk.Bw T.Lw 9999 J J (ag (nl (th (rt (rt_ ?_)))))))
   exact rE () [.tmp 4] J [bl true] ⟨.tmp J,tV⟩ J trivial eX
  ·try simp at hc2
   have hm6:m.sT.length≤6:=by omega
   have hms:(CQ m:Int)≤200:=by have h:=hc2.2;unfold GR at h;simpa using h
   have hp6:2^m.sT.length≤2^6:=Nat.pow_le_pow_right O hm6
   have hzz:2^m.sT.length*t.sT.length≤2^6*6:=Nat.mul_le_mul hp6 kO1.few
   obtain⟨bz1,bz2⟩:=QR m t O
   refine Gz (E':= [(3,ptr 3 b3 0),(5,ptr 5 (gbk (β0 6)) 0),(6,ptr 6 (gbk (β0 7)) 0),(7,ptr 7 (gbk (β0 8)) 0),(9999,tab)]) (H':= [(2,cell b2 [sl 1 rE_ s.aC,sl 2 sE s.sT,sl 1 rE_ t.aC,sl 2 sE t.sT,sl 1 rE_ u.aC,sl 2 sE u.sT]),(3,cell b3 [sl 1 rE_ m.aC,sl 1 gE m.sT]),(5,cell (gbk (β0 6)) [sl 1 rE_ s.aC,sl 2 sE s.sT]),(6,cell (gbk (β0 7)) [sl 1 rE_ t.aC,sl 2 sE t.sT]),(7,cell (gbk (β0 8)) [sl 1 rE_ u.aC,sl 2 sE u.sT]),(997,eR tab)]) ⟨id,id,id,id,id,tV⟩ ⟨rI,rI,rI,rI,rI,rI,tV⟩ ?_
   refine sk (th (sq ?_))
   refine drH (nh:=11) [0,1,0,7,15,31,63,63,0,383,1023] [(none,[5]),(none,[]),(none,[6]),(none,[]),(none,[997]),(none,[]),(none,[]),(none,[]),(some 10,[]),(some 10,[10]),(none,[])] T.mixed kR kR ?_
   refine stv (d:=72) (fun β1=>agg [sl 1 rE_ s.aC,sl 2 sE s.sT]) [5] J bH (fun β1 _ _ _ _ gq gh kq=>lPA (gq.1.trans J) (gh.1.trans J) T.aD J kq) ?_
   refine stv (d:=73) (fun β1=>agg [sl 1 rE_ s.aC,sl 2 sE s.sT]) [] J bH (fun β1 _ _ _ _ gq gh kq=>dU (φs:= [agg [sl 1 rE_ s.aC,sl 2 sE s.sT]]) (φ:=agg [sl 1 rE_ s.aC,sl 2 sE s.sT]) ⟨(gq.1.trans J),tV⟩ (ref03.dR s O) T.iG (fun N hN=>fun h=>cU (cs:= [fre N (sl 1 rE_ s.aC),fre N (sl 2 sE s.sT)]) (ds:= [sl 1 rE_ s.aC,sl 2 sE s.sT]) ⟨fun h=>bP h,fun h=>bP h,tV⟩ h) kq) ?_
   refine stv (d:=74) (fun β1=>agg [sl 1 rE_ t.aC,sl 2 sE t.sT]) [6] J bH (fun β1 _ _ _ _ gq gh kq=>lPA (gq.1.trans J) (gh.1.trans J) T.aD J kq) ?_
   refine stv (d:=75) (fun β1=>agg [sl 1 rE_ t.aC,sl 2 sE t.sT]) [] J bH (fun β1 _ _ _ _ gq gh kq=>dU (φs:= [agg [sl 1 rE_ t.aC,sl 2 sE t.sT]]) (φ:=agg [sl 1 rE_ t.aC,sl 2 sE t.sT]) ⟨(gq.1.trans J),tV⟩ (ref03.dR t O) T.iG (fun N hN=>fun h=>cU (cs:= [fre N (sl 1 rE_ t.aC),fre N (sl 2 sE t.sT)]) (ds:= [sl 1 rE_ t.aC,sl 2 sE t.sT]) ⟨fun h=>bP h,fun h=>bP h,tV⟩ h) kq) ?_
   refine stv (d:=76) (fun β1=>tup [agg [sl 1 rE_ ((aA s t).1).aC,sl 2 sE ((aA s t).1).sT],int ((aA s t).2)]) [997] J bH (fun β1 _ _ _ _ gq gh kq=>tbK (ψ:=tab) 73 997 (gq.1.trans J) (gh.1.trans J) (aO (φs:= [both (agg [sl 1 rE_ s.aC,sl 2 sE s.sT]) tab,agg [sl 1 rE_ t.aC,sl 2 sE t.sT]]) (φ:=tup [agg [sl 1 rE_ ((aA s t).1).aC,sl 2 sE ((aA s t).1).sT],int ((aA s t).2)]) ⟨J,(gq.2.1.trans J),tV⟩ (prodc.jI s t aS aS) T.sB (tbX (gq.1.trans J) kq))) ?_
   refine stv (d:=71) (fun β1=>tup [agg [sl 1 rE_ ((aA s t).1).aC,sl 2 sE ((aA s t).1).sT],int ((aA s t).2)]) [] J bH (fun β1 _ _ _ _ gq gh kq=>mv' (gq.1.trans J) kq) ?_
   refine stv (d:=77) (fun β1=>agg [sl 1 rE_ ((aA s t).1).aC,sl 2 sE ((aA s t).1).sT]) [] J bH (fun β1 _ _ _ _ gq gh kq=>xt (gq.1.trans J) J kq) ?_
   refine stv (d:=78) (fun β1=>int ((aA s t).2)) [] J bH (fun β1 _ _ _ _ gq gh kq=>xt (gq.1.trans J) J kq) ?_
   refine sta 10 T.z25 (eC (eC eZ)) ?_
   refine stw 10 (fun β1=>cell (gbk (β1 8)) [sl 1 rE_ ((aA s t).1).aC,sl 2 sE ((aA s t).1).sT]) [10] J (fun β β' hb=>by first|rw[hb 8 J]|(dsimp only;rw[hb 8 J])) (fun β1 _ _ _ _ gq gh kq=>sPA (cs':= [sl 1 rE_ ((aA s t).1).aC,sl 2 sE ((aA s t).1).sT]) (gq.1.trans J) (gh.1.trans J) (gq.2.1.trans J) T.aD J J kq) ?_
   refine stv (d:=11) (fun β1=>int ((aA s t).2)) [] J bH (fun β1 _ _ _ _ gq gh kq=>ag' (gq.1.trans J) kq) ?_
   refine pnH fun β1=>(nl (th (sq ?_)))
   refine drH (nh:=11) [0,1,0,7,15,31,63,63,0,383,1023] [(none,[6]),(none,[]),(none,[5]),(none,[]),(none,[997]),(none,[]),(none,[]),(none,[]),(some 12,[]),(some 12,[12]),(none,[])] T.mixed kR kR ?_
   refine stv (d:=80) (fun β2=>agg [sl 1 rE_ t.aC,sl 2 sE t.sT]) [6] J bH (fun β2 _ _ _ _ gq gh kq=>lPA (gq.1.trans J) (gh.1.trans J) T.aD J kq) ?_
   refine stv (d:=81) (fun β2=>agg [sl 1 rE_ t.aC,sl 2 sE t.sT]) [] J bH (fun β2 _ _ _ _ gq gh kq=>dU (φs:= [agg [sl 1 rE_ t.aC,sl 2 sE t.sT]]) (φ:=agg [sl 1 rE_ t.aC,sl 2 sE t.sT]) ⟨(gq.1.trans J),tV⟩ (ref03.dR t O) T.iG (fun N hN=>fun h=>cU (cs:= [fre N (sl 1 rE_ t.aC),fre N (sl 2 sE t.sT)]) (ds:= [sl 1 rE_ t.aC,sl 2 sE t.sT]) ⟨fun h=>bP h,fun h=>bP h,tV⟩ h) kq) ?_
   refine stv (d:=82) (fun β2=>agg [sl 1 rE_ s.aC,sl 2 sE s.sT]) [5] J bH (fun β2 _ _ _ _ gq gh kq=>lPA (gq.1.trans J) (gh.1.trans J) T.aD J kq) ?_
   refine stv (d:=83) (fun β2=>agg [sl 1 rE_ s.aC,sl 2 sE s.sT]) [] J bH (fun β2 _ _ _ _ gq gh kq=>dU (φs:= [agg [sl 1 rE_ s.aC,sl 2 sE s.sT]]) (φ:=agg [sl 1 rE_ s.aC,sl 2 sE s.sT]) ⟨(gq.1.trans J),tV⟩ (ref03.dR s O) T.iG (fun N hN=>fun h=>cU (cs:= [fre N (sl 1 rE_ s.aC),fre N (sl 2 sE s.sT)]) (ds:= [sl 1 rE_ s.aC,sl 2 sE s.sT]) ⟨fun h=>bP h,fun h=>bP h,tV⟩ h) kq) ?_
   refine stv (d:=84) (fun β2=>tup [agg [sl 1 rE_ ((aA t s).1).aC,sl 2 sE ((aA t s).1).sT],int ((aA t s).2)]) [997] J bH (fun β2 _ _ _ _ gq gh kq=>tbK (ψ:=tab) 81 997 (gq.1.trans J) (gh.1.trans J) (aO (φs:= [both (agg [sl 1 rE_ t.aC,sl 2 sE t.sT]) tab,agg [sl 1 rE_ s.aC,sl 2 sE s.sT]]) (φ:=tup [agg [sl 1 rE_ ((aA t s).1).aC,sl 2 sE ((aA t s).1).sT],int ((aA t s).2)]) ⟨J,(gq.2.1.trans J),tV⟩ (prodc.jI t s aS aS) T.sB (tbX (gq.1.trans J) kq))) ?_
   refine stv (d:=79) (fun β2=>tup [agg [sl 1 rE_ ((aA t s).1).aC,sl 2 sE ((aA t s).1).sT],int ((aA t s).2)]) [] J bH (fun β2 _ _ _ _ gq gh kq=>mv' (gq.1.trans J) kq) ?_
   refine stv (d:=85) (fun β2=>agg [sl 1 rE_ ((aA t s).1).aC,sl 2 sE ((aA t s).1).sT]) [] J bH (fun β2 _ _ _ _ gq gh kq=>xt (gq.1.trans J) J kq) ?_
   refine stv (d:=86) (fun β2=>int ((aA t s).2)) [] J bH (fun β2 _ _ _ _ gq gh kq=>xt (gq.1.trans J) J kq) ?_
   refine sta 12 T.z25 (eC (eC eZ)) ?_
   refine stw 12 (fun β2=>cell (gbk (β2 8)) [sl 1 rE_ ((aA t s).1).aC,sl 2 sE ((aA t s).1).sT]) [12] J (fun β β' hb=>by first|rw[hb 8 J]|(dsimp only;rw[hb 8 J])) (fun β2 _ _ _ _ gq gh kq=>sPA (cs':= [sl 1 rE_ ((aA t s).1).aC,sl 2 sE ((aA t s).1).sT]) (gq.1.trans J) (gh.1.trans J) (gq.2.1.trans J) T.aD J J kq) ?_
   refine stv (d:=13) (fun β2=>int ((aA t s).2)) [] J bH (fun β2 _ _ _ _ gq gh kq=>ag' (gq.1.trans J) kq) ?_
   refine pnH fun β2=>(nl (th (sq ?_)))
   refine drH (nh:=11) [0,1,0,7,15,31,63,63,0,383,1023] [(none,[6]),(none,[]),(none,[7]),(none,[]),(none,[997]),(none,[]),(none,[]),(none,[]),(some 14,[]),(some 14,[14]),(none,[])] T.mixed kR kR ?_
   refine stv (d:=88) (fun β3=>agg [sl 1 rE_ t.aC,sl 2 sE t.sT]) [6] J bH (fun β3 _ _ _ _ gq gh kq=>lPA (gq.1.trans J) (gh.1.trans J) T.aD J kq) ?_
   refine stv (d:=89) (fun β3=>agg [sl 1 rE_ t.aC,sl 2 sE t.sT]) [] J bH (fun β3 _ _ _ _ gq gh kq=>dU (φs:= [agg [sl 1 rE_ t.aC,sl 2 sE t.sT]]) (φ:=agg [sl 1 rE_ t.aC,sl 2 sE t.sT]) ⟨(gq.1.trans J),tV⟩ (ref03.dR t O) T.iG (fun N hN=>fun h=>cU (cs:= [fre N (sl 1 rE_ t.aC),fre N (sl 2 sE t.sT)]) (ds:= [sl 1 rE_ t.aC,sl 2 sE t.sT]) ⟨fun h=>bP h,fun h=>bP h,tV⟩ h) kq) ?_
   refine stv (d:=90) (fun β3=>agg [sl 1 rE_ u.aC,sl 2 sE u.sT]) [7] J bH (fun β3 _ _ _ _ gq gh kq=>lPA (gq.1.trans J) (gh.1.trans J) T.aD J kq) ?_
   refine stv (d:=91) (fun β3=>agg [sl 1 rE_ u.aC,sl 2 sE u.sT]) [] J bH (fun β3 _ _ _ _ gq gh kq=>dU (φs:= [agg [sl 1 rE_ u.aC,sl 2 sE u.sT]]) (φ:=agg [sl 1 rE_ u.aC,sl 2 sE u.sT]) ⟨(gq.1.trans J),tV⟩ (ref03.dR u O) T.iG (fun N hN=>fun h=>cU (cs:= [fre N (sl 1 rE_ u.aC),fre N (sl 2 sE u.sT)]) (ds:= [sl 1 rE_ u.aC,sl 2 sE u.sT]) ⟨fun h=>bP h,fun h=>bP h,tV⟩ h) kq) ?_
   refine stv (d:=92) (fun β3=>tup [agg [sl 1 rE_ ((aA t u).1).aC,sl 2 sE ((aA t u).1).sT],int ((aA t u).2)]) [997] J bH (fun β3 _ _ _ _ gq gh kq=>tbK (ψ:=tab) 89 997 (gq.1.trans J) (gh.1.trans J) (aO (φs:= [both (agg [sl 1 rE_ t.aC,sl 2 sE t.sT]) tab,agg [sl 1 rE_ u.aC,sl 2 sE u.sT]]) (φ:=tup [agg [sl 1 rE_ ((aA t u).1).aC,sl 2 sE ((aA t u).1).sT],int ((aA t u).2)]) ⟨J,(gq.2.1.trans J),tV⟩ (prodc.jI t u aS aS) T.sB (tbX (gq.1.trans J) kq))) ?_
   refine stv (d:=87) (fun β3=>tup [agg [sl 1 rE_ ((aA t u).1).aC,sl 2 sE ((aA t u).1).sT],int ((aA t u).2)]) [] J bH (fun β3 _ _ _ _ gq gh kq=>mv' (gq.1.trans J) kq) ?_
   refine stv (d:=93) (fun β3=>agg [sl 1 rE_ ((aA t u).1).aC,sl 2 sE ((aA t u).1).sT]) [] J bH (fun β3 _ _ _ _ gq gh kq=>xt (gq.1.trans J) J kq) ?_
   refine stv (d:=94) (fun β3=>int ((aA t u).2)) [] J bH (fun β3 _ _ _ _ gq gh kq=>xt (gq.1.trans J) J kq) ?_
   refine sta 14 T.z25 (eC (eC eZ)) ?_
   refine stw 14 (fun β3=>cell (gbk (β3 8)) [sl 1 rE_ ((aA t u).1).aC,sl 2 sE ((aA t u).1).sT]) [14] J (fun β β' hb=>by first|rw[hb 8 J]|(dsimp only;rw[hb 8 J])) (fun β3 _ _ _ _ gq gh kq=>sPA (cs':= [sl 1 rE_ ((aA t u).1).aC,sl 2 sE ((aA t u).1).sT]) (gq.1.trans J) (gh.1.trans J) (gq.2.1.trans J) T.aD J J kq) ?_
   refine stv (d:=15) (fun β3=>int ((aA t u).2)) [] J bH (fun β3 _ _ _ _ gq gh kq=>ag' (gq.1.trans J) kq) ?_
   refine pnH fun β3=>(nl (th (sq ?_)))
   refine drH (nh:=11) [0,1,0,7,15,31,63,63,0,383,1023] [(none,[7]),(none,[]),(none,[6]),(none,[]),(none,[997]),(none,[]),(none,[]),(none,[]),(some 16,[]),(some 16,[16]),(none,[])] T.mixed kR kR ?_
   refine stv (d:=96) (fun β4=>agg [sl 1 rE_ u.aC,sl 2 sE u.sT]) [7] J bH (fun β4 _ _ _ _ gq gh kq=>lPA (gq.1.trans J) (gh.1.trans J) T.aD J kq) ?_
   refine stv (d:=97) (fun β4=>agg [sl 1 rE_ u.aC,sl 2 sE u.sT]) [] J bH (fun β4 _ _ _ _ gq gh kq=>dU (φs:= [agg [sl 1 rE_ u.aC,sl 2 sE u.sT]]) (φ:=agg [sl 1 rE_ u.aC,sl 2 sE u.sT]) ⟨(gq.1.trans J),tV⟩ (ref03.dR u O) T.iG (fun N hN=>fun h=>cU (cs:= [fre N (sl 1 rE_ u.aC),fre N (sl 2 sE u.sT)]) (ds:= [sl 1 rE_ u.aC,sl 2 sE u.sT]) ⟨fun h=>bP h,fun h=>bP h,tV⟩ h) kq) ?_
   refine stv (d:=98) (fun β4=>agg [sl 1 rE_ t.aC,sl 2 sE t.sT]) [6] J bH (fun β4 _ _ _ _ gq gh kq=>lPA (gq.1.trans J) (gh.1.trans J) T.aD J kq) ?_
   refine stv (d:=99) (fun β4=>agg [sl 1 rE_ t.aC,sl 2 sE t.sT]) [] J bH (fun β4 _ _ _ _ gq gh kq=>dU (φs:= [agg [sl 1 rE_ t.aC,sl 2 sE t.sT]]) (φ:=agg [sl 1 rE_ t.aC,sl 2 sE t.sT]) ⟨(gq.1.trans J),tV⟩ (ref03.dR t O) T.iG (fun N hN=>fun h=>cU (cs:= [fre N (sl 1 rE_ t.aC),fre N (sl 2 sE t.sT)]) (ds:= [sl 1 rE_ t.aC,sl 2 sE t.sT]) ⟨fun h=>bP h,fun h=>bP h,tV⟩ h) kq) ?_
   refine stv (d:=100) (fun β4=>tup [agg [sl 1 rE_ ((aA u t).1).aC,sl 2 sE ((aA u t).1).sT],int ((aA u t).2)]) [997] J bH (fun β4 _ _ _ _ gq gh kq=>tbK (ψ:=tab) 97 997 (gq.1.trans J) (gh.1.trans J) (aO (φs:= [both (agg [sl 1 rE_ u.aC,sl 2 sE u.sT]) tab,agg [sl 1 rE_ t.aC,sl 2 sE t.sT]]) (φ:=tup [agg [sl 1 rE_ ((aA u t).1).aC,sl 2 sE ((aA u t).1).sT],int ((aA u t).2)]) ⟨J,(gq.2.1.trans J),tV⟩ (prodc.jI u t aS aS) T.sB (tbX (gq.1.trans J) kq))) ?_
   refine stv (d:=95) (fun β4=>tup [agg [sl 1 rE_ ((aA u t).1).aC,sl 2 sE ((aA u t).1).sT],int ((aA u t).2)]) [] J bH (fun β4 _ _ _ _ gq gh kq=>mv' (gq.1.trans J) kq) ?_
   refine stv (d:=101) (fun β4=>agg [sl 1 rE_ ((aA u t).1).aC,sl 2 sE ((aA u t).1).sT]) [] J bH (fun β4 _ _ _ _ gq gh kq=>xt (gq.1.trans J) J kq) ?_
   refine stv (d:=102) (fun β4=>int ((aA u t).2)) [] J bH (fun β4 _ _ _ _ gq gh kq=>xt (gq.1.trans J) J kq) ?_
   refine sta 16 T.z25 (eC (eC eZ)) ?_
   refine stw 16 (fun β4=>cell (gbk (β4 8)) [sl 1 rE_ ((aA u t).1).aC,sl 2 sE ((aA u t).1).sT]) [16] J (fun β β' hb=>by first|rw[hb 8 J]|(dsimp only;rw[hb 8 J])) (fun β4 _ _ _ _ gq gh kq=>sPA (cs':= [sl 1 rE_ ((aA u t).1).aC,sl 2 sE ((aA u t).1).sT]) (gq.1.trans J) (gh.1.trans J) (gq.2.1.trans J) T.aD J J kq) ?_
   refine stv (d:=17) (fun β4=>int ((aA u t).2)) [] J bH (fun β4 _ _ _ _ gq gh kq=>ag' (gq.1.trans J) kq) ?_
   refine pnH fun β4=>(nl (th (sq (rg (fP J T.cR (lP J J J T.cV (yR (enc:=rE_) (ys:=s.aC) J J T.uL mL (tbU (ψ:=tab) 106 9999 J J (aO (φs:= [both (sl 1 rE_ s.aC) tab,eqv (.slice none 0 0)]) (φ:=tup [agg [sl 1 rE_ ((jK s.aC []).1).aC,sl 2 sE ((jK s.aC []).1).sT],int ((jK s.aC []).2)]) ⟨J,J,tV⟩ (IQ s.aC) T.Xe (mv (xt J J (kn 108 (spec (aQ s.aC)) J (by rw[hF.one];exact fun h=>h) (xt J J (kn 109 (int 0) J (by rw[hF.one];exact fun h=>h) (al (key:=18) T.z25 (eC (eC eZ)) fun b18=>(sPA (cs':= [sl 1 rE_ (aQ s.aC).aC,sl 2 sE (aQ s.aC).sT]) J J J T.aD J J (ag (nl (th (sq ?_))))))))))))))))))))
   refine drH (nh:=11) [0,1,0,7,15,31,63,63,0,383,1023] [(none,[5]),(none,[]),(none,[18]),(none,[]),(none,[997]),(none,[]),(none,[]),(none,[]),(some 20,[]),(some 20,[20]),(none,[])] T.mixed kR kR ?_
   refine stv (d:=111) (fun β5=>agg [sl 1 rE_ s.aC,sl 2 sE s.sT]) [5] J bH (fun β5 _ _ _ _ gq gh kq=>lPA (gq.1.trans J) (gh.1.trans J) T.aD J kq) ?_
   refine stv (d:=112) (fun β5=>agg [sl 1 rE_ s.aC,sl 2 sE s.sT]) [] J bH (fun β5 _ _ _ _ gq gh kq=>dU (φs:= [agg [sl 1 rE_ s.aC,sl 2 sE s.sT]]) (φ:=agg [sl 1 rE_ s.aC,sl 2 sE s.sT]) ⟨(gq.1.trans J),tV⟩ (ref03.dR s O) T.iG (fun N hN=>fun h=>cU (cs:= [fre N (sl 1 rE_ s.aC),fre N (sl 2 sE s.sT)]) (ds:= [sl 1 rE_ s.aC,sl 2 sE s.sT]) ⟨fun h=>bP h,fun h=>bP h,tV⟩ h) kq) ?_
   refine stv (d:=113) (fun β5=>agg [sl 1 rE_ (aQ s.aC).aC,sl 2 sE (aQ s.aC).sT]) [18] J bH (fun β5 _ _ _ _ gq gh kq=>lPA (gq.1.trans J) (gh.1.trans J) T.aD J kq) ?_
   refine stv (d:=114) (fun β5=>agg [sl 1 rE_ (aQ s.aC).aC,sl 2 sE (aQ s.aC).sT]) [] J bH (fun β5 _ _ _ _ gq gh kq=>dU (φs:= [agg [sl 1 rE_ (aQ s.aC).aC,sl 2 sE (aQ s.aC).sT]]) (φ:=agg [sl 1 rE_ (aQ s.aC).aC,sl 2 sE (aQ s.aC).sT]) ⟨(gq.1.trans J),tV⟩ (ref03.dR (aQ s.aC) O) T.iG (fun N hN=>fun h=>cU (cs:= [fre N (sl 1 rE_ (aQ s.aC).aC),fre N (sl 2 sE (aQ s.aC).sT)]) (ds:= [sl 1 rE_ (aQ s.aC).aC,sl 2 sE (aQ s.aC).sT]) ⟨fun h=>bP h,fun h=>bP h,tV⟩ h) kq) ?_
   refine stv (d:=115) (fun β5=>tup [agg [sl 1 rE_ ((aA s (aQ s.aC)).1).aC,sl 2 sE ((aA s (aQ s.aC)).1).sT],int ((aA s (aQ s.aC)).2)]) [997] J bH (fun β5 _ _ _ _ gq gh kq=>tbK (ψ:=tab) 112 997 (gq.1.trans J) (gh.1.trans J) (aO (φs:= [both (agg [sl 1 rE_ s.aC,sl 2 sE s.sT]) tab,agg [sl 1 rE_ (aQ s.aC).aC,sl 2 sE (aQ s.aC).sT]]) (φ:=tup [agg [sl 1 rE_ ((aA s (aQ s.aC)).1).aC,sl 2 sE ((aA s (aQ s.aC)).1).sT],int ((aA s (aQ s.aC)).2)]) ⟨J,(gq.2.1.trans J),tV⟩ (prodc.jI s (aQ s.aC) aS aS) T.sB (tbX (gq.1.trans J) kq))) ?_
   refine stv (d:=110) (fun β5=>tup [agg [sl 1 rE_ ((aA s (aQ s.aC)).1).aC,sl 2 sE ((aA s (aQ s.aC)).1).sT],int ((aA s (aQ s.aC)).2)]) [] J bH (fun β5 _ _ _ _ gq gh kq=>mv' (gq.1.trans J) kq) ?_
   refine stv (d:=116) (fun β5=>agg [sl 1 rE_ ((aA s (aQ s.aC)).1).aC,sl 2 sE ((aA s (aQ s.aC)).1).sT]) [] J bH (fun β5 _ _ _ _ gq gh kq=>xt (gq.1.trans J) J kq) ?_
   refine stv (d:=117) (fun β5=>int ((aA s (aQ s.aC)).2)) [] J bH (fun β5 _ _ _ _ gq gh kq=>xt (gq.1.trans J) J kq) ?_
   refine sta 20 T.z25 (eC (eC eZ)) ?_
   refine stw 20 (fun β5=>cell (gbk (β5 8)) [sl 1 rE_ ((aA s (aQ s.aC)).1).aC,sl 2 sE ((aA s (aQ s.aC)).1).sT]) [20] J (fun β β' hb=>by first|rw[hb 8 J]|(dsimp only;rw[hb 8 J])) (fun β5 _ _ _ _ gq gh kq=>sPA (cs':= [sl 1 rE_ ((aA s (aQ s.aC)).1).aC,sl 2 sE ((aA s (aQ s.aC)).1).sT]) (gq.1.trans J) (gh.1.trans J) (gq.2.1.trans J) T.aD J J kq) ?_
   refine stv (d:=21) (fun β5=>int ((aA s (aQ s.aC)).2)) [] J bH (fun β5 _ _ _ _ gq gh kq=>ag' (gq.1.trans J) kq) ?_
   refine pnH fun β5=>(nl (th (sq ?_)))
   refine drH (nh:=12) [0,1,0,4,15,31,63,127,127,0,767,2047] [(none,[5]),(none,[]),(none,[]),(none,[5]),(none,[]),(none,[997]),(none,[]),(none,[]),(none,[]),(some 22,[]),(some 22,[22]),(none,[])] T.mixed kR kR ?_
   refine stv (d:=119) (fun β6=>agg [sl 1 rE_ s.aC,sl 2 sE s.sT]) [5] J bH (fun β6 _ _ _ _ gq gh kq=>lPA (gq.1.trans J) (gh.1.trans J) T.aD J kq) ?_
   refine stv (d:=120) (fun β6=>agg [sl 1 rE_ s.aC,sl 2 sE s.sT]) [] J bH (fun β6 _ _ _ _ gq gh kq=>dU (φs:= [agg [sl 1 rE_ s.aC,sl 2 sE s.sT]]) (φ:=agg [sl 1 rE_ s.aC,sl 2 sE s.sT]) ⟨(gq.1.trans J),tV⟩ (ref03.dR s O) T.iG (fun N hN=>fun h=>cU (cs:= [fre N (sl 1 rE_ s.aC),fre N (sl 2 sE s.sT)]) (ds:= [sl 1 rE_ s.aC,sl 2 sE s.sT]) ⟨fun h=>bP h,fun h=>bP h,tV⟩ h) kq) ?_
   refine stv (d:=121) (fun β6=>ptr 5 (gbk (β0 6)) 0) [] J bH (fun β6 _ _ _ _ gq gh kq=>fP (gq.1.trans J) T.cR kq) ?_
   refine stv (d:=122) (fun β6=>sl 1 rE_ s.aC) [5] J bH (fun β6 _ _ _ _ gq gh kq=>lP (gq.1.trans J) (gh.1.trans J) J T.cV kq) ?_
   refine stv (d:=123) (fun β6=>agg [sl 1 rE_ (nothing s.aC).aC,sl 2 sE (nothing s.aC).sT]) [] J bH (fun β6 _ _ _ _ gq gh kq=>aO (φs:= [sl 1 rE_ s.aC]) (φ:=agg [sl 1 rE_ (nothing s.aC).aC,sl 2 sE (nothing s.aC).sT]) ⟨(gq.1.trans J),tV⟩ (ref03.mN s.aC O) T.KK kq) ?_
   refine stv (d:=124) (fun β6=>tup [agg [sl 1 rE_ ((aA s (nothing s.aC)).1).aC,sl 2 sE ((aA s (nothing s.aC)).1).sT],int ((aA s (nothing s.aC)).2)]) [997] J bH (fun β6 _ _ _ _ gq gh kq=>tbK (ψ:=tab) 120 997 (gq.1.trans J) (gh.1.trans J) (aO (φs:= [both (agg [sl 1 rE_ s.aC,sl 2 sE s.sT]) tab,agg [sl 1 rE_ (nothing s.aC).aC,sl 2 sE (nothing s.aC).sT]]) (φ:=tup [agg [sl 1 rE_ ((aA s (nothing s.aC)).1).aC,sl 2 sE ((aA s (nothing s.aC)).1).sT],int ((aA s (nothing s.aC)).2)]) ⟨J,(gq.2.1.trans J),tV⟩ (prodc.jI s (nothing s.aC) aS aS) T.sB (tbX (gq.1.trans J) kq))) ?_
   refine stv (d:=118) (fun β6=>tup [agg [sl 1 rE_ ((aA s (nothing s.aC)).1).aC,sl 2 sE ((aA s (nothing s.aC)).1).sT],int ((aA s (nothing s.aC)).2)]) [] J bH (fun β6 _ _ _ _ gq gh kq=>mv' (gq.1.trans J) kq) ?_
   refine stv (d:=125) (fun β6=>agg [sl 1 rE_ ((aA s (nothing s.aC)).1).aC,sl 2 sE ((aA s (nothing s.aC)).1).sT]) [] J bH (fun β6 _ _ _ _ gq gh kq=>xt (gq.1.trans J) J kq) ?_
   refine stv (d:=126) (fun β6=>int ((aA s (nothing s.aC)).2)) [] J bH (fun β6 _ _ _ _ gq gh kq=>xt (gq.1.trans J) J kq) ?_
   refine sta 22 T.z25 (eC (eC eZ)) ?_
   refine stw 22 (fun β6=>cell (gbk (β6 9)) [sl 1 rE_ ((aA s (nothing s.aC)).1).aC,sl 2 sE ((aA s (nothing s.aC)).1).sT]) [22] J (fun β β' hb=>by first|rw[hb 9 J]|(dsimp only;rw[hb 9 J])) (fun β6 _ _ _ _ gq gh kq=>sPA (cs':= [sl 1 rE_ ((aA s (nothing s.aC)).1).aC,sl 2 sE ((aA s (nothing s.aC)).1).sT]) (gq.1.trans J) (gh.1.trans J) (gq.2.1.trans J) T.aD J J kq) ?_
   refine stv (d:=23) (fun β6=>int ((aA s (nothing s.aC)).2)) [] J bH (fun β6 _ _ _ _ gq gh kq=>ag' (gq.1.trans J) kq) ?_
   refine pnH fun β6=>(nl (th (sq ?_)))
   refine drH (nh:=11) [0,1,0,7,15,31,63,63,0,383,1023] [(none,[10]),(none,[]),(none,[7]),(none,[]),(none,[997]),(none,[]),(none,[]),(none,[]),(some 24,[]),(some 24,[24]),(none,[])] T.mixed kR kR ?_
   refine stv (d:=128) (fun β7=>agg [sl 1 rE_ ((aA s t).1).aC,sl 2 sE ((aA s t).1).sT]) [10] J bH (fun β7 _ _ _ _ gq gh kq=>lPA (gq.1.trans J) (gh.1.trans J) T.aD J kq) ?_
   refine stv (d:=129) (fun β7=>agg [sl 1 rE_ ((aA s t).1).aC,sl 2 sE ((aA s t).1).sT]) [] J bH (fun β7 _ _ _ _ gq gh kq=>dU (φs:= [agg [sl 1 rE_ ((aA s t).1).aC,sl 2 sE ((aA s t).1).sT]]) (φ:=agg [sl 1 rE_ ((aA s t).1).aC,sl 2 sE ((aA s t).1).sT]) ⟨(gq.1.trans J),tV⟩ (ref03.dR ((aA s t).1) O) T.iG (fun N hN=>fun h=>cU (cs:= [fre N (sl 1 rE_ ((aA s t).1).aC),fre N (sl 2 sE ((aA s t).1).sT)]) (ds:= [sl 1 rE_ ((aA s t).1).aC,sl 2 sE ((aA s t).1).sT]) ⟨fun h=>bP h,fun h=>bP h,tV⟩ h) kq) ?_
   refine stv (d:=130) (fun β7=>agg [sl 1 rE_ u.aC,sl 2 sE u.sT]) [7] J bH (fun β7 _ _ _ _ gq gh kq=>lPA (gq.1.trans J) (gh.1.trans J) T.aD J kq) ?_
   refine stv (d:=131) (fun β7=>agg [sl 1 rE_ u.aC,sl 2 sE u.sT]) [] J bH (fun β7 _ _ _ _ gq gh kq=>dU (φs:= [agg [sl 1 rE_ u.aC,sl 2 sE u.sT]]) (φ:=agg [sl 1 rE_ u.aC,sl 2 sE u.sT]) ⟨(gq.1.trans J),tV⟩ (ref03.dR u O) T.iG (fun N hN=>fun h=>cU (cs:= [fre N (sl 1 rE_ u.aC),fre N (sl 2 sE u.sT)]) (ds:= [sl 1 rE_ u.aC,sl 2 sE u.sT]) ⟨fun h=>bP h,fun h=>bP h,tV⟩ h) kq) ?_
   refine stv (d:=132) (fun β7=>tup [agg [sl 1 rE_ ((aA ((aA s t).1) u).1).aC,sl 2 sE ((aA ((aA s t).1) u).1).sT],int ((aA ((aA s t).1) u).2)]) [997] J bH (fun β7 _ _ _ _ gq gh kq=>tbK (ψ:=tab) 129 997 (gq.1.trans J) (gh.1.trans J) (aO (φs:= [both (agg [sl 1 rE_ ((aA s t).1).aC,sl 2 sE ((aA s t).1).sT]) tab,agg [sl 1 rE_ u.aC,sl 2 sE u.sT]]) (φ:=tup [agg [sl 1 rE_ ((aA ((aA s t).1) u).1).aC,sl 2 sE ((aA ((aA s t).1) u).1).sT],int ((aA ((aA s t).1) u).2)]) ⟨J,(gq.2.1.trans J),tV⟩ (prodc.jI ((aA s t).1) u aS aS) T.sB (tbX (gq.1.trans J) kq))) ?_
   refine stv (d:=127) (fun β7=>tup [agg [sl 1 rE_ ((aA ((aA s t).1) u).1).aC,sl 2 sE ((aA ((aA s t).1) u).1).sT],int ((aA ((aA s t).1) u).2)]) [] J bH (fun β7 _ _ _ _ gq gh kq=>mv' (gq.1.trans J) kq) ?_
   refine stv (d:=133) (fun β7=>agg [sl 1 rE_ ((aA ((aA s t).1) u).1).aC,sl 2 sE ((aA ((aA s t).1) u).1).sT]) [] J bH (fun β7 _ _ _ _ gq gh kq=>xt (gq.1.trans J) J kq) ?_
   refine stv (d:=134) (fun β7=>int ((aA ((aA s t).1) u).2)) [] J bH (fun β7 _ _ _ _ gq gh kq=>xt (gq.1.trans J) J kq) ?_
   refine sta 24 T.z25 (eC (eC eZ)) ?_
   refine stw 24 (fun β7=>cell (gbk (β7 8)) [sl 1 rE_ ((aA ((aA s t).1) u).1).aC,sl 2 sE ((aA ((aA s t).1) u).1).sT]) [24] J (fun β β' hb=>by first|rw[hb 8 J]|(dsimp only;rw[hb 8 J])) (fun β7 _ _ _ _ gq gh kq=>sPA (cs':= [sl 1 rE_ ((aA ((aA s t).1) u).1).aC,sl 2 sE ((aA ((aA s t).1) u).1).sT]) (gq.1.trans J) (gh.1.trans J) (gq.2.1.trans J) T.aD J J kq) ?_
   refine stv (d:=25) (fun β7=>int ((aA ((aA s t).1) u).2)) [] J bH (fun β7 _ _ _ _ gq gh kq=>ag' (gq.1.trans J) kq) ?_
   refine pnH fun β7=>(nl (th (sq ?_)))
   refine drH (nh:=11) [0,1,0,7,15,31,63,63,0,383,1023] [(none,[5]),(none,[]),(none,[14]),(none,[]),(none,[997]),(none,[]),(none,[]),(none,[]),(some 26,[]),(some 26,[26]),(none,[])] T.mixed kR kR ?_
   refine stv (d:=136) (fun β8=>agg [sl 1 rE_ s.aC,sl 2 sE s.sT]) [5] J bH (fun β8 _ _ _ _ gq gh kq=>lPA (gq.1.trans J) (gh.1.trans J) T.aD J kq) ?_
   refine stv (d:=137) (fun β8=>agg [sl 1 rE_ s.aC,sl 2 sE s.sT]) [] J bH (fun β8 _ _ _ _ gq gh kq=>dU (φs:= [agg [sl 1 rE_ s.aC,sl 2 sE s.sT]]) (φ:=agg [sl 1 rE_ s.aC,sl 2 sE s.sT]) ⟨(gq.1.trans J),tV⟩ (ref03.dR s O) T.iG (fun N hN=>fun h=>cU (cs:= [fre N (sl 1 rE_ s.aC),fre N (sl 2 sE s.sT)]) (ds:= [sl 1 rE_ s.aC,sl 2 sE s.sT]) ⟨fun h=>bP h,fun h=>bP h,tV⟩ h) kq) ?_
   refine stv (d:=138) (fun β8=>agg [sl 1 rE_ ((aA t u).1).aC,sl 2 sE ((aA t u).1).sT]) [14] J bH (fun β8 _ _ _ _ gq gh kq=>lPA (gq.1.trans J) (gh.1.trans J) T.aD J kq) ?_
   refine stv (d:=139) (fun β8=>agg [sl 1 rE_ ((aA t u).1).aC,sl 2 sE ((aA t u).1).sT]) [] J bH (fun β8 _ _ _ _ gq gh kq=>dU (φs:= [agg [sl 1 rE_ ((aA t u).1).aC,sl 2 sE ((aA t u).1).sT]]) (φ:=agg [sl 1 rE_ ((aA t u).1).aC,sl 2 sE ((aA t u).1).sT]) ⟨(gq.1.trans J),tV⟩ (ref03.dR ((aA t u).1) O) T.iG (fun N hN=>fun h=>cU (cs:= [fre N (sl 1 rE_ ((aA t u).1).aC),fre N (sl 2 sE ((aA t u).1).sT)]) (ds:= [sl 1 rE_ ((aA t u).1).aC,sl 2 sE ((aA t u).1).sT]) ⟨fun h=>bP h,fun h=>bP h,tV⟩ h) kq) ?_
   refine stv (d:=140) (fun β8=>tup [agg [sl 1 rE_ ((aA s ((aA t u).1)).1).aC,sl 2 sE ((aA s ((aA t u).1)).1).sT],int ((aA s ((aA t u).1)).2)]) [997] J bH (fun β8 _ _ _ _ gq gh kq=>tbK (ψ:=tab) 137 997 (gq.1.trans J) (gh.1.trans J) (aO (φs:= [both (agg [sl 1 rE_ s.aC,sl 2 sE s.sT]) tab,agg [sl 1 rE_ ((aA t u).1).aC,sl 2 sE ((aA t u).1).sT]]) (φ:=tup [agg [sl 1 rE_ ((aA s ((aA t u).1)).1).aC,sl 2 sE ((aA s ((aA t u).1)).1).sT],int ((aA s ((aA t u).1)).2)]) ⟨J,(gq.2.1.trans J),tV⟩ (prodc.jI s ((aA t u).1) aS aS) T.sB (tbX (gq.1.trans J) kq))) ?_
   refine stv (d:=135) (fun β8=>tup [agg [sl 1 rE_ ((aA s ((aA t u).1)).1).aC,sl 2 sE ((aA s ((aA t u).1)).1).sT],int ((aA s ((aA t u).1)).2)]) [] J bH (fun β8 _ _ _ _ gq gh kq=>mv' (gq.1.trans J) kq) ?_
   refine stv (d:=141) (fun β8=>agg [sl 1 rE_ ((aA s ((aA t u).1)).1).aC,sl 2 sE ((aA s ((aA t u).1)).1).sT]) [] J bH (fun β8 _ _ _ _ gq gh kq=>xt (gq.1.trans J) J kq) ?_
   refine stv (d:=142) (fun β8=>int ((aA s ((aA t u).1)).2)) [] J bH (fun β8 _ _ _ _ gq gh kq=>xt (gq.1.trans J) J kq) ?_
   refine sta 26 T.z25 (eC (eC eZ)) ?_
   refine stw 26 (fun β8=>cell (gbk (β8 8)) [sl 1 rE_ ((aA s ((aA t u).1)).1).aC,sl 2 sE ((aA s ((aA t u).1)).1).sT]) [26] J (fun β β' hb=>by first|rw[hb 8 J]|(dsimp only;rw[hb 8 J])) (fun β8 _ _ _ _ gq gh kq=>sPA (cs':= [sl 1 rE_ ((aA s ((aA t u).1)).1).aC,sl 2 sE ((aA s ((aA t u).1)).1).sT]) (gq.1.trans J) (gh.1.trans J) (gq.2.1.trans J) T.aD J J kq) ?_
   refine stv (d:=27) (fun β8=>int ((aA s ((aA t u).1)).2)) [] J bH (fun β8 _ _ _ _ gq gh kq=>ag' (gq.1.trans J) kq) ?_
   refine pnH fun β8=>(nl (th (sq (sq (rg (mv (mv (mv (mv (mv (mv (kn 143 (int 0) J (by rw[hF.st];exact fun h=>h) (kn 144 (int 0) J (by rw[hF.ts];exact fun h=>h) (kn 145 (int 0) J (by rw[hF.tu];exact fun h=>h) (kn 146 (int 0) J (by rw[hF.ut];exact fun h=>h) (kn 148 (int 0) J (by rw[hF.none];exact fun h=>h) (bsE (enc:=nE) (xs:= [0,0,0,0,0,0]) (css:= [[int 0],[int 0],[int 0],[int 0],[int 0],[int 0]]) T.XD ⟨J,J,p1 (φ:=int 0) J,⟨J,J,p1 (φ:=int 0) J,⟨J,J,p1 (φ:=int 0) J,⟨J,J,p1 (φ:=int 0) J,⟨J,J,p1 (φ:=int 0) J,⟨J,J,p1 (φ:=int 0) J,tV⟩⟩⟩⟩⟩⟩ J J J J (fc (aL 149 J) fun hm149=>(lnF J T.Wh (mv (nl (th (bk ?_)))))))))))))))))))))))
   have hI1_0:0≤6:=by
    first|omega|simp
   refine lp (κ:=Nat) (fun p=> [(3,ptr 3 b3 0),(5,ptr 5 (gbk (β0 6)) 0),(6,ptr 6 (gbk (β0 7)) 0),(7,ptr 7 (gbk (β0 8)) 0),(10,ptr 10 (gbk (β1 8)) 0),(12,ptr 12 (gbk (β2 8)) 0),(16,ptr 16 (gbk (β4 8)) 0),(20,ptr 20 (gbk (β5 8)) 0),(21,int ((aA s (aQ s.aC)).2)),(22,ptr 22 (gbk (β6 9)) 0),(24,ptr 24 (gbk (β7 8)) 0),(25,int ((aA ((aA s t).1) u).2)),(26,ptr 26 (gbk (β8 8)) 0),(27,int ((aA s ((aA t u).1)).2)),(149,sl 1 nE [0,0,0,0,0,0]),(150,int ([0,0,0,0,0,0].length:Int)),(151,int (p:Int)),(9999,tab)]) (fun p=> [(2,cell b2 [sl 1 rE_ s.aC,sl 2 sE s.sT,sl 1 rE_ t.aC,sl 2 sE t.sT,sl 1 rE_ u.aC,sl 2 sE u.sT]),(3,cell b3 [sl 1 rE_ m.aC,sl 1 gE m.sT]),(5,cell (gbk (β0 6)) [sl 1 rE_ s.aC,sl 2 sE s.sT]),(6,cell (gbk (β0 7)) [sl 1 rE_ t.aC,sl 2 sE t.sT]),(7,cell (gbk (β0 8)) [sl 1 rE_ u.aC,sl 2 sE u.sT]),(10,cell (gbk (β1 8)) [sl 1 rE_ ((aA s t).1).aC,sl 2 sE ((aA s t).1).sT]),(12,cell (gbk (β2 8)) [sl 1 rE_ ((aA t s).1).aC,sl 2 sE ((aA t s).1).sT]),(14,cell (gbk (β3 8)) [sl 1 rE_ ((aA t u).1).aC,sl 2 sE ((aA t u).1).sT]),(16,cell (gbk (β4 8)) [sl 1 rE_ ((aA u t).1).aC,sl 2 sE ((aA u t).1).sT]),(18,cell b18 [sl 1 rE_ (aQ s.aC).aC,sl 2 sE (aQ s.aC).sT]),(20,cell (gbk (β5 8)) [sl 1 rE_ ((aA s (aQ s.aC)).1).aC,sl 2 sE ((aA s (aQ s.aC)).1).sT]),(22,cell (gbk (β6 9)) [sl 1 rE_ ((aA s (nothing s.aC)).1).aC,sl 2 sE ((aA s (nothing s.aC)).1).sT]),(24,cell (gbk (β7 8)) [sl 1 rE_ ((aA ((aA s t).1) u).1).aC,sl 2 sE ((aA ((aA s t).1) u).1).sT]),(26,cell (gbk (β8 8)) [sl 1 rE_ ((aA s ((aA t u).1)).1).aC,sl 2 sE ((aA s ((aA t u).1)).1).sT]),(997,eR tab)]) (fun p=>p≤6) (fun p=>6- p) 0 hI1_0 ⟨id,id,id,id,id,id,id,id,id,id,id,id,id,id,id,id,id,id,tV⟩ ⟨rI,rI,rI,rI,rI,rI,rI,rI,rI,rI,rI,rI,rI,rI,rI,tV⟩ ?_
   intro k1 hG1
   have hk1:k1≤6:=hG1
   refine sq (rg (bi J J aN (nl (th (sq ?_)))))
   refine cd J (fun hc3=> ?_) (fun hc3=> ?_)
   ·try simp at hc3
    refine sk (th (sq (bk (sq (rg (iF J J T.Wh O gB (lF J J T.Xf (ag (nl (th (sq (rg (mv (bi J J fS (nl (th ?_))))))))))))))))
    refine cd J (fun hc4=> ?_) (fun hc4=> ?_)
    ·try simp at hc4
     have hff:False:=by rw[ix6] at hc4;exact hc4 rfl
     refine sq (rg (ag (nl (th (rt (rb (rt_ (rt_ (rb (rt_ ?_))))))))))
     have hr0:false=true:=by
      exact hff.elim
     exact rE () [.tmp 4] J [bl false] ⟨.tmp J,tV⟩ (cA1 (fun x0=>rV [bl x0]) hr0) trivial eX
    ·try simp at hc4
     refine sk (eb (th (rg (bi J J (aK i6) (mv (nl ?_))))))
     have hN0:(k1+1)≤6:=by
      first|omega|simp_all
     exact ln (k1+1) hN0 dO ⟨id,id,id,id,id,id,id,id,id,id,id,id,id,id,id,id,id,id,tV⟩ ⟨rI,rI,rI,rI,rI,rI,rI,rI,rI,rI,rI,rI,rI,rI,rI,tV⟩
   ·try simp at hc3
    refine Gz (E':= [(3,ptr 3 b3 0),(5,ptr 5 (gbk (β0 6)) 0),(6,ptr 6 (gbk (β0 7)) 0),(7,ptr 7 (gbk (β0 8)) 0),(10,ptr 10 (gbk (β1 8)) 0),(12,ptr 12 (gbk (β2 8)) 0),(16,ptr 16 (gbk (β4 8)) 0),(20,ptr 20 (gbk (β5 8)) 0),(21,int ((aA s (aQ s.aC)).2)),(22,ptr 22 (gbk (β6 9)) 0),(24,ptr 24 (gbk (β7 8)) 0),(25,int ((aA ((aA s t).1) u).2)),(26,ptr 26 (gbk (β8 8)) 0),(27,int ((aA s ((aA t u).1)).2)),(149,sl 1 nE [0,0,0,0,0,0]),(150,int ([0,0,0,0,0,0].length:Int)),(151,int (k1:Int)),(9999,tab)]) (H':= [(2,cell b2 [sl 1 rE_ s.aC,sl 2 sE s.sT,sl 1 rE_ t.aC,sl 2 sE t.sT,sl 1 rE_ u.aC,sl 2 sE u.sT]),(3,cell b3 [sl 1 rE_ m.aC,sl 1 gE m.sT]),(5,cell (gbk (β0 6)) [sl 1 rE_ s.aC,sl 2 sE s.sT]),(6,cell (gbk (β0 7)) [sl 1 rE_ t.aC,sl 2 sE t.sT]),(7,cell (gbk (β0 8)) [sl 1 rE_ u.aC,sl 2 sE u.sT]),(10,cell (gbk (β1 8)) [sl 1 rE_ ((aA s t).1).aC,sl 2 sE ((aA s t).1).sT]),(12,cell (gbk (β2 8)) [sl 1 rE_ ((aA t s).1).aC,sl 2 sE ((aA t s).1).sT]),(14,cell (gbk (β3 8)) [sl 1 rE_ ((aA t u).1).aC,sl 2 sE ((aA t u).1).sT]),(16,cell (gbk (β4 8)) [sl 1 rE_ ((aA u t).1).aC,sl 2 sE ((aA u t).1).sT]),(18,cell b18 [sl 1 rE_ (aQ s.aC).aC,sl 2 sE (aQ s.aC).sT]),(20,cell (gbk (β5 8)) [sl 1 rE_ ((aA s (aQ s.aC)).1).aC,sl 2 sE ((aA s (aQ s.aC)).1).sT]),(22,cell (gbk (β6 9)) [sl 1 rE_ ((aA s (nothing s.aC)).1).aC,sl 2 sE ((aA s (nothing s.aC)).1).sT]),(24,cell (gbk (β7 8)) [sl 1 rE_ ((aA ((aA s t).1) u).1).aC,sl 2 sE ((aA ((aA s t).1) u).1).sT]),(26,cell (gbk (β8 8)) [sl 1 rE_ ((aA s ((aA t u).1)).1).aC,sl 2 sE ((aA s ((aA t u).1)).1).sT]),(997,eR tab)]) ⟨id,id,id,id,id,id,id,id,id,id,id,id,id,id,id,id,id,id,tV⟩ ⟨rI,rI,rI,rI,rI,rI,rI,rI,rI,rI,rI,rI,rI,rI,rI,tV⟩ ?_
    refine ex (xt_ (xt_ (xb (th (sq (sq (dr (nh:=36) [0,0,3,7,15,31,63,127,255,255,1023,2047,4095,8191,16383,32767,32767,98303,229375,524287,1048575,2097151,4194303,8388607,16777215,33554431,67108863,134217727,268435455,536870911,1073741823,1073741823,4294967295,8589934591,17179869183,34359738367] T.mixed kR ?_)))))))
    refine st_ J (fun _ _ _ gq kq=>lPA (gq.1.trans J) J T.aD J kq) ?_
    refine st_ J (fun _ _ _ gq kq=>lPA (gq.1.trans J) J T.aD J kq) ?_
    refine st_ J (fun _ _ _ gq kq=>aO (φs:= [agg [sl 1 rE_ ((aA s t).1).aC,sl 2 sE ((aA s t).1).sT],agg [sl 1 rE_ ((aA t s).1).aC,sl 2 sE ((aA t s).1).sT]]) (φ:=bl (eqB ((aA s t).1) ((aA t s).1))) ⟨(gq.1.trans J),(gq.2.1.trans J),tV⟩ (prodo.yM ((aA s t).1) ((aA t s).1) O O aS aS) T.Lx kq) ?_
    refine st_ J (fun _ _ _ gq kq=>no (gq.1.trans J) kq) ?_
    refine st_ J (fun _ _ _ gq kq=>mv' (gq.1.trans J) kq) ?_
    refine sg_ (φ:=int ((aA s (aQ s.aC)).2)) J J J J (List.mem_of_elem_eq_true J) (fun hgd=> ?_) ?_
    ·have hgd':=hgd
     try simp at hgd'
     exact fun _ _ _ gq kq=>mv' (gq.1.trans J) kq
    refine sg_ (φ:=bl (decide (((aA s (aQ s.aC)).2)=0))) J J J J (List.mem_of_elem_eq_true J) (fun hgd=> ?_) ?_
    ·have hgd':=hgd
     try simp at hgd'
     exact fun _ _ _ gq kq=>bi (gq.1.trans (bG hgd)) J eF kq
    refine sg_ (φ:=bl (decide (((aA s (aQ s.aC)).2)=0))) J J J J (List.mem_of_elem_eq_true J) (fun hgd=> ?_) ?_
    ·have hgd':=hgd
     try simp at hgd'
     exact fun _ _ _ gq kq=>mv' (gq.1.trans (bG hgd)) kq
    refine iH (φ:=agg [sl 1 rE_ ((aA s (aQ s.aC)).1).aC,sl 2 sE ((aA s (aQ s.aC)).1).sT]) rfl rfl rfl rfl (List.mem_of_elem_eq_true rfl) (fun hgd hgd2=> ?_) ?_
    ·have hgd':=hgd
     try simp at hgd'
     have hgd2':=hgd2
     try simp at hgd2'
     exact fun _ _ _ gq kq=>lPA (gq.1.trans J) J T.aD J kq
    refine iH (φ:=agg [sl 1 rE_ s.aC,sl 2 sE s.sT]) rfl rfl rfl rfl (List.mem_of_elem_eq_true rfl) (fun hgd hgd2=> ?_) ?_
    ·have hgd':=hgd
     try simp at hgd'
     have hgd2':=hgd2
     try simp at hgd2'
     exact fun _ _ _ gq kq=>lPA (gq.1.trans J) J T.aD J kq
    refine iH (φ:=bl (eqB ((aA s (aQ s.aC)).1) s)) rfl rfl rfl rfl (List.mem_of_elem_eq_true rfl) (fun hgd hgd2=> ?_) ?_
    ·have hgd':=hgd
     try simp at hgd'
     have hgd2':=hgd2
     try simp at hgd2'
     exact fun _ _ _ gq kq=>aO (φs:= [agg [sl 1 rE_ ((aA s (aQ s.aC)).1).aC,sl 2 sE ((aA s (aQ s.aC)).1).sT],agg [sl 1 rE_ s.aC,sl 2 sE s.sT]]) (φ:=bl (eqB ((aA s (aQ s.aC)).1) s)) ⟨(gq.1.trans (fQ hgd hgd2)),(gq.2.1.trans (fQ hgd hgd2)),tV⟩ (prodo.yM ((aA s (aQ s.aC)).1) s O O aS aS) T.Lx kq
    refine iH (φ:=bl (!(eqB ((aA s (aQ s.aC)).1) s))) rfl rfl rfl rfl (List.mem_of_elem_eq_true rfl) (fun hgd hgd2=> ?_) ?_
    ·have hgd':=hgd
     try simp at hgd'
     have hgd2':=hgd2
     try simp at hgd2'
     exact fun _ _ _ gq kq=>no (gq.1.trans (fQ hgd hgd2)) kq
    refine sg_ (φ:=bl ((decide (((aA s (aQ s.aC)).2)=0))&&(!(eqB ((aA s (aQ s.aC)).1) s)))) J J J J (List.mem_of_elem_eq_true J) (fun hgd=> ?_) ?_
    ·have hgd':=hgd
     try simp at hgd'
     exact fun _ _ _ gq kq=>pk (gq.1.trans (bG hgd)) (mA (x:= .tmp 165) (gq.1.trans (bG hgd)) (gq.2.1.trans (uY hgd)) J) kq
    refine st_ J (fun _ _ _ gq kq=>pk (gq.1.trans J) (nG (x:= .tmp 162) (gq.1.trans J) (gq.2.1.trans J) J) kq) ?_
    refine st_ J (fun _ _ _ gq kq=>mv' (gq.1.trans J) kq) ?_
    refine sg_ (φ:=agg [sl 1 rE_ ((aA s (nothing s.aC)).1).aC,sl 2 sE ((aA s (nothing s.aC)).1).sT]) J J J J (List.mem_of_elem_eq_true J) (fun hgd=> ?_) ?_
    ·have hgd':=hgd
     try simp at hgd'
     exact fun _ _ _ gq kq=>lPA (gq.1.trans J) J T.aD J kq
    refine sg_ (φ:=ptr 5 (gbk (β0 6)) 0) J J J J (List.mem_of_elem_eq_true J) (fun hgd=> ?_) ?_
    ·have hgd':=hgd
     try simp at hgd'
     exact fun _ _ _ gq kq=>fP (gq.1.trans J) T.cR kq
    refine sg_ (φ:=sl 1 rE_ s.aC) J J J J (List.mem_of_elem_eq_true J) (fun hgd=> ?_) ?_
    ·have hgd':=hgd
     try simp at hgd'
     exact fun _ _ _ gq kq=>lP (gq.1.trans (bG hgd)) J J T.cV kq
    refine sg_ (φ:=agg [sl 1 rE_ (nothing s.aC).aC,sl 2 sE (nothing s.aC).sT]) J J J J (List.mem_of_elem_eq_true J) (fun hgd=> ?_) ?_
    ·have hgd':=hgd
     try simp at hgd'
     exact fun _ _ _ gq kq=>aO (φs:= [sl 1 rE_ s.aC]) (φ:=agg [sl 1 rE_ (nothing s.aC).aC,sl 2 sE (nothing s.aC).sT]) ⟨(gq.1.trans (bG hgd)),tV⟩ (ref03.mN s.aC O) T.KK kq
    refine sg_ (φ:=bl (decide (((aA s (nothing s.aC)).1)=(nothing s.aC)))) J J J J (List.mem_of_elem_eq_true J) (fun hgd=> ?_) ?_
    ·have hgd':=hgd
     try simp at hgd'
     exact fun _ _ _ gq kq=>aO (φs:= [agg [sl 1 rE_ ((aA s (nothing s.aC)).1).aC,sl 2 sE ((aA s (nothing s.aC)).1).sT],agg [sl 1 rE_ (nothing s.aC).aC,sl 2 sE (nothing s.aC).sT]]) (φ:=bl (decide (((aA s (nothing s.aC)).1)=(nothing s.aC)))) ⟨(gq.1.trans (bG hgd)),(gq.2.1.trans (bG hgd)),tV⟩ (ref03.IY ((aA s (nothing s.aC)).1) (nothing s.aC)) T.Rm kq
    refine sg_ (φ:=bl (!(decide (((aA s (nothing s.aC)).1)=(nothing s.aC))))) J J J J (List.mem_of_elem_eq_true J) (fun hgd=> ?_) ?_
    ·have hgd':=hgd
     try simp at hgd'
     exact fun _ _ _ gq kq=>no (gq.1.trans (bG hgd)) kq
    refine st_ J (fun _ _ _ gq kq=>pk (gq.1.trans J) (nG (x:= .tmp 172) (gq.1.trans J) (gq.2.1.trans J) J) kq) ?_
    refine st_ J (fun _ _ _ gq kq=>mv' (gq.1.trans J) kq) ?_
    refine sg_ (φ:=int ((aA ((aA s t).1) u).2)) J J J J (List.mem_of_elem_eq_true J) (fun hgd=> ?_) ?_
    ·have hgd':=hgd
     try simp at hgd'
     exact fun _ _ _ gq kq=>mv' (gq.1.trans J) kq
    refine sg_ (φ:=bl (decide (((aA ((aA s t).1) u).2)=0))) J J J J (List.mem_of_elem_eq_true J) (fun hgd=> ?_) ?_
    ·have hgd':=hgd
     try simp at hgd'
     exact fun _ _ _ gq kq=>bi (gq.1.trans (bG hgd)) J eF kq
    refine sg_ (φ:=bl (decide (((aA ((aA s t).1) u).2)=0))) J J J J (List.mem_of_elem_eq_true J) (fun hgd=> ?_) ?_
    ·have hgd':=hgd
     try simp at hgd'
     exact fun _ _ _ gq kq=>mv' (gq.1.trans (bG hgd)) kq
    refine iH (φ:=int ((aA s ((aA t u).1)).2)) rfl rfl rfl rfl (List.mem_of_elem_eq_true rfl) (fun hgd hgd2=> ?_) ?_
    ·have hgd':=hgd
     try simp at hgd'
     have hgd2':=hgd2
     try simp at hgd2'
     exact fun _ _ _ gq kq=>mv' (gq.1.trans J) kq
    refine iH (φ:=bl (decide (((aA s ((aA t u).1)).2)=0))) rfl rfl rfl rfl (List.mem_of_elem_eq_true rfl) (fun hgd hgd2=> ?_) ?_
    ·have hgd':=hgd
     try simp at hgd'
     have hgd2':=hgd2
     try simp at hgd2'
     exact fun _ _ _ gq kq=>bi (gq.1.trans (fQ hgd hgd2)) J eF kq
    refine sg_ (φ:=bl ((decide (((aA ((aA s t).1) u).2)=0))&&(decide (((aA s ((aA t u).1)).2)=0)))) J J J J (List.mem_of_elem_eq_true J) (fun hgd=> ?_) ?_
    ·have hgd':=hgd
     try simp at hgd'
     exact fun _ _ _ gq kq=>pk (gq.1.trans (bG hgd)) (mA (x:= .tmp 183) (gq.1.trans (bG hgd)) (gq.2.1.trans (uY hgd)) J) kq
    refine sg_ (φ:=bl ((decide (((aA ((aA s t).1) u).2)=0))&&(decide (((aA s ((aA t u).1)).2)=0)))) J J J J (List.mem_of_elem_eq_true J) (fun hgd=> ?_) ?_
    ·have hgd':=hgd
     try simp at hgd'
     exact fun _ _ _ gq kq=>mv' (gq.1.trans (bG hgd)) kq
    refine iH (φ:=agg [sl 1 rE_ ((aA ((aA s t).1) u).1).aC,sl 2 sE ((aA ((aA s t).1) u).1).sT]) rfl rfl rfl rfl (List.mem_of_elem_eq_true rfl) (fun hgd hgd2=> ?_) ?_
    ·have hgd':=hgd
     try simp at hgd'
     have hgd2':=hgd2
     try simp at hgd2'
     exact fun _ _ _ gq kq=>lPA (gq.1.trans J) J T.aD J kq
    refine iH (φ:=agg [sl 1 rE_ ((aA s ((aA t u).1)).1).aC,sl 2 sE ((aA s ((aA t u).1)).1).sT]) rfl rfl rfl rfl (List.mem_of_elem_eq_true rfl) (fun hgd hgd2=> ?_) ?_
    ·have hgd':=hgd
     try simp at hgd'
     have hgd2':=hgd2
     try simp at hgd2'
     exact fun _ _ _ gq kq=>lPA (gq.1.trans J) J T.aD J kq
    refine iH (φ:=bl (eqB ((aA ((aA s t).1) u).1) ((aA s ((aA t u).1)).1))) rfl rfl rfl rfl (List.mem_of_elem_eq_true rfl) (fun hgd hgd2=> ?_) ?_
    ·have hgd':=hgd
     try simp at hgd'
     have hgd2':=hgd2
     try simp at hgd2'
     exact fun _ _ _ gq kq=>aO (φs:= [agg [sl 1 rE_ ((aA ((aA s t).1) u).1).aC,sl 2 sE ((aA ((aA s t).1) u).1).sT],agg [sl 1 rE_ ((aA s ((aA t u).1)).1).aC,sl 2 sE ((aA s ((aA t u).1)).1).sT]]) (φ:=bl (eqB ((aA ((aA s t).1) u).1) ((aA s ((aA t u).1)).1))) ⟨(gq.1.trans (fQ hgd hgd2)),(gq.2.1.trans (fQ hgd hgd2)),tV⟩ (prodo.yM ((aA ((aA s t).1) u).1) ((aA s ((aA t u).1)).1) O O aS aS) T.Lx kq
    refine iH (φ:=bl (!(eqB ((aA ((aA s t).1) u).1) ((aA s ((aA t u).1)).1)))) rfl rfl rfl rfl (List.mem_of_elem_eq_true rfl) (fun hgd hgd2=> ?_) ?_
    ·have hgd':=hgd
     try simp at hgd'
     have hgd2':=hgd2
     try simp at hgd2'
     exact fun _ _ _ gq kq=>no (gq.1.trans (fQ hgd hgd2)) kq
    refine sg_ (φ:=bl (((decide (((aA ((aA s t).1) u).2)=0))&&(decide (((aA s ((aA t u).1)).2)=0)))&&(!(eqB ((aA ((aA s t).1) u).1) ((aA s ((aA t u).1)).1))))) J J J J (List.mem_of_elem_eq_true J) (fun hgd=> ?_) ?_
    ·have hgd':=hgd
     try simp at hgd'
     exact fun _ _ _ gq kq=>pk (gq.1.trans (bG hgd)) (mA (x:= .tmp 187) (gq.1.trans (bG hgd)) (gq.2.1.trans (uY hgd)) J) kq
    refine st_ J (fun _ _ _ gq kq=>pk (gq.1.trans J) (nG (x:= .tmp 180) (gq.1.trans J) (gq.2.1.trans J) J) kq) ?_
    refine pn (nl (th ?_))
    refine cd J (fun hc5=> ?_) (fun hc5=> ?_)
    ·try simp at hc5
     have hff:False:=by
      rcases hc5 with((h|⟨h,g⟩)|h)|⟨⟨h1,h2⟩,g⟩
      ·rw[hF.e1] at h;cases h
      ·rw[hF.e2 h] at g;cases g
      ·exact h (by rw[hF.none])
      ·rw[hF.e3 h1 h2] at g;cases g
     refine sq (rg (ag (nl (th (rt (rt_ ?_))))))
     have hr0:false=true:=by
      exact hff.elim
     exact rE () [.tmp 4] J [bl false] ⟨.tmp J,tV⟩ (cA1 (fun x0=>rV [bl x0]) hr0) trivial eX
    ·try simp at hc5
     refine Gz (E':= [(3,ptr 3 b3 0),(5,ptr 5 (gbk (β0 6)) 0),(6,ptr 6 (gbk (β0 7)) 0),(7,ptr 7 (gbk (β0 8)) 0),(10,ptr 10 (gbk (β1 8)) 0),(16,ptr 16 (gbk (β4 8)) 0),(9999,tab)]) (H':= [(2,cell b2 [sl 1 rE_ s.aC,sl 2 sE s.sT,sl 1 rE_ t.aC,sl 2 sE t.sT,sl 1 rE_ u.aC,sl 2 sE u.sT]),(3,cell b3 [sl 1 rE_ m.aC,sl 1 gE m.sT]),(5,cell (gbk (β0 6)) [sl 1 rE_ s.aC,sl 2 sE s.sT]),(6,cell (gbk (β0 7)) [sl 1 rE_ t.aC,sl 2 sE t.sT]),(7,cell (gbk (β0 8)) [sl 1 rE_ u.aC,sl 2 sE u.sT]),(10,cell (gbk (β1 8)) [sl 1 rE_ ((aA s t).1).aC,sl 2 sE ((aA s t).1).sT]),(12,cell (gbk (β2 8)) [sl 1 rE_ ((aA t s).1).aC,sl 2 sE ((aA t s).1).sT]),(14,cell (gbk (β3 8)) [sl 1 rE_ ((aA t u).1).aC,sl 2 sE ((aA t u).1).sT]),(16,cell (gbk (β4 8)) [sl 1 rE_ ((aA u t).1).aC,sl 2 sE ((aA u t).1).sT]),(18,cell b18 [sl 1 rE_ (aQ s.aC).aC,sl 2 sE (aQ s.aC).sT]),(20,cell (gbk (β5 8)) [sl 1 rE_ ((aA s (aQ s.aC)).1).aC,sl 2 sE ((aA s (aQ s.aC)).1).sT]),(22,cell (gbk (β6 9)) [sl 1 rE_ ((aA s (nothing s.aC)).1).aC,sl 2 sE ((aA s (nothing s.aC)).1).sT]),(24,cell (gbk (β7 8)) [sl 1 rE_ ((aA ((aA s t).1) u).1).aC,sl 2 sE ((aA ((aA s t).1) u).1).sT]),(26,cell (gbk (β8 8)) [sl 1 rE_ ((aA s ((aA t u).1)).1).aC,sl 2 sE ((aA s ((aA t u).1)).1).sT]),(997,eR tab)]) ⟨id,id,id,id,id,id,id,tV⟩ ⟨rI,rI,rI,rI,rI,rI,rI,rI,rI,rI,rI,rI,rI,rI,rI,tV⟩ ?_
     refine sk (th (sq (sq (rg (lPA J J T.aD J (lPA J J T.aD J (aO (φs:= [agg [sl 1 rE_ s.aC,sl 2 sE s.sT],agg [sl 1 rE_ u.aC,sl 2 sE u.sT]]) (φ:=bl (rfB s u)) ⟨J,J,tV⟩ (prodo.uS s u O O aS aS) T.Ly (mv ?_))))))))
     apply eH (t:=197) (pd:=202) rfl
     rotate_left
     ·intro hg3 fin
      have hg3':=hg3
      try simp at hg3'
      exact gy J J J hg3 (lPA J J T.aD J (gy J J J hg3 (lPA J J T.aD J (gy J J J hg3 (aO (φs:= [agg [sl 1 rE_ ((aA s t).1).aC,sl 2 sE ((aA s t).1).sT],agg [sl 1 rE_ ((aA u t).1).aC,sl 2 sE ((aA u t).1).sT]]) (φ:=bl (rfB ((aA s t).1) ((aA u t).1))) ⟨J,J,tV⟩ (prodo.uS ((aA s t).1) ((aA u t).1) O O aS aS) T.Ly (gy J J J hg3 (no J (pkT J hg3 J (drp (X:= [(201,_),(200,_),(199,_),(198,_)]) ⟨J,J,J,J,tV⟩ fin)))))))))
     ·intro hg3 fin
      exact gn J J J hg3 J J (gn J J J hg3 J J (gn J J J hg3 J J (gn J J J hg3 J J (pkF J hg3 J (drp (X:= [(201,_),(200,_),(199,_),(198,_)]) ⟨J,J,J,J,tV⟩ fin)))))
     refine nl (th ?_)
     refine cd J (fun hc6=> ?_) (fun hc6=> ?_)
     ·try simp at hc6
      have hff:False:=by have h:=hc6.2;rw[hF.r hc6.1] at h;cases h
      refine sq (rg (ag (nl (th (rt (rt_ ?_))))))
      have hr0:false=true:=by
       exact hff.elim
      exact rE () [.tmp 4] J [bl false] ⟨.tmp J,tV⟩ (cA1 (fun x0=>rV [bl x0]) hr0) trivial eX
     ·try simp at hc6
      refine Gz (E':= [(3,ptr 3 b3 0),(5,ptr 5 (gbk (β0 6)) 0),(6,ptr 6 (gbk (β0 7)) 0),(10,ptr 10 (gbk (β1 8)) 0),(9999,tab)]) (H':= [(2,cell b2 [sl 1 rE_ s.aC,sl 2 sE s.sT,sl 1 rE_ t.aC,sl 2 sE t.sT,sl 1 rE_ u.aC,sl 2 sE u.sT]),(3,cell b3 [sl 1 rE_ m.aC,sl 1 gE m.sT]),(5,cell (gbk (β0 6)) [sl 1 rE_ s.aC,sl 2 sE s.sT]),(6,cell (gbk (β0 7)) [sl 1 rE_ t.aC,sl 2 sE t.sT]),(7,cell (gbk (β0 8)) [sl 1 rE_ u.aC,sl 2 sE u.sT]),(10,cell (gbk (β1 8)) [sl 1 rE_ ((aA s t).1).aC,sl 2 sE ((aA s t).1).sT]),(12,cell (gbk (β2 8)) [sl 1 rE_ ((aA t s).1).aC,sl 2 sE ((aA t s).1).sT]),(14,cell (gbk (β3 8)) [sl 1 rE_ ((aA t u).1).aC,sl 2 sE ((aA t u).1).sT]),(16,cell (gbk (β4 8)) [sl 1 rE_ ((aA u t).1).aC,sl 2 sE ((aA u t).1).sT]),(18,cell b18 [sl 1 rE_ (aQ s.aC).aC,sl 2 sE (aQ s.aC).sT]),(20,cell (gbk (β5 8)) [sl 1 rE_ ((aA s (aQ s.aC)).1).aC,sl 2 sE ((aA s (aQ s.aC)).1).sT]),(22,cell (gbk (β6 9)) [sl 1 rE_ ((aA s (nothing s.aC)).1).aC,sl 2 sE ((aA s (nothing s.aC)).1).sT]),(24,cell (gbk (β7 8)) [sl 1 rE_ ((aA ((aA s t).1) u).1).aC,sl 2 sE ((aA ((aA s t).1) u).1).sT]),(26,cell (gbk (β8 8)) [sl 1 rE_ ((aA s ((aA t u).1)).1).aC,sl 2 sE ((aA s ((aA t u).1)).1).sT]),(997,eR tab)]) ⟨id,id,id,id,id,tV⟩ ⟨rI,rI,rI,rI,rI,rI,rI,rI,rI,rI,rI,rI,rI,rI,rI,tV⟩ ?_
      refine sk (th (sq ?_))
      refine drH (nh:=11) [0,1,0,7,15,31,63,63,0,383,1023] [(none,[3]),(none,[]),(none,[5]),(none,[]),(none,[]),(none,[]),(none,[]),(none,[]),(some 30,[]),(some 30,[30]),(none,[])] T.mixed kR kR ?_
      refine stv (d:=204) (fun β9=>agg [sl 1 rE_ m.aC,sl 1 gE m.sT]) [3] J bH (fun β9 _ _ _ _ gq gh kq=>lPA (gq.1.trans J) (gh.1.trans J) T.cD J kq) ?_
      refine stv (d:=205) (fun β9=>agg [sl 1 rE_ m.aC,sl 1 gE m.sT]) [] J bH (fun β9 _ _ _ _ gq gh kq=>dU (φs:= [agg [sl 1 rE_ m.aC,sl 1 gE m.sT]]) (φ:=agg [sl 1 rE_ m.aC,sl 1 gE m.sT]) ⟨(gq.1.trans J),tV⟩ (sysw.dR m O) T.RI (fun N hN=>fun h=>cU (cs:= [fre N (sl 1 rE_ m.aC),fre N (sl 1 gE m.sT)]) (ds:= [sl 1 rE_ m.aC,sl 1 gE m.sT]) ⟨fun h=>bP h,fun h=>bP h,tV⟩ h) kq) ?_
      refine stv (d:=206) (fun β9=>agg [sl 1 rE_ s.aC,sl 2 sE s.sT]) [5] J bH (fun β9 _ _ _ _ gq gh kq=>lPA (gq.1.trans J) (gh.1.trans J) T.aD J kq) ?_
      refine stv (d:=207) (fun β9=>agg [sl 1 rE_ s.aC,sl 2 sE s.sT]) [] J bH (fun β9 _ _ _ _ gq gh kq=>dU (φs:= [agg [sl 1 rE_ s.aC,sl 2 sE s.sT]]) (φ:=agg [sl 1 rE_ s.aC,sl 2 sE s.sT]) ⟨(gq.1.trans J),tV⟩ (ref03.dR s O) T.iG (fun N hN=>fun h=>cU (cs:= [fre N (sl 1 rE_ s.aC),fre N (sl 2 sE s.sT)]) (ds:= [sl 1 rE_ s.aC,sl 2 sE s.sT]) ⟨fun h=>bP h,fun h=>bP h,tV⟩ h) kq) ?_
      refine ste (d:=208) QI kV QK (fun z=>Fs m s z) (fun z=>tup [agg [bl z.holds,sl 2 pE z.pairs,sl 1 nE z.word,int z.state],int (cO m s)]) rfl (fun β9 _ _ _ _ gq gh kq=>cal (Hi:= []) (φs:= [agg [sl 1 rE_ m.aC,sl 1 gE m.sT],agg [sl 1 rE_ s.aC,sl 2 sE s.sT]]) ⟨(gq.1.trans rfl),(gq.2.1.trans rfl),tV⟩ (satj.tK m s aS) T.Xg trivial fun N i=>kq i.1 i.2) ?_
      refine stv (d:=203) (fun β9=>whn (Fs m s (kV (β9 4))) (tup [agg [bl (kV (β9 4)).holds,sl 2 pE (kV (β9 4)).pairs,sl 1 nE (kV (β9 4)).word,int (kV (β9 4)).state],int (cO m s)])) [] J (fun β β' hb=>by first|rw[hb 4 J]|(dsimp only;rw[hb 4 J])) (fun β9 _ _ _ _ gq gh kq=>mv' (gq.1.trans J) kq) ?_
      refine stv (d:=209) (fun β9=>agg [bl (kV (β9 4)).holds,sl 2 pE (kV (β9 4)).pairs,sl 1 nE (kV (β9 4)).word,int (kV (β9 4)).state]) [] J (fun β β' hb=>by first|rw[hb 4 J]|(dsimp only;rw[hb 4 J])) (fun β9 _ _ _ _ gq gh kq=>xtW (gq.1.trans J) J kq) ?_
      refine stv (d:=210) (fun β9=>int (cO m s)) [] J bH (fun β9 _ _ _ _ gq gh kq=>xtW (gq.1.trans J) J kq) ?_
      refine sta 30 T.z69 (eC (eC (eC (eC eZ)))) ?_
      refine stw 30 (fun β9=>cell (gbk (β9 8)) [bl (kV (β9 4)).holds,sl 2 pE (kV (β9 4)).pairs,sl 1 nE (kV (β9 4)).word,int (kV (β9 4)).state]) [30] J (fun β β' hb=>by first|rw[hb 4 J,hb 8 J]|(dsimp only;rw[hb 4 J,hb 8 J])) (fun β9 _ _ _ _ gq gh kq=>sPA (cs':= [bl (kV (β9 4)).holds,sl 2 pE (kV (β9 4)).pairs,sl 1 nE (kV (β9 4)).word,int (kV (β9 4)).state]) (gq.1.trans J) (gh.1.trans J) (gq.2.1.trans J) T.pK J J kq) ?_
      refine stv (d:=31) (fun β9=>int (cO m s)) [] J bH (fun β9 _ _ _ _ gq gh kq=>ag' (gq.1.trans J) kq) ?_
      refine pnH fun β9=>(nl (th (sq (sq (Vz 208 J fun h208=> ?_)))))
      refine drH (nh:=11) [0,1,0,7,15,31,63,63,0,383,1023] [(none,[3]),(none,[]),(none,[6]),(none,[]),(none,[997]),(none,[]),(none,[]),(none,[]),(some 32,[]),(some 32,[32]),(none,[])] T.mixed kR kR ?_
      refine stv (d:=212) (fun β10=>agg [sl 1 rE_ m.aC,sl 1 gE m.sT]) [3] J bH (fun β10 _ _ _ _ gq gh kq=>lPA (gq.1.trans J) (gh.1.trans J) T.cD J kq) ?_
      refine stv (d:=213) (fun β10=>agg [sl 1 rE_ m.aC,sl 1 gE m.sT]) [] J bH (fun β10 _ _ _ _ gq gh kq=>dU (φs:= [agg [sl 1 rE_ m.aC,sl 1 gE m.sT]]) (φ:=agg [sl 1 rE_ m.aC,sl 1 gE m.sT]) ⟨(gq.1.trans J),tV⟩ (sysw.dR m O) T.RI (fun N hN=>fun h=>cU (cs:= [fre N (sl 1 rE_ m.aC),fre N (sl 1 gE m.sT)]) (ds:= [sl 1 rE_ m.aC,sl 1 gE m.sT]) ⟨fun h=>bP h,fun h=>bP h,tV⟩ h) kq) ?_
      refine stv (d:=214) (fun β10=>agg [sl 1 rE_ t.aC,sl 2 sE t.sT]) [6] J bH (fun β10 _ _ _ _ gq gh kq=>lPA (gq.1.trans J) (gh.1.trans J) T.aD J kq) ?_
      refine stv (d:=215) (fun β10=>agg [sl 1 rE_ t.aC,sl 2 sE t.sT]) [] J bH (fun β10 _ _ _ _ gq gh kq=>dU (φs:= [agg [sl 1 rE_ t.aC,sl 2 sE t.sT]]) (φ:=agg [sl 1 rE_ t.aC,sl 2 sE t.sT]) ⟨(gq.1.trans J),tV⟩ (ref03.dR t O) T.iG (fun N hN=>fun h=>cU (cs:= [fre N (sl 1 rE_ t.aC),fre N (sl 2 sE t.sT)]) (ds:= [sl 1 rE_ t.aC,sl 2 sE t.sT]) ⟨fun h=>bP h,fun h=>bP h,tV⟩ h) kq) ?_
      refine stv (d:=216) (fun β10=>tup [agg [sl 1 rE_ ((cG m t).1).aC,sl 2 sE ((cG m t).1).sT],int ((cG m t).2)]) [997] J bH (fun β10 _ _ _ _ gq gh kq=>tbK (ψ:=tab) 213 997 (gq.1.trans J) (gh.1.trans J) (aO (φs:= [both (agg [sl 1 rE_ m.aC,sl 1 gE m.sT]) tab,agg [sl 1 rE_ t.aC,sl 2 sE t.sT]]) (φ:=tup [agg [sl 1 rE_ ((cG m t).1).aC,sl 2 sE ((cG m t).1).sT],int ((cG m t).2)]) ⟨J,(gq.2.1.trans J),tV⟩ (prodb.Oc m t aS) T.Xh (tbX (gq.1.trans J) kq))) ?_
      refine stv (d:=211) (fun β10=>tup [agg [sl 1 rE_ ((cG m t).1).aC,sl 2 sE ((cG m t).1).sT],int ((cG m t).2)]) [] J bH (fun β10 _ _ _ _ gq gh kq=>mv' (gq.1.trans J) kq) ?_
      refine stv (d:=217) (fun β10=>agg [sl 1 rE_ ((cG m t).1).aC,sl 2 sE ((cG m t).1).sT]) [] J bH (fun β10 _ _ _ _ gq gh kq=>xt (gq.1.trans J) J kq) ?_
      refine stv (d:=218) (fun β10=>int ((cG m t).2)) [] J bH (fun β10 _ _ _ _ gq gh kq=>xt (gq.1.trans J) J kq) ?_
      refine sta 32 T.z25 (eC (eC eZ)) ?_
      refine stw 32 (fun β10=>cell (gbk (β10 8)) [sl 1 rE_ ((cG m t).1).aC,sl 2 sE ((cG m t).1).sT]) [32] J (fun β β' hb=>by first|rw[hb 8 J]|(dsimp only;rw[hb 8 J])) (fun β10 _ _ _ _ gq gh kq=>sPA (cs':= [sl 1 rE_ ((cG m t).1).aC,sl 2 sE ((cG m t).1).sT]) (gq.1.trans J) (gh.1.trans J) (gq.2.1.trans J) T.aD J J kq) ?_
      refine stv (d:=33) (fun β10=>int ((cG m t).2)) [] J bH (fun β10 _ _ _ _ gq gh kq=>ag' (gq.1.trans J) kq) ?_
      refine pnH fun β10=>(nl (th (sq (rg (mv (bi J J eF (mv ?_)))))))
      apply eH (t:=221) (pd:=224) rfl
      rotate_left
      ·intro hg4 fin
       have hg4':=hg4
       try simp at hg4'
       exact gy J J J hg4 (fP J T.TS (gy J J J hg4 (lP J J J T.eB (pkT J hg4 J (drp (X:= [(223,_),(222,_)]) ⟨J,J,tV⟩ fin)))))
      ·intro hg4 fin
       exact gn J J J hg4 J J (gn J J J hg4 J J (pkF J hg4 J (drp (X:= [(223,_),(222,_)]) ⟨J,J,tV⟩ fin)))
      refine mv ?_
      apply eH (t:=225) (pd:=228) rfl
      rotate_left
      ·intro hg5 fin
       have hg5':=hg5
       try simp at hg5'
       exact gy J J J hg5 (mv (gy J J J hg5 (bi J J eF (pkT J hg5 J (drp (X:= [(227,_),(226,_)]) ⟨J,J,tV⟩ fin)))))
      ·intro hg5 fin
       exact gn J J J hg5 J J (gn J J J hg5 J J (pkF J hg5 J (drp (X:= [(227,_),(226,_)]) ⟨J,J,tV⟩ fin)))
      refine mv ?_
      apply eH (t:=229) (pd:=234) rfl
      rotate_left
      ·intro hg6 fin
       have hg6':=hg6
       try simp at hg6'
       exact gy J J J hg6 (lPA J J T.aD J (gy J J J hg6 (lPA J J T.aD J (gy J J J hg6 (aO (φs:= [agg [sl 1 rE_ ((cG m t).1).aC,sl 2 sE ((cG m t).1).sT],agg [sl 1 rE_ ((aA s t).1).aC,sl 2 sE ((aA s t).1).sT]]) (φ:=bl (rfB ((cG m t).1) ((aA s t).1))) ⟨J,J,tV⟩ (prodo.uS ((cG m t).1) ((aA s t).1) O O aS aS) T.Ly (gy J J J hg6 (no J (pkT J hg6 J (drp (X:= [(233,_),(232,_),(231,_),(230,_)]) ⟨J,J,J,J,tV⟩ fin)))))))))
      ·intro hg6 fin
       exact gn J J J hg6 J J (gn J J J hg6 J J (gn J J J hg6 J J (gn J J J hg6 J J (pkF J hg6 J (drp (X:= [(233,_),(232,_),(231,_),(230,_)]) ⟨J,J,J,J,tV⟩ fin)))))
      refine nl (th ?_)
      refine cd J (fun hc7=> ?_) (fun hc7=> ?_)
      ·try simp at hc7
       have hff:False:=by
        obtain⟨⟨⟨h1,h2⟩,h3⟩,h4⟩:=hc7
        rw[TR hF O h208 h1 h2 h3] at h4;cases h4
       refine sq (rg (ag (nl (th (rt (rt_ ?_))))))
       have hr0:false=true:=by
        exact hff.elim
       exact rE () [.tmp 4] J [bl false] ⟨.tmp J,tV⟩ (cA1 (fun x0=>rV [bl x0]) hr0) trivial eX
      ·try simp at hc7
       refine sk (th (sq (rg (OD (ψ:=tab) (φs:= []) (φ:=bl true) trivial prodk.Bw T.Lw 9999 J J (ag (nl (th (rt ?_))))))))
       exact rE () [.tmp 4] J [bl true] ⟨.tmp J,tV⟩ J trivial eX
end prodq
end
end Go.Proofs.YtcjemmihcplgdaaGreatDoor
