/- The walks of the functions and the plain laws. Own texts of this claim, packed: satj, lsts. -/
import Derived.Test.YtolpjmllmlahfaaDoorX16
import Derived.Test.YtolpjmllmlahfaaDoorX17
set_option linter.all false
namespace Go.Proofs.YtolpjmllmlahfaaDoor
open AL Go
set_option maxRecDepth 100000
set_option linter.all false
open ref01 ref03 ref04 ref06 prog prog2 prog3 prog6 prog13 prog15 starts search Part Rungs LeftM TrimM RoundM BisM BisM5 BisM6 WalkM StepM WitM JudgM refw judg wit sysw
def metJ:WalkM.Mt→List AV:=fun m=> [int m.before,int m.action,int m.s,int m.t]
instance (m:WalkM.Mt):OneAll (metJ m):=inferInstanceAs (OneAll [int m.before,int m.action,int m.s,int m.t])
noncomputable def fineSE (m:SSys) (s:SSpec):Int:=if sysOK m=true then(if specOK s=true then(if m.actions=s.actions then 0 else 10) else 30) else 20
theorem fineSE_ok {m:SSys} {s:SSpec} (h:fineSE m s=0):sysOK m=true∧specOK s=true∧m.actions=s.actions:=by
 unfold fineSE at h
 split at h
 ·next g1=>
  split at h
  ·next g2=>
   split at h
   ·next g3=>exact⟨g1,g2,g3⟩
   ·exact absurd h (by decide)
  ·exact absurd h (by decide)
 ·exact absurd h (by decide)
abbrev verJ (v:VJ):AV:=agg [bl v.holds,sl 2 pairE v.pairs,ints v.word,int v.state]
structure SatOK (m:SSys) (s:SSpec) (v:VJ):Prop where
 ok:fineSE m s=0→JudgeOK m s v
 no:fineSE m s≠0→v=⟨false,[],[],0⟩
noncomputable def satB (m:SSys) (s:SSpec):Bool:=decide (fineSE m s=0)&& @decide (SatM m s) (Classical.propDecidable _)
theorem holds_satB {m:SSys} {s:SSpec} {v:VJ} (h:SatOK m s v):v.holds=satB m s:=by
 unfold satB
 by_cases e:fineSE m s=0
 ·rw[decide_eq_true e,Bool.true_and,Bool.eq_iff_iff,judge_iff (h.ok e)];simp
 ·rw[decide_eq_false e,h.no e];rfl
theorem sat_bd {m:SSys} {t:SSpec} (hm:okSys m) (ht:okSpec t) {q:List WalkM.Mt} (h:QJ m t q):∀p∈q.map pairOf,bdP p:=by
 intro p hp
 obtain⟨x,hx,rfl⟩:=List.mem_map.1 hp
 have:=h.bd x hx
 have h1:=hm.few1
 have h2:=ht.few1
 unfold bdP pairOf
 dsimp only
 omega
namespace T
theorem map118:MapT Tryd.prog 118 56 4 pairV pairD:=mapT_arr Tryd.underlying118 Tryd.underlying56 (by kernel_rfl) (by decide+kernel) (by kernel_rfl) (by kernel_rfl) ⟨Tryd.underlying3,by kernel_rfl⟩ (by kernel_rfl)
theorem sl123:IsSlice Tryd.prog 123 122 4:=isSlice_of (by kernel_rfl)
theorem fld122_0:FieldAt Tryd.prog 122 0 0:=fieldAt_of (by kernel_rfl)
theorem fld120_0:FieldAt Tryd.prog 120 0 0:=fieldAt_of (by kernel_rfl)
theorem fld120_1:FieldAt Tryd.prog 120 1 1:=fieldAt_of (by kernel_rfl)
theorem ent78:Ent Tryd.prog 78:=ent_of (by kernel_rfl)
theorem z60:ZeroIs Tryd.prog 60 [.bool false,.slice none 0 0,.slice none 0 0,.int .i64 0]:=zeroIs_of (by kernel_rfl)
theorem st120:StructT Tryd.prog 120 [(0,1),(1,1)] [.int .i64 0,.int .i64 0]:=structT_of (by kernel_rfl) (by kernel_rfl)
theorem st122:StructT Tryd.prog 122 [(0,2),(2,2)] [.int .i64 0,.int .i64 0,.int .i64 0,.int .i64 0]:=structT_of (by kernel_rfl) (by kernel_rfl)
theorem mk123:MakeT Tryd.prog 123 122 4 32 [.int .i64 0,.int .i64 0,.int .i64 0,.int .i64 0]:=makeT_of (by kernel_rfl) (by kernel_rfl)
theorem fld122_1:FieldAt Tryd.prog 122 1 2:=fieldAt_of (by kernel_rfl)
theorem ent80:Ent Tryd.prog 80:=ent_of (by kernel_rfl)
theorem ent81:Ent Tryd.prog 81:=ent_of (by kernel_rfl)
theorem st60:StructT Tryd.prog 60 [(0,1),(1,1),(2,1),(3,1)] [.bool false,.slice none 0 0,.slice none 0 0,.int .i64 0]:=structT_of (by kernel_rfl) (by kernel_rfl)
theorem agg60:IsAgg Tryd.prog 60 4:=isAgg_of (by kernel_rfl)
theorem agg122:IsAgg Tryd.prog 122 4:=isAgg_of (by kernel_rfl)
theorem z122:ZeroIs Tryd.prog 122 [.int .i64 0,.int .i64 0,.int .i64 0,.int .i64 0]:=zeroIs_of (by kernel_rfl)
theorem fld60_1:FieldAt Tryd.prog 60 1 1:=fieldAt_of (by kernel_rfl)
theorem ent82:Ent Tryd.prog 82:=ent_of (by kernel_rfl)
theorem ent51:Ent Tryd.prog 51:=ent_of (by kernel_rfl)
theorem ent52:Ent Tryd.prog 52:=ent_of (by kernel_rfl)
end T
namespace satj
theorem word_ok (q:List WalkM.Mt) (hb:BackOK q) (i:Nat) (hi:i<q.length) (hq:q.length≤1000000000:=by omega):
 Fn0 Tryd.prog 81 [sl 4 metJ q,int (i:Int)] (ints (wordTo q i)):=by
 refine fnI Tryd.func81 rfl rfl (fun w0 F0=> ?_)
 refine fcC (slenI 0 rfl) (fun hm0=> ?_)
 refine sq (rg (ag (nl (th (sq (rg (nw 5 3 1 intE (ag (rtg (key:=5) 5 rfl (nl (th (sq (bk ?_)))))))))))))
 have hI0_0:0≤(i:Int)∧(i:Int)<(q.length:Int)∧([]:List Int)++upF q (i+1) (i:Int).toNat=upF q (i+1) i∧(i:Int).toNat<(i+1)∧([]:List Int).length+(i:Int).toNat≤i:=by
  exact⟨by omega,by omega,by rw[Int.toNat_natCast];rfl,by omega,by simp⟩
 refine lp (κ:=Nat × Int × Value × (List Int)) (fun p=> [(0,sl 4 metJ q),(1,int p.2.1),(4,eqv (.slice none 0 0)),(5,osl 5 p.2.2.1)]) (fun p=> [(5,own p.2.2.1 3 1 intE p.2.2.2)]) (fun p=>0≤p.2.1∧p.2.1<(q.length:Int)∧p.2.2.2++upF q p.1 p.2.1.toNat=upF q (i+1) i∧p.2.1.toNat<p.1∧p.2.2.2.length+p.2.1.toNat≤i) (fun p=>p.2.1.toNat) ⟨i+1,(i:Int),(.slice none 0 0),([]:List Int)⟩ hI0_0 ⟨id,id,id,id,trivial⟩ ⟨⟨rfl,id⟩,trivial⟩ ?_
 intro⟨n,j,v5,out⟩ hG0
 obtain⟨hj0,hjl,hou,hjn,hol⟩:0≤j∧j<(q.length:Int)∧out++upF q n j.toNat=upF q (i+1) i∧j.toNat<n∧out.length+j.toNat≤i:=hG0
 show Ct _ _ _ _ [(0,sl 4 metJ q),(1,int j),(4,eqv (.slice none 0 0)),(5,osl 5 v5)] [(5,own v5 3 1 intE out)] _
 have hbk:=hb j.toNat (by omega)
 refine sq (sq (rg (mv (mv (iF rfl rfl T.sl123 (by omega) (by first|exact gN (by omega)|exact gI (by omega) (by omega)) (fF rfl T.fld122_0 (fF rfl T.fld120_0 (lF rfl rfl T.one3 (bi rfl rfl b_geq (nl (th ?_)))))))))))
 refine cd rfl (fun hc0=> ?_) (fun hc0=> ?_)
 ·try simp at hc0
  refine sk (th (sq (bk (rg (mv (mv (mv (iF rfl rfl T.sl123 (by omega) (by first|exact gN (by omega)|exact gI (by omega) (by omega)) (fF rfl T.fld122_0 (fF rfl T.fld120_1 (lF rfl rfl T.one3 (bsE (enc:=intE) (xs:= [((ix q j.toNat).action)]) (css:= [[int ((ix q j.toNat).action)]]) T.mk28 ⟨rfl,rfl,p1 (φ:=int ((ix q j.toNat).action)) rfl,trivial⟩ rfl rfl rfl rfl (ap (key:=5) (zs:= [((ix q j.toNat).action)]) osl_eq rfl rfl rfl T.mk28 (by unfold maxL at*;simp;omega) (by unfold maxL at*;simp;omega) fun v27=>(ag (nl (eb (th (rg (mv (mv (iF rfl rfl T.sl123 (by omega) (by first|exact gN (by omega)|exact gI (by omega) (by omega)) (fF rfl T.fld122_0 (fF rfl T.fld120_0 (lF rfl rfl T.one3 (ag (nl ?_))))))))))))))))))))))))))
  have hN0:0≤((ix q j.toNat).before)∧((ix q j.toNat).before)<(q.length:Int)∧(out++ [((ix q j.toNat).action)])++upF q (n- 1) ((ix q j.toNat).before).toNat=upF q (i+1) i∧((ix q j.toNat).before).toNat<(n- 1)∧(out++ [((ix q j.toNat).action)]).length+((ix q j.toNat).before).toNat≤i:=by
   have hbk2:=hbk hc0
   exact⟨hc0,by omega,upF_up hou hjn hc0,by omega,by simp;omega⟩
  exact ln (⟨n- 1,(ix q j.toNat).before,v27,out++ [((ix q j.toNat).action)]⟩:Nat × Int × Value × (List Int)) hN0 (by have hbk2:=hbk hc0;show(ix q j.toNat).before.toNat<j.toNat;omega) ⟨id,id,id,id,trivial⟩ ⟨⟨rfl,id⟩,trivial⟩
 ·try simp at hc0
  refine ex (xt_ (xt_ (xb (th (sq (rg (mv (cal (Hi:= [(5,own v5 3 1 intE out)]) (φs:= [osl 5 v5]) ⟨rfl,trivial⟩ (judg.Reverse_ok v5 out (by omega)) T.ent103 ⟨⟨rfl,id⟩,trivial⟩ fun _ _=>(nl (th (sq (rg (mv (ag (nl (th (rt ?_)))))))))))))))))
  refine fzA 5 4 rfl rfl ?_
  have hr0:out.reverse=(wordTo q i):=by
   rw[upF_top hou hjn (by omega)];rfl
  have hall:∀x0,out.reverse=x0→resAV [sl 1 intE out.reverse]=resAV [sl 1 intE x0]:=by rintro _ rfl;rfl
  exact rE () [.tmp 4] rfl [sl 1 intE out.reverse] ⟨.tmp rfl,trivial⟩ (hall _ hr0) trivial (by first|exact .inr rfl|exact .inl rfl)
theorem Fine_ok (m:SSys) (s:SSpec) (hs:smallSpec s):
 Fn0 Tryd.prog 51 [sys m,spec s] (int (fineSE m s)):=by
 refine fnI Tryd.func51 rfl rfl (fun w0 F0=> ?_)
 refine fcC (inhS 0 rfl) (fun hS0=> ?_)
 obtain⟨hma0,hms0,hme0⟩:=sys_lens hS0
 refine fcC (inhS 1 rfl) (fun hS1=> ?_)
 obtain⟨hsa1,hss1,hse1⟩:=spec_lens hS1
 refine sq (rg (bx (key:=2) (cs:= [sl 1 strE m.actions,sl 1 edgesE m.states]) rfl fun b2=>(bx (key:=3) (cs:= [sl 1 strE s.actions,sl 2 stateE s.states]) rfl fun b3=>(ag (nl (th (sq (bk (sq (rg (lPA rfl rfl T.agg55 rfl (cal0 (φs:= [agg [sl 1 strE m.actions,sl 1 edgesE m.states]]) (φ:=bl (sysOK m)) ⟨rfl,trivial⟩ (sysw.Valid_ok m) T.ent78 (no rfl (ag (nl (th ?_))))))))))))))))
 refine cd rfl (fun hc0=> ?_) (fun hc0=> ?_)
 ·try simp at hc0
  refine sq (rg (ag (nl (th (rt (rb (rt_ ?_)))))))
  have hr0:(20:Int)=(fineSE m s):=by
   unfold fineSE;rw[if_neg (by simp[hc0])]
  have hall:∀x0,20=x0→resAV [int 20]=resAV [int x0]:=by rintro _ rfl;rfl
  exact rE () [.tmp 4] rfl [int 20] ⟨.tmp rfl,trivial⟩ (hall _ hr0) trivial (by first|exact .inr rfl|exact .inl rfl)
 ·try simp at hc0
  refine sq (rg (lPA rfl rfl T.agg25 rfl (cal0 (φs:= [agg [sl 1 strE s.actions,sl 2 stateE s.states]]) (φ:=bl (specOK s)) ⟨rfl,trivial⟩ (prog2.Valid_ok s (by assumption)) T.ent39 (no rfl (ag (nl (th ?_)))))))
  refine cd rfl (fun hc1=> ?_) (fun hc1=> ?_)
  ·try simp at hc1
   refine sq (rg (ag (nl (th (rt (rb (rt_ ?_)))))))
   have hr0:(30:Int)=(fineSE m s):=by
    unfold fineSE;rw[if_pos (by simpa using hc0),if_neg (by simp[hc1])]
   have hall:∀x0,30=x0→resAV [int 30]=resAV [int x0]:=by rintro _ rfl;rfl
   exact rE () [.tmp 4] rfl [int 30] ⟨.tmp rfl,trivial⟩ (hall _ hr0) trivial (by first|exact .inr rfl|exact .inl rfl)
  ·try simp at hc1
   refine sq (rg (fP rfl T.fld55_0 (lP rfl rfl rfl T.one22 (fP rfl T.fld25_0 (lP rfl rfl rfl T.one22 (cal0 (φs:= [sl 1 strE m.actions,sl 1 strE s.actions]) (φ:=bl (decide (m.actions=s.actions))) ⟨rfl,rfl,trivial⟩ (prog.sEqualstrE_ok _ _) T.ent66 (no rfl (ag (nl (th ?_))))))))))
   refine cd rfl (fun hc2=> ?_) (fun hc2=> ?_)
   ·try simp at hc2
    refine sq (rg (ag (nl (th (rt (rb (rt_ ?_)))))))
    have hr0:(10:Int)=(fineSE m s):=by
     unfold fineSE;rw[if_pos (by simpa using hc0),if_pos (by simpa using hc1),if_neg hc2]
    have hall:∀x0,10=x0→resAV [int 10]=resAV [int x0]:=by rintro _ rfl;rfl
    exact rE () [.tmp 4] rfl [int 10] ⟨.tmp rfl,trivial⟩ (hall _ hr0) trivial (by first|exact .inr rfl|exact .inl rfl)
   ·try simp at hc2
    refine sk (eb (th (sq (rg (ag (nl (th (rt ?_))))))))
    have hr0:(0:Int)=(fineSE m s):=by
     unfold fineSE;rw[if_pos (by simpa using hc0),if_pos (by simpa using hc1),if_pos hc2]
    have hall:∀x0,0=x0→resAV [int 0]=resAV [int x0]:=by rintro _ rfl;rfl
    exact rE () [.tmp 4] rfl [int 0] ⟨.tmp rfl,trivial⟩ (hall _ hr0) trivial (by first|exact .inr rfl|exact .inl rfl)
theorem Judge_ok (m:SSys) (hm:okSys m) (s:SSpec) (hs:okSpec s):
 AL.Fn Tryd.prog 52 [sys m,spec s] [] (ι:= { v:VJ//JudgeOK m s v }) (fun _ i=>verJ i.1) (fun _=> []):=by
 refine fnI Tryd.func52 rfl rfl (fun w0 F0=> ?_)
 have f1:=hm.few1;have f2:=hs.few1;have f3:=hs.n8;have f4:=hm.n8;have g0:=hm.few0;have g1:=hs.few0;have hmm:m.states.length*s.states.length≤10000*10000:=Nat.mul_le_mul f1 f2
 refine fcC (inhS 0 rfl) (fun hS0=> ?_)
 obtain⟨hma0,hms0,hme0⟩:=sys_lens hS0
 refine fcC (inhS 1 rfl) (fun hS1=> ?_)
 obtain⟨hsa1,hss1,hse1⟩:=spec_lens hS1
 refine sq (rg (bx (key:=2) (cs:= [sl 1 strE m.actions,sl 1 edgesE m.states]) rfl fun b2=>(bx (key:=3) (cs:= [sl 1 strE s.actions,sl 2 stateE s.states]) rfl fun b3=>(al (key:=4) T.z60 (ex_cons (ex_cons (ex_cons (ex_cons (ex_nil))))) fun b4=>(nl (th (sq (rg (mkm (key:=16) (kE:=pairV) (dom:=pairD) (vE:=blV) fun b16=>(bd (css:= [(0,_),(1,_)]) T.st56 (ex_cons (ex_cons (ex_nil))) ⟨rfl,rfl,p1 (φ:=int 0) rfl,⟨rfl,rfl,p1 (φ:=int 0) rfl,trivial⟩⟩ (AL.insert (q:=(0,0)) (u:=true) rfl rfl agg_pair rfl T.map118 ⟨⟨by omega,by omega⟩,⟨by omega,by omega⟩⟩ (mv (ag (nl (th (sq (rg (bd (css:= [(0,_)]) T.st120 (ex_cons (ex_cons (ex_nil))) ⟨rfl,rfl,p1 (φ:=int (-1)) rfl,trivial⟩ (bd (css:= [(0,_)]) T.st122 (ex_cons (ex_cons (ex_cons (ex_cons (ex_nil))))) ⟨rfl,rfl,pA (cs:= [int (-1),int 0]) rfl,trivial⟩ (bsO 21 (enc:=metJ) (xs:= [⟨0,0,(-1),0⟩]) (css:= [[int (-1),int 0,int 0,int 0]]) T.mk123 ⟨rfl,rfl,pA (cs:= [int (-1),int 0,int 0,int 0]) rfl,trivial⟩ rfl rfl rfl rfl fun v21=>(ag (nl (th (sq (sq (rg (ag (nl (th (bk ?_))))))))))))))))))))))))))))))
 have hI0_0:QJ m s ([⟨0,0,(-1),0⟩]:List WalkM.Mt)∧smap (mset ([]:List ((Int × Int) × Bool)) (0,0) true) ([⟨0,0,(-1),0⟩]:List WalkM.Mt)∧0≤([⟨0,0,(-1),0⟩]:List WalkM.Mt).length∧∀k,k<0→DoneJ m s ([⟨0,0,(-1),0⟩]:List WalkM.Mt) k:=by
  exact⟨qj_zero hm hs,smap_zero,by simp,fun k hk=>absurd hk (by omega)⟩
 refine lp (κ:=Nat × Value × (List WalkM.Mt) × (List ((Int × Int) × Bool))) (fun p=> [(2,ptr 2 b2 0),(3,ptr 3 b3 0),(4,ptr 4 b4 0),(5,mpv 16 b16),(6,osl 21 p.2.1),(7,int (p.1:Int))]) (fun p=> [(2,cell b2 [sl 1 strE m.actions,sl 1 edgesE m.states]),(3,cell b3 [sl 1 strE s.actions,sl 2 stateE s.states]),(4,cell b4 [bl false,eqv (.slice none 0 0),eqv (.slice none 0 0),int 0]),(16,mp b16 pairV pairD blV p.2.2.2),(21,own p.2.1 122 4 metJ p.2.2.1)]) (fun p=>QJ m s p.2.2.1∧smap p.2.2.2 p.2.2.1∧p.1≤p.2.2.1.length∧∀k,k<p.1→DoneJ m s p.2.2.1 k) (fun p=>m.states.length*s.states.length- p.1) ⟨0,v21,([⟨0,0,(-1),0⟩]:List WalkM.Mt),mset ([]:List ((Int × Int) × Bool)) (0,0) true⟩ hI0_0 ⟨id,id,id,id,id,id,trivial⟩ ⟨⟨rfl,id⟩,⟨rfl,id⟩,⟨rfl,id⟩,⟨rfl,id⟩,⟨rfl,id⟩,trivial⟩ ?_
 intro⟨i,v,q,mm⟩ hG0
 obtain⟨hq,hsm,hil,hdone⟩:QJ m s q∧smap mm q∧i≤q.length∧∀k,k<i→DoneJ m s q k:=hG0
 show Ct _ _ _ _ [(2,ptr 2 b2 0),(3,ptr 3 b3 0),(4,ptr 4 b4 0),(5,mpv 16 b16),(6,osl 21 v),(7,int (i:Int))] [(2,cell b2 [sl 1 strE m.actions,sl 1 edgesE m.states]),(3,cell b3 [sl 1 strE s.actions,sl 2 stateE s.states]),(4,cell b4 [bl false,eqv (.slice none 0 0),eqv (.slice none 0 0),int 0]),(16,mp b16 pairV pairD blV mm),(21,own v 122 4 metJ q)] _
 have hql:=qj_len hq
 refine sq (sq (rg (mv (mv (lnO rfl rfl T.sl123 (bi rfl rfl b_lss (nl (th ?_))))))))
 refine cd rfl (fun hc0=> ?_) (fun hc0=> ?_)
 ·try simp at hc0
  have hbd:=hq.bd _ (ix_memS hc0)
  have hsy:=hs.st ((ix q i).t).toNat (by omega)
  have hyl:=hsy.len
  have hoff:∀e∈(ix m.states ((ix q i).s).toNat),0≤e.1∧e.1<8:=fun e he=>by have:=hm.ed ((ix q i).s).toNat (by omega) e he;omega
  refine sk (th (sq (bk (sq (rg (mv (mv (iO rfl rfl rfl T.sl123 (by omega) (by omega) (fO rfl T.fld122_1 (lOA rfl rfl (by first|exact gN (by omega)|exact gI (by omega) (by omega)) T.agg56 (by decide) (al (key:=8) T.z56 (ex_cons (ex_cons (ex_nil))) fun b8=>(sPA (cs':= [int ((ix q i).s),int ((ix q i).t)]) rfl rfl rfl T.agg56 rfl rfl (nl (th (sq (rg (fP rfl T.fld25_1 (lP rfl rfl rfl T.one23 (iPA rfl rfl T.arr56 T.one3 rfl (lP rfl rfl rfl T.one3 (iF rfl rfl T.sl23 (by omega) (by first|exact gN (by omega)|exact gI (by omega) (by omega)) (lFA rfl T.agg69 (Nat.le_of_ble_eq_true rfl) (al (key:=9) T.z69 (ex_cons (ex_cons (ex_nil))) fun b9=>(sPA (cs':= [sl 1 intE ((ix s.states (((ix q i).t).toNat)).accept),sl 1 intE ((ix s.states (((ix q i).t).toNat)).next)]) rfl rfl rfl T.agg69 rfl rfl (nl (th (sq (sq (dr (nh:=10) [0,0,2,0,8,30,62,126,255,511] T.mixed (by kernel_rfl) ?_)))))))))))))))))))))))))))))
  refine st_ rfl (fun _ _ _ gq kq=>lPA (gq.1.trans rfl) rfl T.agg69 rfl kq) ?_
  refine st_ rfl (fun _ _ _ gq kq=>fP (gq.1.trans rfl) T.fld55_1 kq) ?_
  refine st_ rfl (fun _ _ _ gq kq=>lP (gq.1.trans rfl) rfl rfl T.one53 kq) ?_
  refine st_ rfl (fun _ _ _ gq kq=>iPA (gq.1.trans rfl) rfl T.arr56 T.one3 rfl kq) ?_
  refine st_ rfl (fun _ _ _ gq kq=>lP (gq.1.trans rfl) rfl rfl T.one3 kq) ?_
  refine st_ rfl (fun _ _ _ gq kq=>iF (gq.1.trans rfl) (gq.2.1.trans rfl) T.sl53 (by omega) (by first|exact gN (by omega)|exact gI (by omega) (by omega)) kq) ?_
  refine st_ rfl (fun _ _ _ gq kq=>lF (gq.1.trans rfl) rfl T.one85 kq) ?_
  refine st_ rfl (fun _ _ _ gq kq=>cal0 (φs:= [sl 2 pairE (ix m.states (((ix q i).s).toNat))]) (φ:=int (offE (ix m.states (((ix q i).s).toNat)))) ⟨(gq.1.trans rfl),trivial⟩ (sysw.Offers_ok (ix m.states (((ix q i).s).toNat)) (by assumption)) T.ent80 kq) ?_
  refine st_ rfl (fun _ _ _ gq kq=>cal0 (φs:= [agg [sl 1 intE ((ix s.states (((ix q i).t).toNat)).accept),sl 1 intE ((ix s.states (((ix q i).t).toNat)).next)],int (offE (ix m.states (((ix q i).s).toNat)))]) (φ:=bl (decide ((offE (ix m.states (((ix q i).s).toNat)))∈(ix s.states (((ix q i).t).toNat)).accept))) ⟨(gq.1.trans rfl),(gq.2.1.trans rfl),trivial⟩ (search.Accepts_ok (ix s.states (((ix q i).t).toNat)) (hs.st _ (by omega)).rise (offE (ix m.states (((ix q i).s).toNat)))) T.ent79 kq) ?_
  refine st_ rfl (fun _ _ _ gq kq=>no (gq.1.trans rfl) kq) ?_
  refine pn (nl (th ?_))
  refine cd rfl (fun hc1=> ?_) (fun hc1=> ?_)
  ·try simp at hc1
   have hnacc:offM m (ix q i).s.toNat∉acc s (ix q i).t.toNat:=by simpa using hc1
   refine sq (fzC 21 6 rfl rfl (dr (nh:=6) [0,0,3,0,8,31,63] T.mixed (by kernel_rfl) ?_))
   refine st_ rfl (fun _ _ _ gq kq=>mv' (gq.1.trans rfl) kq) ?_
   refine st_ rfl (fun _ _ _ gq kq=>mv' (gq.1.trans rfl) kq) ?_
   refine st_ rfl (fun _ _ _ gq kq=>cal0 (φs:= [sl 4 metJ q,int (i:Int)]) (φ:=sl 1 intE (wordTo q i)) ⟨(gq.1.trans rfl),(gq.2.1.trans rfl),trivial⟩ (satj.word_ok q (qj_back hq) i (by omega)) T.ent81 kq) ?_
   refine st_ rfl (fun _ _ _ gq kq=>iPA (gq.1.trans rfl) rfl T.arr56 T.one3 rfl kq) ?_
   refine st_ rfl (fun _ _ _ gq kq=>lP (gq.1.trans rfl) rfl rfl T.one3 kq) ?_
   refine st_ rfl (fun _ _ _ gq kq=>bd (css:= [(2,_),(3,_)]) T.st60 (ex_cons (ex_cons (ex_cons (ex_cons (ex_nil))))) ⟨rfl,rfl,p1 (φ:=sl 1 intE (wordTo q i)) (by exact(gq.1.trans rfl)),⟨rfl,rfl,p1 (φ:=int ((ix q i).s)) (by exact(gq.2.1.trans rfl)),trivial⟩⟩ kq) ?_
   refine pn (sPA (cs':= [bl false,eqv (.slice none 0 0),sl 1 intE (wordTo q i),int ((ix q i).s)]) rfl rfl rfl T.agg60 rfl rfl (nl (th (rt (rt_ (rb (rt_ (rt_ (rb (rt_ ?_))))))))))
   refine kncA 4 1 (sl 2 pairE []) rfl rfl slnil ?_
   exact rE ⟨⟨false,[],wordTo q i,(ix q i).s⟩,⟨fun h=>(nomatch (show false=true from h)),fun _=>⟨sat_no hq hc0 hnacc,rfl,q,i,hq,hc0,rfl,rfl,hdone,hnacc⟩⟩⟩ [.cell 4 60] rfl [agg [bl false,sl 2 pairE [],sl 1 intE (wordTo q i),int ((ix q i).s)]] ⟨.agg rfl rfl T.agg60 rfl rfl,trivial⟩ (rfl) trivial (by first|exact .inr rfl|exact .inl rfl)
  ·try simp at hc1
   have hacc:offM m (ix q i).s.toNat∈acc s (ix q i).t.toNat:=by simpa using hc1
   refine sk (th (sq (rg (fP rfl T.fld55_1 (lP rfl rfl rfl T.one53 (iPA rfl rfl T.arr56 T.one3 rfl (lP rfl rfl rfl T.one3 (iF rfl rfl T.sl53 (by omega) (by first|exact gN (by omega)|exact gI (by omega) (by omega)) (lF rfl rfl T.one85 (fc (slenI 60 rfl) fun hm60=>(lnF rfl T.sl85 (mv (nl (th (bk ?_)))))))))))))))
   have hI1_0:0≤(ix m.states (((ix q i).s).toNat)).length:=by
    first|omega|simp
   have hI1_1:MidJ m s q i 0 q mm:=by
    exact midj_zero hq hsm hdone
   refine lp (κ:=Nat × Value × (List WalkM.Mt) × (List ((Int × Int) × Bool))) (fun p=> [(2,ptr 2 b2 0),(3,ptr 3 b3 0),(4,ptr 4 b4 0),(5,mpv 16 b16),(6,osl 21 p.2.1),(7,int (i:Int)),(9,ptr 9 b9 0),(60,sl 2 pairE (ix m.states (((ix q i).s).toNat))),(61,int ((ix m.states (((ix q i).s).toNat)).length:Int)),(62,int (p.1:Int))]) (fun p=> [(2,cell b2 [sl 1 strE m.actions,sl 1 edgesE m.states]),(3,cell b3 [sl 1 strE s.actions,sl 2 stateE s.states]),(4,cell b4 [bl false,eqv (.slice none 0 0),eqv (.slice none 0 0),int 0]),(8,cell b8 [int ((ix q i).s),int ((ix q i).t)]),(9,cell b9 [sl 1 intE ((ix s.states (((ix q i).t).toNat)).accept),sl 1 intE ((ix s.states (((ix q i).t).toNat)).next)]),(16,mp b16 pairV pairD blV p.2.2.2),(21,own p.2.1 122 4 metJ p.2.2.1)]) (fun p=>(p.1≤(ix m.states (((ix q i).s).toNat)).length)∧(MidJ m s q i p.1 p.2.2.1 p.2.2.2)) (fun p=>(ix m.states (((ix q i).s).toNat)).length- p.1) ⟨0,v,q,mm⟩ ⟨hI1_0,hI1_1⟩ ⟨id,id,id,id,id,id,id,id,id,id,trivial⟩ ⟨⟨rfl,id⟩,⟨rfl,id⟩,⟨rfl,id⟩,⟨rfl,id⟩,⟨rfl,id⟩,⟨rfl,id⟩,⟨rfl,id⟩,trivial⟩ ?_
   intro⟨k1,v2,q2,mm2⟩ hG1
   obtain⟨hk1,hI1⟩:(k1≤(ix m.states (((ix q i).s).toNat)).length)∧(MidJ m s q i k1 q2 mm2):=hG1
   show Ct _ _ _ _ [(2,ptr 2 b2 0),(3,ptr 3 b3 0),(4,ptr 4 b4 0),(5,mpv 16 b16),(6,osl 21 v2),(7,int (i:Int)),(9,ptr 9 b9 0),(60,sl 2 pairE (ix m.states (((ix q i).s).toNat))),(61,int ((ix m.states (((ix q i).s).toNat)).length:Int)),(62,int (k1:Int))] [(2,cell b2 [sl 1 strE m.actions,sl 1 edgesE m.states]),(3,cell b3 [sl 1 strE s.actions,sl 2 stateE s.states]),(4,cell b4 [bl false,eqv (.slice none 0 0),eqv (.slice none 0 0),int 0]),(8,cell b8 [int ((ix q i).s),int ((ix q i).t)]),(9,cell b9 [sl 1 intE ((ix s.states (((ix q i).t).toNat)).accept),sl 1 intE ((ix s.states (((ix q i).t).toNat)).next)]),(16,mp b16 pairV pairD blV mm2),(21,own v2 122 4 metJ q2)] _
   have hq2l:=qj_len hI1.qi
   refine sq (rg (bi rfl rfl b_lss (nl (th (sq ?_)))))
   refine cd rfl (fun hc2=> ?_) (fun hc2=> ?_)
   ·try simp at hc2
    have hek:=hm.ed ((ix q i).s).toNat (by omega) _ (ix_memS hc2)
    have hgo:=edge_go hm hs (x:=(ix q i).s.toNat) (y:=(ix q i).t.toNat) (by omega) (by omega) hacc (ix_memS hc2)
    obtain⟨hgo1,hgo2,hgo3⟩:=hgo
    dsimp only [nxt,edg] at hgo1 hgo2 hgo3 hek
    refine sk (th (sq (bk (sq (rg (iF rfl rfl T.sl85 (by omega) (by first|exact gN (by omega)|exact gI (by omega) (by omega)) (lFA rfl T.agg128 (Nat.le_of_ble_eq_true rfl) (al (key:=11) T.z128 (ex_cons (ex_cons (ex_nil))) fun b11=>(sPA (cs':= [int ((ix (ix m.states (((ix q i).s).toNat)) k1).1),int ((ix (ix m.states (((ix q i).s).toNat)) k1).2)]) rfl rfl rfl T.agg128 rfl rfl (nl (th (sq ?_))))))))))))
    refine drH (nh:=11) [0,1,0,4,0,16,60,124,255,0,1023] [(none,[]),(none,[11]),(none,[]),(none,[9]),(none,[]),(none,[11]),(none,[]),(none,[]),(none,[]),(some 12,[]),(some 12,[12])] T.mixed (by kernel_rfl) (by kernel_rfl) ?_
    refine stv (d:=66) (fun β0=>ptr 11 b11 1) [] rfl (fun β β' hb=>rfl) (fun β0 _ _ _ _ gq gh kq=>fP (gq.1.trans rfl) T.fld128_1 kq) ?_
    refine stv (d:=67) (fun β0=>int ((ix (ix m.states (((ix q i).s).toNat)) k1).2)) [11] rfl (fun β β' hb=>rfl) (fun β0 _ _ _ _ gq gh kq=>lP (gq.1.trans rfl) (gh.1.trans rfl) rfl T.one3 kq) ?_
    refine stv (d:=68) (fun β0=>ptr 9 b9 1) [] rfl (fun β β' hb=>rfl) (fun β0 _ _ _ _ gq gh kq=>fP (gq.1.trans rfl) T.fld69_1 kq) ?_
    refine stv (d:=69) (fun β0=>sl 1 intE ((ix s.states (((ix q i).t).toNat)).next)) [9] rfl (fun β β' hb=>rfl) (fun β0 _ _ _ _ gq gh kq=>lP (gq.1.trans rfl) (gh.1.trans rfl) rfl T.one28 kq) ?_
    refine stv (d:=70) (fun β0=>ptr 11 b11 0) [] rfl (fun β β' hb=>rfl) (fun β0 _ _ _ _ gq gh kq=>fP (gq.1.trans rfl) T.fld128_0 kq) ?_
    refine stv (d:=71) (fun β0=>int ((ix (ix m.states (((ix q i).s).toNat)) k1).1)) [11] rfl (fun β β' hb=>rfl) (fun β0 _ _ _ _ gq gh kq=>lP (gq.1.trans rfl) (gh.1.trans rfl) rfl T.one3 kq) ?_
    refine stv (d:=72) (fun β0=>fp [int (ix ((ix s.states (((ix q i).t).toNat)).next) (((ix (ix m.states (((ix q i).s).toNat)) k1).1).toNat))]) [] rfl (fun β β' hb=>rfl) (fun β0 _ _ _ _ gq gh kq=>iF (gq.1.trans rfl) (gq.2.1.trans rfl) T.sl28 (by omega) (by first|exact gN (by omega)|exact gI (by omega) (by omega)) kq) ?_
    refine stv (d:=73) (fun β0=>int (ix ((ix s.states (((ix q i).t).toNat)).next) (((ix (ix m.states (((ix q i).s).toNat)) k1).1).toNat))) [] rfl (fun β β' hb=>rfl) (fun β0 _ _ _ _ gq gh kq=>lF (gq.1.trans rfl) rfl T.one3 kq) ?_
    refine stv (d:=74) (fun β0=>agg [int ((ix (ix m.states (((ix q i).s).toNat)) k1).2),int (ix ((ix s.states (((ix q i).t).toNat)).next) (((ix (ix m.states (((ix q i).s).toNat)) k1).1).toNat))]) [] rfl (fun β β' hb=>rfl) (fun β0 _ _ _ _ gq gh kq=>bd (css:= [(0,_),(1,_)]) T.st56 (ex_cons (ex_cons (ex_nil))) ⟨rfl,rfl,p1 (φ:=int ((ix (ix m.states (((ix q i).s).toNat)) k1).2)) (by exact(gq.1.trans rfl)),⟨rfl,rfl,p1 (φ:=int (ix ((ix s.states (((ix q i).t).toNat)).next) (((ix (ix m.states (((ix q i).s).toNat)) k1).1).toNat))) (by exact(gq.2.1.trans rfl)),trivial⟩⟩ kq) ?_
    refine sta 12 T.z56 (ex_cons (ex_cons (ex_nil))) ?_
    refine stw 12 (fun β0=>cell (gbk (β0 9)) [int ((ix (ix m.states (((ix q i).s).toNat)) k1).2),int (ix ((ix s.states (((ix q i).t).toNat)).next) (((ix (ix m.states (((ix q i).s).toNat)) k1).1).toNat))]) [12] rfl (fun β β' hb=>by first|rw[hb 9 rfl]|(dsimp only;rw[hb 9 rfl])) (fun β0 _ _ _ _ gq gh kq=>sPA (cs':= [int ((ix (ix m.states (((ix q i).s).toNat)) k1).2),int (ix ((ix s.states (((ix q i).t).toNat)).next) (((ix (ix m.states (((ix q i).s).toNat)) k1).1).toNat))]) (gq.1.trans rfl) (gh.1.trans rfl) (gq.2.1.trans rfl) T.agg56 rfl rfl kq) ?_
    refine pnH fun β0=>(nl (th (sq (rg (mv (lPA rfl rfl T.agg56 rfl (lookup (z:=false) (q:=((ix (ix m.states (((ix q i).s).toNat)) k1).2,ix ((ix s.states (((ix q i).t).toNat)).next) (((ix (ix m.states (((ix q i).s).toNat)) k1).1).toNat))) rfl rfl agg_pair T.map118 ⟨⟨by omega,by omega⟩,⟨by omega,by omega⟩⟩ T.zvb4 (no rfl (nl (th ?_))))))))))
    refine cd rfl (fun hc3=> ?_) (fun hc3=> ?_)
    ·try simp at hc3
     refine sq (rg (mv (lPA rfl rfl T.agg56 rfl (mapUpdate (q:=((ix (ix m.states (((ix q i).s).toNat)) k1).2,ix ((ix s.states (((ix q i).t).toNat)).next) (((ix (ix m.states (((ix q i).s).toNat)) k1).1).toNat))) (u:=true) rfl rfl agg_pair rfl T.map118 ⟨⟨by omega,by omega⟩,⟨by omega,by omega⟩⟩ (nl (th (rg (mv (mv (fP rfl T.fld128_0 (lP rfl rfl rfl T.one3 (bd (css:= [(0,_),(1,_)]) T.st120 (ex_cons (ex_cons (ex_nil))) ⟨rfl,rfl,p1 (φ:=int (i:Int)) rfl,⟨rfl,rfl,p1 (φ:=int ((ix (ix m.states (((ix q i).s).toNat)) k1).1)) rfl,trivial⟩⟩ (lPA rfl rfl T.agg56 rfl (bd (css:= [(0,_),(2,_)]) T.st122 (ex_cons (ex_cons (ex_cons (ex_cons (ex_nil))))) ⟨rfl,rfl,pA (cs:= [int (i:Int),int ((ix (ix m.states (((ix q i).s).toNat)) k1).1)]) rfl,⟨rfl,rfl,pA (cs:= [int ((ix (ix m.states (((ix q i).s).toNat)) k1).2),int (ix ((ix s.states (((ix q i).t).toNat)).next) (((ix (ix m.states (((ix q i).s).toNat)) k1).1).toNat))]) rfl,trivial⟩⟩ (bsE (enc:=metJ) (xs:= [⟨((ix (ix m.states (((ix q i).s).toNat)) k1).2),(ix ((ix s.states (((ix q i).t).toNat)).next) (((ix (ix m.states (((ix q i).s).toNat)) k1).1).toNat)),(i:Int),((ix (ix m.states (((ix q i).s).toNat)) k1).1)⟩]) (css:= [[int (i:Int),int ((ix (ix m.states (((ix q i).s).toNat)) k1).1),int ((ix (ix m.states (((ix q i).s).toNat)) k1).2),int (ix ((ix s.states (((ix q i).t).toNat)).next) (((ix (ix m.states (((ix q i).s).toNat)) k1).1).toNat))]]) T.mk123 ⟨rfl,rfl,pA (cs:= [int (i:Int),int ((ix (ix m.states (((ix q i).s).toNat)) k1).1),int ((ix (ix m.states (((ix q i).s).toNat)) k1).2),int (ix ((ix s.states (((ix q i).t).toNat)).next) (((ix (ix m.states (((ix q i).s).toNat)) k1).1).toNat))]) rfl,trivial⟩ rfl rfl rfl rfl (ap (key:=21) (zs:= [⟨((ix (ix m.states (((ix q i).s).toNat)) k1).2),(ix ((ix s.states (((ix q i).t).toNat)).next) (((ix (ix m.states (((ix q i).s).toNat)) k1).1).toNat)),(i:Int),((ix (ix m.states (((ix q i).s).toNat)) k1).1)⟩]) osl_eq rfl rfl rfl T.mk123 (by unfold maxL at*;simp;omega) (by unfold maxL at*;simp;omega) fun v89=>(ag (nl (eb (th (rg (bi rfl rfl (b_add (by unfold I64;omega)) (mv (nl ?_))))))))))))))))))))))))
     have hN0:(k1+1)≤(ix m.states (((ix q i).s).toNat)).length:=by
      first|omega|simp_all
     have hN1:MidJ m s q i (k1+1) (q2++ [⟨((ix (ix m.states (((ix q i).s).toNat)) k1).2),(ix ((ix s.states (((ix q i).t).toNat)).next) (((ix (ix m.states (((ix q i).s).toNat)) k1).1).toNat)),(i:Int),((ix (ix m.states (((ix q i).s).toNat)) k1).1)⟩]) (mset mm2 ((ix (ix m.states (((ix q i).s).toNat)) k1).2,ix ((ix s.states (((ix q i).t).toNat)).next) (((ix (ix m.states (((ix q i).s).toNat)) k1).1).toNat)) true):=by
      exact midj_push hm hs hI1 hc0 hacc hc2 rfl rfl (by simpa using hc3)
     exact ln (⟨k1+1,v89,q2++ [⟨((ix (ix m.states (((ix q i).s).toNat)) k1).2),(ix ((ix s.states (((ix q i).t).toNat)).next) (((ix (ix m.states (((ix q i).s).toNat)) k1).1).toNat)),(i:Int),((ix (ix m.states (((ix q i).s).toNat)) k1).1)⟩],mset mm2 ((ix (ix m.states (((ix q i).s).toNat)) k1).2,ix ((ix s.states (((ix q i).t).toNat)).next) (((ix (ix m.states (((ix q i).s).toNat)) k1).1).toNat)) true⟩:Nat × Value × (List WalkM.Mt) × (List ((Int × Int) × Bool))) ⟨hN0,hN1⟩ (by first|omega|(dsimp only;omega)) ⟨id,id,id,id,id,id,id,id,id,id,trivial⟩ ⟨⟨rfl,id⟩,⟨rfl,id⟩,⟨rfl,id⟩,⟨rfl,id⟩,⟨rfl,id⟩,⟨rfl,id⟩,⟨rfl,id⟩,trivial⟩
    ·try simp at hc3
     refine sk (eb (th (rg (bi rfl rfl (b_add (by unfold I64;omega)) (mv (nl ?_))))))
     have hN0:(k1+1)≤(ix m.states (((ix q i).s).toNat)).length:=by
      first|omega|simp_all
     have hN1:MidJ m s q i (k1+1) q2 mm2:=by
      exact midj_skip hI1 hc2 rfl rfl (by simpa using hc3)
     exact ln (⟨k1+1,v2,q2,mm2⟩:Nat × Value × (List WalkM.Mt) × (List ((Int × Int) × Bool))) ⟨hN0,hN1⟩ (by first|omega|(dsimp only;omega)) ⟨id,id,id,id,id,id,id,id,id,id,trivial⟩ ⟨⟨rfl,id⟩,⟨rfl,id⟩,⟨rfl,id⟩,⟨rfl,id⟩,⟨rfl,id⟩,⟨rfl,id⟩,⟨rfl,id⟩,trivial⟩
   ·try simp at hc2
    refine ex (xt_ (xt_ (xb (eb (th (rg (mv (bi rfl rfl (b_add (by unfold I64;omega)) (ag (nl ?_))))))))))
    have hN0:QJ m s q2∧smap mm2 q2∧(i+1)≤q2.length∧∀k,k<(i+1)→DoneJ m s q2 k:=by
     exact midj_end hI1 hc0 hacc (by omega)
    exact ln (⟨i+1,v2,q2,mm2⟩:Nat × Value × (List WalkM.Mt) × (List ((Int × Int) × Bool))) hN0 (by first|omega|(dsimp only;omega)) ⟨id,id,id,id,id,id,trivial⟩ ⟨⟨rfl,id⟩,⟨rfl,id⟩,⟨rfl,id⟩,⟨rfl,id⟩,⟨rfl,id⟩,trivial⟩
 ·try simp at hc0
  refine ex (xt_ (xt_ (xb (th (sq (rg (bd (css:= [(0,_)]) T.st60 (ex_cons (ex_cons (ex_cons (ex_cons (ex_nil))))) ⟨rfl,rfl,p1 (φ:=bl true) rfl,trivial⟩ (al (key:=13) T.z60 (ex_cons (ex_cons (ex_cons (ex_cons (ex_nil))))) fun b13=>(sPA (cs':= [bl true,eqv (.slice none 0 0),eqv (.slice none 0 0),int 0]) rfl rfl rfl T.agg60 rfl rfl (nl (th (sq (sq (rg (mv (lnO rfl rfl T.sl123 (mv (nl (th (bk ?_))))))))))))))))))))
  refine nwC 130 56 2 pairE (kncC 13 1 (osl 130 (.slice none 0 0)) rfl rfl eq_osl ?_)
  have hI2_0:0≤q.length:=by
   first|omega|simp
  have hI2_1:([]:List (Int × Int))=(q.take 0).map pairOf:=by
   rfl
  refine lp (κ:=Nat × Value × (List (Int × Int))) (fun p=> [(4,ptr 4 b4 0),(13,ptr 13 b13 0),(92,osl 21 v),(93,int (q.length:Int)),(94,int (p.1:Int))]) (fun p=> [(2,cell b2 [sl 1 strE m.actions,sl 1 edgesE m.states]),(3,cell b3 [sl 1 strE s.actions,sl 2 stateE s.states]),(4,cell b4 [bl false,eqv (.slice none 0 0),eqv (.slice none 0 0),int 0]),(13,cell b13 [bl true,osl 130 p.2.1,eqv (.slice none 0 0),int 0]),(16,mp b16 pairV pairD blV mm),(21,own v 122 4 metJ q),(130,own p.2.1 56 2 pairE p.2.2)]) (fun p=>(p.1≤q.length)∧(p.2.2=(q.take p.1).map pairOf)) (fun p=>q.length- p.1) ⟨0,(.slice none 0 0),([]:List (Int × Int))⟩ ⟨hI2_0,hI2_1⟩ ⟨id,id,id,id,id,trivial⟩ ⟨⟨rfl,id⟩,⟨rfl,id⟩,⟨rfl,id⟩,⟨rfl,id⟩,⟨rfl,id⟩,⟨rfl,id⟩,⟨rfl,id⟩,trivial⟩ ?_
  intro⟨k2,vp,prs⟩ hG2
  obtain⟨hk2,hI2⟩:(k2≤q.length)∧(prs=(q.take k2).map pairOf):=hG2
  show Ct _ _ _ _ [(4,ptr 4 b4 0),(13,ptr 13 b13 0),(92,osl 21 v),(93,int (q.length:Int)),(94,int (k2:Int))] [(2,cell b2 [sl 1 strE m.actions,sl 1 edgesE m.states]),(3,cell b3 [sl 1 strE s.actions,sl 2 stateE s.states]),(4,cell b4 [bl false,eqv (.slice none 0 0),eqv (.slice none 0 0),int 0]),(13,cell b13 [bl true,osl 130 vp,eqv (.slice none 0 0),int 0]),(16,mp b16 pairV pairD blV mm),(21,own v 122 4 metJ q),(130,own vp 56 2 pairE prs)] _
  have hpl:prs.length≤k2:=by rw[hI2];simp;omega
  refine sq (rg (bi rfl rfl b_lss (nl (th (sq ?_)))))
  refine cd rfl (fun hc4=> ?_) (fun hc4=> ?_)
  ·try simp at hc4
   refine sk (th (sq (bk (sq (rg (iO rfl rfl rfl T.sl123 (by omega) (by omega) (lOA rfl rfl (by first|exact gN (by omega)|exact gI (by omega) (by omega)) T.agg122 (by decide) (al (key:=15) T.z122 (ex_cons (ex_cons (ex_cons (ex_cons (ex_nil))))) fun b15=>(sPA (cs':= [int ((ix q k2).before),int ((ix q k2).action),int ((ix q k2).s),int ((ix q k2).t)]) rfl rfl rfl T.agg122 rfl rfl (nl (th (rg (fP rfl T.fld60_1 (lP rfl rfl rfl T.one58 (fP rfl T.fld122_1 (lPA rfl rfl T.agg56 rfl (bs (css:= [[int ((ix q k2).s),int ((ix q k2).t)]]) T.mk58 ⟨rfl,rfl,pA (cs:= [int ((ix q k2).s),int ((ix q k2).t)]) rfl,trivial⟩ rfl rfl rfl (ap (key:=130) (zs:= [((ix q k2).s,(ix q k2).t)]) osl_eq rfl rfl rfl T.mk58 (by unfold maxL at*;simp;omega) (by unfold maxL at*;simp;omega) fun v103=>(fP rfl T.fld60_1 (storePO rfl rfl rfl rfl T.one58 rfl (nl (eb (th (rg (bi rfl rfl (b_add (by unfold I64;omega)) (mv (nl ?_)))))))))))))))))))))))))))
   have hN0:(k2+1)≤q.length:=by
    first|omega|simp_all
   have hN1:(prs++ [((ix q k2).s,(ix q k2).t)])=(q.take (k2+1)).map pairOf:=by
    rw[hI2,take_s hc4,List.map_append];rfl
   exact ln (⟨k2+1,v103,prs++ [((ix q k2).s,(ix q k2).t)]⟩:Nat × Value × (List (Int × Int))) ⟨hN0,hN1⟩ (by first|omega|(dsimp only;omega)) ⟨id,id,id,id,id,trivial⟩ ⟨⟨rfl,id⟩,⟨rfl,id⟩,⟨rfl,id⟩,⟨rfl,id⟩,⟨rfl,id⟩,⟨rfl,id⟩,⟨rfl,id⟩,trivial⟩
  ·try simp at hc4
   refine ex (xt_ (xt_ (xb (th (sq (rg (fP rfl T.fld60_1 (lP rfl rfl rfl T.one58 ?_))))))))
   have hbp:∀p∈prs,bdP p:=by rw[hI2,show k2=q.length by omega,List.take_length];exact sat_bd hm hs hq
   refine cal (Hi:= [(130,own vp 56 2 pairE prs)]) (φs:= [osl 5 vp,eqv (.func (.func 83) #[] #[])]) ⟨osl_is.trans osl_is.symm,rfl,trivial⟩ (rekeyIO 5 130 (sortE.SortcmpJ_ok vp prs (by assumption))) T.ent82 ⟨⟨rfl,id⟩,trivial⟩ fun _ _=>(nl (th (sq (rg (fzc 13 130 1 rfl rfl rfl rfl (lPA rfl rfl T.agg60 rfl (sPA (cs':= [bl true,sl 2 pairE (sortP prs),eqv (.slice none 0 0),int 0]) rfl rfl rfl T.agg60 rfl rfl (nl (th (rt ?_))))))))))
   refine kncA 4 2 (sl 1 intE []) rfl rfl slnil ?_
   exact rE ⟨⟨true,sortP prs,[],0⟩,⟨fun _=>⟨sat_yes hm hs hq (fun k hk=>hdone k (by omega)),rfl,rfl,q,hq,fun k hk=>hdone k (by omega),by rw[hI2,show k2=q.length by omega,List.take_length]⟩,fun h=>(nomatch (show true=false from h))⟩⟩ [.cell 4 60] rfl [agg [bl true,sl 2 pairE (sortP prs),sl 1 intE [],int 0]] ⟨.agg rfl rfl T.agg60 rfl rfl,trivial⟩ (rfl) trivial (by first|exact .inr rfl|exact .inl rfl)
theorem Satisfies_ok (m:SSys) (s:SSpec) (hsm:smallSpec s):
 AL.Fn Tryd.prog 28 [sys m,spec s] [] (ι:= { v:VJ//SatOK m s v }) (fun _ i=>tup [verJ i.1,int (fineSE m s)]) (fun _=> []):=by
 refine fnI Tryd.func28 rfl rfl (fun w0 F0=> ?_)
 refine fcC (inhS 0 rfl) (fun hS0=> ?_)
 obtain⟨hma0,hms0,hme0⟩:=sys_lens hS0
 refine fcC (inhS 1 rfl) (fun hS1=> ?_)
 obtain⟨hsa1,hss1,hse1⟩:=spec_lens hS1
 refine sq (rg (bx (key:=2) (cs:= [sl 1 strE m.actions,sl 1 edgesE m.states]) rfl fun b2=>(bx (key:=3) (cs:= [sl 1 strE s.actions,sl 2 stateE s.states]) rfl fun b3=>(al (key:=4) T.z60 (ex_cons (ex_cons (ex_cons (ex_cons (ex_nil))))) fun b4=>(ag (nl (th (sq (sq (rg (lPA rfl rfl T.agg55 rfl (lPA rfl rfl T.agg25 rfl (cal0 (φs:= [agg [sl 1 strE m.actions,sl 1 edgesE m.states],agg [sl 1 strE s.actions,sl 2 stateE s.states]]) (φ:=int (fineSE m s)) ⟨rfl,rfl,trivial⟩ (satj.Fine_ok m s (by assumption)) T.ent51 (ag (nl (th (sq (rg (mv (bi rfl rfl b_neq (nl (th ?_))))))))))))))))))))))
 refine cd rfl (fun hc0=> ?_) (fun hc0=> ?_)
 ·try simp at hc0
  refine sq (rg (bd (css:= []) T.st60 (ex_cons (ex_cons (ex_cons (ex_cons (ex_nil))))) trivial (mv (sPA (cs':= [bl false,eqv (.slice none 0 0),eqv (.slice none 0 0),int 0]) rfl rfl rfl T.agg60 rfl rfl (ag (nl (th (rt (rt_ ?_)))))))))
  refine kncA 4 1 (sl 2 pairE []) rfl rfl slnil ?_
  refine kncA 4 2 (sl 1 intE []) rfl rfl slnil ?_
  exact rE ⟨⟨false,[],[],0⟩,⟨fun h=>absurd h hc0,fun _=>rfl⟩⟩ [.cell 4 60,.tmp 5] rfl [agg [bl false,sl 2 pairE [],sl 1 intE [],int 0],int (fineSE m s)] ⟨.agg rfl rfl T.agg60 rfl rfl,.tmp rfl,trivial⟩ (rfl) trivial (by first|exact .inr rfl|exact .inl rfl)
 ·try simp at hc0
  obtain⟨hmv,hsv,hac⟩:=fineSE_ok hc0
  have hm:=sysOK_ok hmv
  have hs:=okSpec_of hsv
  refine sk (th (sq (rg (lPA rfl rfl T.agg55 rfl (lPA rfl rfl T.agg25 rfl (cl (satj.Judge_ok m (by assumption) s (by assumption)) T.ent52 trivial fun N16 i16=>(sPA (cs':= [bl i16.1.holds,sl 2 pairE i16.1.pairs,sl 1 intE i16.1.word,int i16.1.state]) rfl rfl rfl T.agg60 rfl rfl (ag (nl (th (rt ?_)))))))))))
  have hr0:(0:Int)=(fineSE m s):=by
   exact hc0.symm
  have hall:∀x0,0=x0→resAV [agg [bl i16.1.holds,sl 2 pairE i16.1.pairs,sl 1 intE i16.1.word,int i16.1.state],int 0]=resAV [agg [bl i16.1.holds,sl 2 pairE i16.1.pairs,sl 1 intE i16.1.word,int i16.1.state],int x0]:=by rintro _ rfl;rfl
  exact rE ⟨i16.1,⟨fun _=>i16.2,fun h=>absurd hc0 h⟩⟩ [.cell 4 60,.tmp 5] rfl [agg [bl i16.1.holds,sl 2 pairE i16.1.pairs,sl 1 intE i16.1.word,int i16.1.state],int 0] ⟨.agg rfl rfl T.agg60 rfl rfl,.tmp rfl,trivial⟩ (hall _ hr0) trivial (by first|exact .inr rfl|exact .inl rfl)
end satj
end Go.Proofs.YtolpjmllmlahfaaDoor
namespace Go.Proofs.YtolpjmllmlahfaaDoor
open AL Go
set_option maxRecDepth 100000
set_option linter.all false
open ref01 ref03 ref04 ref06 prog prog2 prog3 prog10 prog11 prog12 prog13 prog14 prog15 prog17 starts Part RoundM TurnM Itoa OwnM BisM BisM4 BisM5 BisM6 WalkM StepM WitM JudgM ValidM refw judg wit refj sysw satj lstu
abbrev verX (b:Bool):AV:=agg [bl b,slx 2 pairE,slx 1 intE,intx]
theorem verJ_le {v:VJ} {b:Bool} (hb:v.holds=b) {w:World} {F:Fz} {u:Value} (h:(verJ v).p w F u):(verX b).p w F u:=by
 subst hb
 exact agg_le (cs:= [bl v.holds,sl 2 pairE v.pairs,ints v.word,int v.state]) (ds:= [bl v.holds,slx 2 pairE,slx 1 intE,intx]) ⟨id,sl_slx,sl_slx,int_intx,trivial⟩ h
theorem fine_least {m:SSys} {s:SSpec} (h:specOK s=true):fineSE m (leastR s).1=fineSE m s:=by
 unfold fineSE
 rw[h,least_valid h,least_acts (okSpec_of h)]
theorem sat_least_eq {m:SSys} {s:SSpec} (h:specOK s=true):satB m (leastR s).1=satB m s:=by
 unfold satB
 rw[fine_least h]
 congr 1
 have:SatM m (leastR s).1↔SatM m s:=(sat_least (okSpec_of h) (off_ok m)).symm
 simp[this]
theorem same_no {m:SSys} {s:SSpec} (h:specOK s=true):(((decide (fineSE m s≠fineSE m (lstOf s).1))||(satB m s !=satB m (lstOf s).1))||(decide (((clsOf s).length:Int)≠(s.states.length:Int))))=false:=by
 rw[(lst_eq h).1,fine_least h,sat_least_eq h]
 unfold clsOf
 rw[if_pos h,classes_len]
 simp
theorem fromE_ok {s:SSpec} {x:Int} (h:fromE s x=0):specOK s=true∧0≤x∧x<(s.states.length:Int):=by
 unfold fromE at h
 split at h
 ·next g=>
  split at h
  ·next g2=>exact⟨g,g2⟩
  ·exact absurd h (by decide)
 ·exact absurd h (by decide)
theorem from_same {s:SSpec} {x y:Int} (h:specOK s=true) (x0:0≤x) (hx:x<(s.states.length:Int)) (y0:0≤y) (hy:y<(s.states.length:Int)):(decide (ix (clsOf s) x.toNat=ix (clsOf s) y.toNat)==decide (fromS s x=fromS s y))=true:=by
 have:=from_iff (okSpec_of h) x0 hx y0 hy
 unfold clsOf fromS
 rw[if_pos h,if_pos ⟨h,x0,hx⟩,if_pos ⟨h,y0,hy⟩]
 simp[this]
theorem few_size {m:SSys} (h:fewM m 500=true):sizeM m≤500:=by
 unfold fewM at h;simp at h;omega
namespace T
theorem ent27:Ent Tryd.prog 27:=ent_of (by kernel_rfl)
theorem ent29:Ent Tryd.prog 29:=ent_of (by kernel_rfl)
theorem ent28:Ent Tryd.prog 28:=ent_of (by kernel_rfl)
theorem fld60_0:FieldAt Tryd.prog 60 0 0:=fieldAt_of (by kernel_rfl)
end T
namespace lsts
theorem satX {m:SSys} {s:SSpec} (i: { v:VJ//SatOK m s v }) {w:World} {F:Fz} {v:Value} (h:(tup [verJ i.1,int (fineSE m s)]).p w F v):(tup [verX (satB m s),int (fineSE m s)]).p w F v:=
 tup_le (cs:= [verJ i.1,int (fineSE m s)]) (ds:= [verX (satB m s),int (fineSE m s)]) ⟨verJ_le (holds_satB i.2),id,trivial⟩ h
theorem LeastSame_ok (m:SSys) (s:SSpec) (hsm:smallSpec s) (x y:Int):
 Fn0 Tryd.prog 7 [tabbed (sys m),spec s,agg [int x,int y]] (bl true):=by
 refine fnI Tryd.func7 rfl rfl (fun w0 F0=> ?_)
 have hzs:=lst_size s
 refine tbI 0 9999 rfl ?_
 refine tbJC (ψ:=tab) 9999 997 rfl ?_
 refine fcC (inhS 0 rfl) (fun hS0=> ?_)
 obtain⟨hma0,hms0,hme0⟩:=sys_lens hS0
 refine fcC (inhS 1 rfl) (fun hS1=> ?_)
 obtain⟨hsa1,hss1,hse1⟩:=spec_lens hS1
 refine sq (rg (bx (key:=3) (cs:= [sl 1 strE m.actions,sl 1 edgesE m.states]) rfl fun b3=>(bx (key:=4) (cs:= [sl 1 strE s.actions,sl 2 stateE s.states]) rfl fun b4=>(bx (key:=5) (cs:= [int x,int y]) rfl fun b5=>(ag (nl (th (sq (sq (rg (lPA rfl rfl T.agg25 rfl (cal0 (φs:= [agg [sl 1 strE s.actions,sl 2 stateE s.states]]) (φ:=bl (lightS s)) ⟨rfl,trivial⟩ (prog14.light_ok s) T.ent8 (no rfl (mv ?_))))))))))))))
 apply gOr (t:=25) (pd:=29) rfl
 rotate_left
 ·intro hg0 fin
  have hg0':=hg0
  try simp at hg0'
  exact gy rfl rfl rfl hg0 (lPA rfl rfl T.agg55 rfl (gy rfl rfl rfl hg0 (cal0 (φs:= [agg [sl 1 strE m.actions,sl 1 edgesE m.states],int 500]) (φ:=bl (fewM m 500)) ⟨rfl,rfl,trivial⟩ (sysw.Few_ok m 500 (by omega)) T.ent27 (gy rfl rfl rfl hg0 (no rfl (pkF rfl hg0 rfl (drp (X:= [(28,_),(27,_),(26,_)]) ⟨rfl,rfl,rfl,trivial⟩ (fin))))))))
 ·intro hg0 fin
  exact gn rfl rfl rfl hg0 rfl rfl (gn rfl rfl rfl hg0 rfl rfl (gn rfl rfl rfl hg0 rfl rfl (pkT rfl hg0 rfl (drp (X:= [(28,_),(27,_),(26,_)]) ⟨rfl,rfl,rfl,trivial⟩ (fin)))))
 refine nl (th ?_)
 refine cd rfl (fun hc0=> ?_) (fun hc0=> ?_)
 ·try simp at hc0
  refine sq (rg (calT (ψ:=tab) (φs:= []) (φ:=bl true) trivial (prog14.awake_ok) T.ent9 9999 rfl rfl (ag (nl (th (rt (rt_ ?_)))))))
  exact rE () [.tmp 6] rfl [bl true] ⟨.tmp rfl,trivial⟩ (rfl) trivial (by first|exact .inr rfl|exact .inl rfl)
 ·try simp at hc0
  have hsz:=light_size hc0.1
  have hmz:=few_size hc0.2
  refine sk (th (sq (rg (lPA rfl rfl T.agg25 rfl (calW (φs:= [agg [sl 1 strE s.actions,sl 2 stateE s.states]]) (φ:=agg [sl 1 strE s.actions,sl 2 stateE s.states]) ⟨rfl,trivial⟩ (ref03.Copy_ok s (by omega)) T.ent14 (fun N hN=>fun h=>agg_le (cs:= [fre N (sl 1 strE s.actions),fre N (sl 2 stateE s.states)]) (ds:= [sl 1 strE s.actions,sl 2 stateE s.states]) ⟨fun h=>nw_le h,fun h=>nw_le h,trivial⟩ h) (tbU (ψ:=tab) 33 9999 rfl rfl (calW (φs:= [both (agg [sl 1 strE s.actions,sl 2 stateE s.states]) tab]) (φ:=tup [agg [sl 1 strE (((lstOf s).1).actions),sl 2 stateE (((lstOf s).1).states)],sl 1 intE ((lstOf s).2),int (errOf s)]) ⟨rfl,trivial⟩ (prog13.Least_ok s (by assumption)) T.ent15 (fun N hN=>fun h=>tup_le (cs:= [agg [fre N (sl 1 strE (((lstOf s).1).actions)),fre N (sl 2 stateE (((lstOf s).1).states))],fre N (sl 1 intE ((lstOf s).2)),int (errOf s)]) (ds:= [agg [sl 1 strE (((lstOf s).1).actions),sl 2 stateE (((lstOf s).1).states)],sl 1 intE ((lstOf s).2),int (errOf s)]) ⟨fun h=>agg_le (cs:= [fre N (sl 1 strE (((lstOf s).1).actions)),fre N (sl 2 stateE (((lstOf s).1).states))]) (ds:= [sl 1 strE (((lstOf s).1).actions),sl 2 stateE (((lstOf s).1).states)]) ⟨fun h=>nw_le h,fun h=>nw_le h,trivial⟩ h,fun h=>nw_le h,fun h=>h,trivial⟩ h) (mv (xt rfl rfl (xt rfl rfl (xt rfl rfl (al (key:=7) T.z25 (ex_cons (ex_cons (ex_nil))) fun b7=>(sPA (cs':= [sl 1 strE (((lstOf s).1).actions),sl 2 stateE (((lstOf s).1).states)]) rfl rfl rfl T.agg25 rfl rfl (ag (ag (nl (th (sq (rg (lPA rfl rfl T.agg25 rfl (calW (φs:= [agg [sl 1 strE s.actions,sl 2 stateE s.states]]) (φ:=agg [sl 1 strE s.actions,sl 2 stateE s.states]) ⟨rfl,trivial⟩ (ref03.Copy_ok s (by omega)) T.ent14 (fun N hN=>fun h=>agg_le (cs:= [fre N (sl 1 strE s.actions),fre N (sl 2 stateE s.states)]) (ds:= [sl 1 strE s.actions,sl 2 stateE s.states]) ⟨fun h=>nw_le h,fun h=>nw_le h,trivial⟩ h) (tbU (ψ:=tab) 40 9999 rfl rfl (calW (φs:= [both (agg [sl 1 strE s.actions,sl 2 stateE s.states]) tab]) (φ:=tup [sl 1 intE (clsOf s),int (errOf s)]) ⟨rfl,trivial⟩ (prog13.Classes_ok s (by assumption)) T.ent13 (fun N hN=>fun h=>tup_le (cs:= [fre N (sl 1 intE (clsOf s)),int (errOf s)]) (ds:= [sl 1 intE (clsOf s),int (errOf s)]) ⟨fun h=>nw_le h,fun h=>h,trivial⟩ h) (mv (xt rfl rfl (xt rfl rfl (ag (ag (nl (th (sq (sq (rg (mv (bi rfl rfl b_neq (mv ?_))))))))))))))))))))))))))))))))))))
  apply gOr (t:=46) (pd:=49) rfl
  rotate_left
  ·intro hg1 fin
   have hg1':=hg1
   try simp at hg1'
   exact gy rfl rfl rfl hg1 (mv (gy rfl rfl rfl hg1 (bi rfl rfl b_neq (pkF rfl hg1 rfl (drp (X:= [(48,_),(47,_)]) ⟨rfl,rfl,trivial⟩ (fin))))))
  ·intro hg1 fin
   exact gn rfl rfl rfl hg1 rfl rfl (gn rfl rfl rfl hg1 rfl rfl (pkT rfl hg1 rfl (drp (X:= [(48,_),(47,_)]) ⟨rfl,rfl,trivial⟩ (fin))))
  refine nl (th ?_)
  refine cd rfl (fun hc1=> ?_) (fun hc1=> ?_)
  ·try simp at hc1
   have hee:True:=trivial
   refine sq (rg (mv (mv (bi rfl rfl b_eql (mv ?_)))))
   apply gAnd (t:=53) (pd:=55) rfl
   rotate_left
   ·intro hg2 fin
    have hg2':=hg2
    try simp at hg2'
    exact gy rfl rfl rfl hg2 (calT (ψ:=tab) (φs:= []) (φ:=bl true) trivial (prog14.awake_ok) T.ent9 9999 rfl rfl (pkT rfl hg2 rfl (drp (X:= [(54,_)]) ⟨rfl,trivial⟩ (fin))))
   ·intro hg2 fin
    exact gn rfl rfl rfl hg2 rfl rfl (pkF rfl hg2 rfl (drp (X:= [(54,_)]) ⟨rfl,trivial⟩ (fin)))
   refine ag (nl (th (rt (rt_ ?_))))
   have hr0:((decide ((errOf s)=(errOf s)))&&true)=true:=by
    simp
   have hall:∀x0,((decide ((errOf s)=(errOf s)))&&true)=x0→resAV [bl ((decide ((errOf s)=(errOf s)))&&true)]=resAV [bl x0]:=by rintro _ rfl;rfl
   exact rE () [.tmp 6] rfl [bl ((decide ((errOf s)=(errOf s)))&&true)] ⟨.tmp rfl,trivial⟩ (hall _ hr0) trivial (by first|exact .inr rfl|exact .inl rfl)
  ·try simp at hc1
   have hv:specOK s=true:=by
    have:=hc1
    unfold errOf at this
    by_cases e:specOK s=true
    ·exact e
    ·rw[if_neg e] at this;simp at this
   have hlm:=lst_small hv
   refine cutE (E':= [(3,ptr 3 b3 0),(4,ptr 4 b4 0),(5,ptr 5 b5 0),(6,bl false),(7,ptr 7 b7 0),(10,sl 1 intE (clsOf s)),(9999,tab)]) (H':= [(3,cell b3 [sl 1 strE m.actions,sl 1 edgesE m.states]),(4,cell b4 [sl 1 strE s.actions,sl 2 stateE s.states]),(5,cell b5 [int x,int y]),(7,cell b7 [sl 1 strE (((lstOf s).1).actions),sl 2 stateE (((lstOf s).1).states)]),(997,ambH tab)]) ⟨id,id,id,id,id,id,id,trivial⟩ ⟨⟨rfl,id⟩,⟨rfl,id⟩,⟨rfl,id⟩,⟨rfl,id⟩,⟨rfl,id⟩,trivial⟩ ?_
   refine sk (th (sq ?_))
   refine drH (nh:=11) [0,1,0,7,15,31,63,63,0,383,1023] [(none,[3]),(none,[]),(none,[4]),(none,[]),(none,[]),(none,[]),(none,[]),(none,[]),(some 12,[]),(some 12,[12]),(none,[])] T.mixed (by kernel_rfl) (by kernel_rfl) ?_
   refine stv (d:=57) (fun β0=>agg [sl 1 strE m.actions,sl 1 edgesE m.states]) [3] rfl (fun β β' hb=>rfl) (fun β0 _ _ _ _ gq gh kq=>lPA (gq.1.trans rfl) (gh.1.trans rfl) T.agg55 rfl kq) ?_
   refine stv (d:=58) (fun β0=>agg [sl 1 strE m.actions,sl 1 edgesE m.states]) [] rfl (fun β β' hb=>rfl) (fun β0 _ _ _ _ gq gh kq=>calW (φs:= [agg [sl 1 strE m.actions,sl 1 edgesE m.states]]) (φ:=agg [sl 1 strE m.actions,sl 1 edgesE m.states]) ⟨(gq.1.trans rfl),trivial⟩ (sysw.Copy_ok m (by omega)) T.ent29 (fun N hN=>fun h=>agg_le (cs:= [fre N (sl 1 strE m.actions),fre N (sl 1 edgesE m.states)]) (ds:= [sl 1 strE m.actions,sl 1 edgesE m.states]) ⟨fun h=>nw_le h,fun h=>nw_le h,trivial⟩ h) kq) ?_
   refine stv (d:=59) (fun β0=>agg [sl 1 strE s.actions,sl 2 stateE s.states]) [4] rfl (fun β β' hb=>rfl) (fun β0 _ _ _ _ gq gh kq=>lPA (gq.1.trans rfl) (gh.1.trans rfl) T.agg25 rfl kq) ?_
   refine stv (d:=60) (fun β0=>agg [sl 1 strE s.actions,sl 2 stateE s.states]) [] rfl (fun β β' hb=>rfl) (fun β0 _ _ _ _ gq gh kq=>calW (φs:= [agg [sl 1 strE s.actions,sl 2 stateE s.states]]) (φ:=agg [sl 1 strE s.actions,sl 2 stateE s.states]) ⟨(gq.1.trans rfl),trivial⟩ (ref03.Copy_ok s (by omega)) T.ent14 (fun N hN=>fun h=>agg_le (cs:= [fre N (sl 1 strE s.actions),fre N (sl 2 stateE s.states)]) (ds:= [sl 1 strE s.actions,sl 2 stateE s.states]) ⟨fun h=>nw_le h,fun h=>nw_le h,trivial⟩ h) kq) ?_
   refine stv (d:=61) (fun β0=>tup [agg [bl (satB m s),slx 2 pairE,slx 1 intE,intx],int (fineSE m s)]) [] rfl (fun β β' hb=>rfl) (fun β0 _ _ _ _ gq gh kq=>cal0 (φs:= [agg [sl 1 strE m.actions,sl 1 edgesE m.states],agg [sl 1 strE s.actions,sl 2 stateE s.states]]) (φ:=tup [agg [bl (satB m s),slx 2 pairE,slx 1 intE,intx],int (fineSE m s)]) ⟨(gq.1.trans rfl),(gq.2.1.trans rfl),trivial⟩ (fn_weak (satj.Satisfies_ok m s (by assumption)) (fun _ i=>satX i)) T.ent28 kq) ?_
   refine stv (d:=56) (fun β0=>tup [agg [bl (satB m s),slx 2 pairE,slx 1 intE,intx],int (fineSE m s)]) [] rfl (fun β β' hb=>rfl) (fun β0 _ _ _ _ gq gh kq=>mv' (gq.1.trans rfl) kq) ?_
   refine stv (d:=62) (fun β0=>agg [bl (satB m s),slx 2 pairE,slx 1 intE,intx]) [] rfl (fun β β' hb=>rfl) (fun β0 _ _ _ _ gq gh kq=>xt (gq.1.trans rfl) rfl kq) ?_
   refine stv (d:=63) (fun β0=>int (fineSE m s)) [] rfl (fun β β' hb=>rfl) (fun β0 _ _ _ _ gq gh kq=>xt (gq.1.trans rfl) rfl kq) ?_
   refine sta 12 T.z60 (ex_cons (ex_cons (ex_cons (ex_cons (ex_nil))))) ?_
   refine stw 12 (fun β0=>cell (gbk (β0 8)) [bl (satB m s),slx 2 pairE,slx 1 intE,intx]) [12] rfl (fun β β' hb=>by first|rw[hb 8 rfl]|(dsimp only;rw[hb 8 rfl])) (fun β0 _ _ _ _ gq gh kq=>sPA (cs':= [bl (satB m s),slx 2 pairE,slx 1 intE,intx]) (gq.1.trans rfl) (gh.1.trans rfl) (gq.2.1.trans rfl) T.agg60 rfl rfl kq) ?_
   refine stv (d:=13) (fun β0=>int (fineSE m s)) [] rfl (fun β β' hb=>rfl) (fun β0 _ _ _ _ gq gh kq=>ag' (gq.1.trans rfl) kq) ?_
   refine pnH fun β0=>(nl (th (sq ?_)))
   refine drH (nh:=11) [0,1,0,7,15,31,63,63,0,383,1023] [(none,[3]),(none,[]),(none,[7]),(none,[]),(none,[]),(none,[]),(none,[]),(none,[]),(some 14,[]),(some 14,[14]),(none,[])] T.mixed (by kernel_rfl) (by kernel_rfl) ?_
   refine stv (d:=65) (fun β1=>agg [sl 1 strE m.actions,sl 1 edgesE m.states]) [3] rfl (fun β β' hb=>rfl) (fun β1 _ _ _ _ gq gh kq=>lPA (gq.1.trans rfl) (gh.1.trans rfl) T.agg55 rfl kq) ?_
   refine stv (d:=66) (fun β1=>agg [sl 1 strE m.actions,sl 1 edgesE m.states]) [] rfl (fun β β' hb=>rfl) (fun β1 _ _ _ _ gq gh kq=>calW (φs:= [agg [sl 1 strE m.actions,sl 1 edgesE m.states]]) (φ:=agg [sl 1 strE m.actions,sl 1 edgesE m.states]) ⟨(gq.1.trans rfl),trivial⟩ (sysw.Copy_ok m (by omega)) T.ent29 (fun N hN=>fun h=>agg_le (cs:= [fre N (sl 1 strE m.actions),fre N (sl 1 edgesE m.states)]) (ds:= [sl 1 strE m.actions,sl 1 edgesE m.states]) ⟨fun h=>nw_le h,fun h=>nw_le h,trivial⟩ h) kq) ?_
   refine stv (d:=67) (fun β1=>agg [sl 1 strE (((lstOf s).1).actions),sl 2 stateE (((lstOf s).1).states)]) [7] rfl (fun β β' hb=>rfl) (fun β1 _ _ _ _ gq gh kq=>lPA (gq.1.trans rfl) (gh.1.trans rfl) T.agg25 rfl kq) ?_
   refine stv (d:=68) (fun β1=>agg [sl 1 strE (((lstOf s).1).actions),sl 2 stateE (((lstOf s).1).states)]) [] rfl (fun β β' hb=>rfl) (fun β1 _ _ _ _ gq gh kq=>calW (φs:= [agg [sl 1 strE (((lstOf s).1).actions),sl 2 stateE (((lstOf s).1).states)]]) (φ:=agg [sl 1 strE (((lstOf s).1).actions),sl 2 stateE (((lstOf s).1).states)]) ⟨(gq.1.trans rfl),trivial⟩ (ref03.Copy_ok ((lstOf s).1) (by omega)) T.ent14 (fun N hN=>fun h=>agg_le (cs:= [fre N (sl 1 strE (((lstOf s).1).actions)),fre N (sl 2 stateE (((lstOf s).1).states))]) (ds:= [sl 1 strE (((lstOf s).1).actions),sl 2 stateE (((lstOf s).1).states)]) ⟨fun h=>nw_le h,fun h=>nw_le h,trivial⟩ h) kq) ?_
   refine stv (d:=69) (fun β1=>tup [agg [bl (satB m ((lstOf s).1)),slx 2 pairE,slx 1 intE,intx],int (fineSE m ((lstOf s).1))]) [] rfl (fun β β' hb=>rfl) (fun β1 _ _ _ _ gq gh kq=>cal0 (φs:= [agg [sl 1 strE m.actions,sl 1 edgesE m.states],agg [sl 1 strE (((lstOf s).1).actions),sl 2 stateE (((lstOf s).1).states)]]) (φ:=tup [agg [bl (satB m ((lstOf s).1)),slx 2 pairE,slx 1 intE,intx],int (fineSE m ((lstOf s).1))]) ⟨(gq.1.trans rfl),(gq.2.1.trans rfl),trivial⟩ (fn_weak (satj.Satisfies_ok m ((lstOf s).1) (by assumption)) (fun _ i=>satX i)) T.ent28 kq) ?_
   refine stv (d:=64) (fun β1=>tup [agg [bl (satB m ((lstOf s).1)),slx 2 pairE,slx 1 intE,intx],int (fineSE m ((lstOf s).1))]) [] rfl (fun β β' hb=>rfl) (fun β1 _ _ _ _ gq gh kq=>mv' (gq.1.trans rfl) kq) ?_
   refine stv (d:=70) (fun β1=>agg [bl (satB m ((lstOf s).1)),slx 2 pairE,slx 1 intE,intx]) [] rfl (fun β β' hb=>rfl) (fun β1 _ _ _ _ gq gh kq=>xt (gq.1.trans rfl) rfl kq) ?_
   refine stv (d:=71) (fun β1=>int (fineSE m ((lstOf s).1))) [] rfl (fun β β' hb=>rfl) (fun β1 _ _ _ _ gq gh kq=>xt (gq.1.trans rfl) rfl kq) ?_
   refine sta 14 T.z60 (ex_cons (ex_cons (ex_cons (ex_cons (ex_nil))))) ?_
   refine stw 14 (fun β1=>cell (gbk (β1 8)) [bl (satB m ((lstOf s).1)),slx 2 pairE,slx 1 intE,intx]) [14] rfl (fun β β' hb=>by first|rw[hb 8 rfl]|(dsimp only;rw[hb 8 rfl])) (fun β1 _ _ _ _ gq gh kq=>sPA (cs':= [bl (satB m ((lstOf s).1)),slx 2 pairE,slx 1 intE,intx]) (gq.1.trans rfl) (gh.1.trans rfl) (gq.2.1.trans rfl) T.agg60 rfl rfl kq) ?_
   refine stv (d:=15) (fun β1=>int (fineSE m ((lstOf s).1))) [] rfl (fun β β' hb=>rfl) (fun β1 _ _ _ _ gq gh kq=>ag' (gq.1.trans rfl) kq) ?_
   refine pnH fun β1=>(nl (th (sq (sq (rg (mv (mv (bi rfl rfl b_neq (mv ?_)))))))))
   apply gOr (t:=75) (pd:=81) rfl
   rotate_left
   ·intro hg3 fin
    have hg3':=hg3
    try simp at hg3'
    exact gy rfl rfl rfl hg3 (fP rfl T.fld60_0 (gy rfl rfl rfl hg3 (lP rfl rfl rfl T.one4 (gy rfl rfl rfl hg3 (fP rfl T.fld60_0 (gy rfl rfl rfl hg3 (lP rfl rfl rfl T.one4 (gy rfl rfl rfl hg3 (bi rfl rfl (b_neqB T.bool4) (pkF rfl hg3 rfl (drp (X:= [(80,_),(79,_),(78,_),(77,_),(76,_)]) ⟨rfl,rfl,rfl,rfl,rfl,trivial⟩ (fin))))))))))))
   ·intro hg3 fin
    exact gn rfl rfl rfl hg3 rfl rfl (gn rfl rfl rfl hg3 rfl rfl (gn rfl rfl rfl hg3 rfl rfl (gn rfl rfl rfl hg3 rfl rfl (gn rfl rfl rfl hg3 rfl rfl (pkT rfl hg3 rfl (drp (X:= [(80,_),(79,_),(78,_),(77,_),(76,_)]) ⟨rfl,rfl,rfl,rfl,rfl,trivial⟩ (fin)))))))
   refine mv ?_
   apply gOr (t:=82) (pd:=89) rfl
   rotate_left
   ·intro hg4 fin
    have hg4':=hg4
    try simp at hg4'
    exact gy rfl rfl rfl hg4 (mv (gy rfl rfl rfl hg4 (fc (slenI 83 rfl) fun hm83=>(lnF rfl T.sl28 (gy rfl rfl rfl hg4 (fP rfl T.fld25_1 (gy rfl rfl rfl hg4 (lP rfl rfl rfl T.one23 (gy rfl rfl rfl hg4 (fc (slenI 86 rfl) fun hm86=>(lnF rfl T.sl23 (gy rfl rfl rfl hg4 (bi rfl rfl b_neq (pkF rfl hg4 rfl (drp (X:= [(88,_),(87,_),(86,_),(85,_),(84,_),(83,_)]) ⟨rfl,rfl,rfl,rfl,rfl,rfl,trivial⟩ (fin))))))))))))))))
   ·intro hg4 fin
    exact gn rfl rfl rfl hg4 rfl rfl (gn rfl rfl rfl hg4 rfl rfl (gn rfl rfl rfl hg4 rfl rfl (gn rfl rfl rfl hg4 rfl rfl (gn rfl rfl rfl hg4 rfl rfl (gn rfl rfl rfl hg4 rfl rfl (pkT rfl hg4 rfl (drp (X:= [(88,_),(87,_),(86,_),(85,_),(84,_),(83,_)]) ⟨rfl,rfl,rfl,rfl,rfl,rfl,trivial⟩ (fin))))))))
   refine nl (th ?_)
   refine cd rfl (fun hc2=> ?_) (fun hc2=> ?_)
   ·skip
    exact absurd hc2 (by rw[same_no hv];decide)
   ·skip
    refine cutE (E':= [(4,ptr 4 b4 0),(5,ptr 5 b5 0),(6,bl false),(10,sl 1 intE (clsOf s)),(9999,tab)]) (H':= [(3,cell b3 [sl 1 strE m.actions,sl 1 edgesE m.states]),(4,cell b4 [sl 1 strE s.actions,sl 2 stateE s.states]),(5,cell b5 [int x,int y]),(7,cell b7 [sl 1 strE (((lstOf s).1).actions),sl 2 stateE (((lstOf s).1).states)]),(12,cell (gbk (β0 8)) [bl (satB m s),slx 2 pairE,slx 1 intE,intx]),(14,cell (gbk (β1 8)) [bl (satB m ((lstOf s).1)),slx 2 pairE,slx 1 intE,intx]),(997,ambH tab)]) ⟨id,id,id,id,id,trivial⟩ ⟨⟨rfl,id⟩,⟨rfl,id⟩,⟨rfl,id⟩,⟨rfl,id⟩,⟨rfl,id⟩,⟨rfl,id⟩,⟨rfl,id⟩,trivial⟩ ?_
    refine sk (th (sq ?_))
    refine drH (nh:=11) [0,1,0,4,15,31,63,63,0,383,1023] [(none,[4]),(none,[]),(none,[]),(none,[5]),(none,[997]),(none,[]),(none,[]),(none,[]),(some 16,[]),(some 16,[16]),(none,[])] T.mixed (by kernel_rfl) (by kernel_rfl) ?_
    refine stv (d:=91) (fun β2=>agg [sl 1 strE s.actions,sl 2 stateE s.states]) [4] rfl (fun β β' hb=>rfl) (fun β2 _ _ _ _ gq gh kq=>lPA (gq.1.trans rfl) (gh.1.trans rfl) T.agg25 rfl kq) ?_
    refine stv (d:=92) (fun β2=>agg [sl 1 strE s.actions,sl 2 stateE s.states]) [] rfl (fun β β' hb=>rfl) (fun β2 _ _ _ _ gq gh kq=>calW (φs:= [agg [sl 1 strE s.actions,sl 2 stateE s.states]]) (φ:=agg [sl 1 strE s.actions,sl 2 stateE s.states]) ⟨(gq.1.trans rfl),trivial⟩ (ref03.Copy_ok s (by omega)) T.ent14 (fun N hN=>fun h=>agg_le (cs:= [fre N (sl 1 strE s.actions),fre N (sl 2 stateE s.states)]) (ds:= [sl 1 strE s.actions,sl 2 stateE s.states]) ⟨fun h=>nw_le h,fun h=>nw_le h,trivial⟩ h) kq) ?_
    refine stv (d:=93) (fun β2=>ptr 5 b5 0) [] rfl (fun β β' hb=>rfl) (fun β2 _ _ _ _ gq gh kq=>iPA (gq.1.trans rfl) rfl T.arr56 T.one3 rfl kq) ?_
    refine stv (d:=94) (fun β2=>int x) [5] rfl (fun β β' hb=>rfl) (fun β2 _ _ _ _ gq gh kq=>lP (gq.1.trans rfl) (gh.1.trans rfl) rfl T.one3 kq) ?_
    refine stv (d:=95) (fun β2=>tup [agg [sl 1 strE ((fromS s x).actions),sl 2 stateE ((fromS s x).states)],int (fromE s x)]) [997] rfl (fun β β' hb=>rfl) (fun β2 _ _ _ _ gq gh kq=>tbK (ψ:=tab) 92 997 (gq.1.trans rfl) (gh.1.trans rfl) (calW (φs:= [both (agg [sl 1 strE s.actions,sl 2 stateE s.states]) tab,int x]) (φ:=tup [agg [sl 1 strE ((fromS s x).actions),sl 2 stateE ((fromS s x).states)],int (fromE s x)]) ⟨rfl,(gq.2.1.trans rfl),trivial⟩ (prog15.From_ok s (by assumption) x) T.ent23 (fun N hN=>fun h=>tup_le (cs:= [agg [fre N (sl 1 strE ((fromS s x).actions)),fre N (sl 2 stateE ((fromS s x).states))],int (fromE s x)]) (ds:= [agg [sl 1 strE ((fromS s x).actions),sl 2 stateE ((fromS s x).states)],int (fromE s x)]) ⟨fun h=>agg_le (cs:= [fre N (sl 1 strE ((fromS s x).actions)),fre N (sl 2 stateE ((fromS s x).states))]) (ds:= [sl 1 strE ((fromS s x).actions),sl 2 stateE ((fromS s x).states)]) ⟨fun h=>nw_le h,fun h=>nw_le h,trivial⟩ h,fun h=>h,trivial⟩ h) (tbX (gq.1.trans rfl) kq))) ?_
    refine stv (d:=90) (fun β2=>tup [agg [sl 1 strE ((fromS s x).actions),sl 2 stateE ((fromS s x).states)],int (fromE s x)]) [] rfl (fun β β' hb=>rfl) (fun β2 _ _ _ _ gq gh kq=>mv' (gq.1.trans rfl) kq) ?_
    refine stv (d:=96) (fun β2=>agg [sl 1 strE ((fromS s x).actions),sl 2 stateE ((fromS s x).states)]) [] rfl (fun β β' hb=>rfl) (fun β2 _ _ _ _ gq gh kq=>xt (gq.1.trans rfl) rfl kq) ?_
    refine stv (d:=97) (fun β2=>int (fromE s x)) [] rfl (fun β β' hb=>rfl) (fun β2 _ _ _ _ gq gh kq=>xt (gq.1.trans rfl) rfl kq) ?_
    refine sta 16 T.z25 (ex_cons (ex_cons (ex_nil))) ?_
    refine stw 16 (fun β2=>cell (gbk (β2 8)) [sl 1 strE ((fromS s x).actions),sl 2 stateE ((fromS s x).states)]) [16] rfl (fun β β' hb=>by first|rw[hb 8 rfl]|(dsimp only;rw[hb 8 rfl])) (fun β2 _ _ _ _ gq gh kq=>sPA (cs':= [sl 1 strE ((fromS s x).actions),sl 2 stateE ((fromS s x).states)]) (gq.1.trans rfl) (gh.1.trans rfl) (gq.2.1.trans rfl) T.agg25 rfl rfl kq) ?_
    refine stv (d:=17) (fun β2=>int (fromE s x)) [] rfl (fun β β' hb=>rfl) (fun β2 _ _ _ _ gq gh kq=>ag' (gq.1.trans rfl) kq) ?_
    refine pnH fun β2=>(nl (th (sq ?_)))
    refine drH (nh:=11) [0,1,0,4,15,31,63,63,0,383,1023] [(none,[4]),(none,[]),(none,[]),(none,[5]),(none,[997]),(none,[]),(none,[]),(none,[]),(some 18,[]),(some 18,[18]),(none,[])] T.mixed (by kernel_rfl) (by kernel_rfl) ?_
    refine stv (d:=99) (fun β3=>agg [sl 1 strE s.actions,sl 2 stateE s.states]) [4] rfl (fun β β' hb=>rfl) (fun β3 _ _ _ _ gq gh kq=>lPA (gq.1.trans rfl) (gh.1.trans rfl) T.agg25 rfl kq) ?_
    refine stv (d:=100) (fun β3=>agg [sl 1 strE s.actions,sl 2 stateE s.states]) [] rfl (fun β β' hb=>rfl) (fun β3 _ _ _ _ gq gh kq=>calW (φs:= [agg [sl 1 strE s.actions,sl 2 stateE s.states]]) (φ:=agg [sl 1 strE s.actions,sl 2 stateE s.states]) ⟨(gq.1.trans rfl),trivial⟩ (ref03.Copy_ok s (by omega)) T.ent14 (fun N hN=>fun h=>agg_le (cs:= [fre N (sl 1 strE s.actions),fre N (sl 2 stateE s.states)]) (ds:= [sl 1 strE s.actions,sl 2 stateE s.states]) ⟨fun h=>nw_le h,fun h=>nw_le h,trivial⟩ h) kq) ?_
    refine stv (d:=101) (fun β3=>ptr 5 b5 1) [] rfl (fun β β' hb=>rfl) (fun β3 _ _ _ _ gq gh kq=>iPA (gq.1.trans rfl) rfl T.arr56 T.one3 rfl kq) ?_
    refine stv (d:=102) (fun β3=>int y) [5] rfl (fun β β' hb=>rfl) (fun β3 _ _ _ _ gq gh kq=>lP (gq.1.trans rfl) (gh.1.trans rfl) rfl T.one3 kq) ?_
    refine stv (d:=103) (fun β3=>tup [agg [sl 1 strE ((fromS s y).actions),sl 2 stateE ((fromS s y).states)],int (fromE s y)]) [997] rfl (fun β β' hb=>rfl) (fun β3 _ _ _ _ gq gh kq=>tbK (ψ:=tab) 100 997 (gq.1.trans rfl) (gh.1.trans rfl) (calW (φs:= [both (agg [sl 1 strE s.actions,sl 2 stateE s.states]) tab,int y]) (φ:=tup [agg [sl 1 strE ((fromS s y).actions),sl 2 stateE ((fromS s y).states)],int (fromE s y)]) ⟨rfl,(gq.2.1.trans rfl),trivial⟩ (prog15.From_ok s (by assumption) y) T.ent23 (fun N hN=>fun h=>tup_le (cs:= [agg [fre N (sl 1 strE ((fromS s y).actions)),fre N (sl 2 stateE ((fromS s y).states))],int (fromE s y)]) (ds:= [agg [sl 1 strE ((fromS s y).actions),sl 2 stateE ((fromS s y).states)],int (fromE s y)]) ⟨fun h=>agg_le (cs:= [fre N (sl 1 strE ((fromS s y).actions)),fre N (sl 2 stateE ((fromS s y).states))]) (ds:= [sl 1 strE ((fromS s y).actions),sl 2 stateE ((fromS s y).states)]) ⟨fun h=>nw_le h,fun h=>nw_le h,trivial⟩ h,fun h=>h,trivial⟩ h) (tbX (gq.1.trans rfl) kq))) ?_
    refine stv (d:=98) (fun β3=>tup [agg [sl 1 strE ((fromS s y).actions),sl 2 stateE ((fromS s y).states)],int (fromE s y)]) [] rfl (fun β β' hb=>rfl) (fun β3 _ _ _ _ gq gh kq=>mv' (gq.1.trans rfl) kq) ?_
    refine stv (d:=104) (fun β3=>agg [sl 1 strE ((fromS s y).actions),sl 2 stateE ((fromS s y).states)]) [] rfl (fun β β' hb=>rfl) (fun β3 _ _ _ _ gq gh kq=>xt (gq.1.trans rfl) rfl kq) ?_
    refine stv (d:=105) (fun β3=>int (fromE s y)) [] rfl (fun β β' hb=>rfl) (fun β3 _ _ _ _ gq gh kq=>xt (gq.1.trans rfl) rfl kq) ?_
    refine sta 18 T.z25 (ex_cons (ex_cons (ex_nil))) ?_
    refine stw 18 (fun β3=>cell (gbk (β3 8)) [sl 1 strE ((fromS s y).actions),sl 2 stateE ((fromS s y).states)]) [18] rfl (fun β β' hb=>by first|rw[hb 8 rfl]|(dsimp only;rw[hb 8 rfl])) (fun β3 _ _ _ _ gq gh kq=>sPA (cs':= [sl 1 strE ((fromS s y).actions),sl 2 stateE ((fromS s y).states)]) (gq.1.trans rfl) (gh.1.trans rfl) (gq.2.1.trans rfl) T.agg25 rfl rfl kq) ?_
    refine stv (d:=19) (fun β3=>int (fromE s y)) [] rfl (fun β β' hb=>rfl) (fun β3 _ _ _ _ gq gh kq=>ag' (gq.1.trans rfl) kq) ?_
    refine pnH fun β3=>(nl (th (sq (sq (rg (mv (bi rfl rfl b_neq (mv ?_))))))))
    apply gOr (t:=108) (pd:=111) rfl
    rotate_left
    ·intro hg5 fin
     have hg5':=hg5
     try simp at hg5'
     exact gy rfl rfl rfl hg5 (mv (gy rfl rfl rfl hg5 (bi rfl rfl b_neq (pkF rfl hg5 rfl (drp (X:= [(110,_),(109,_)]) ⟨rfl,rfl,trivial⟩ (fin))))))
    ·intro hg5 fin
     exact gn rfl rfl rfl hg5 rfl rfl (gn rfl rfl rfl hg5 rfl rfl (pkT rfl hg5 rfl (drp (X:= [(110,_),(109,_)]) ⟨rfl,rfl,trivial⟩ (fin))))
    refine nl (th ?_)
    refine cd rfl (fun hc3=> ?_) (fun hc3=> ?_)
    ·try simp at hc3
     refine sq (rg (calT (ψ:=tab) (φs:= []) (φ:=bl true) trivial (prog14.awake_ok) T.ent9 9999 rfl rfl (ag (nl (th (rt (rt_ ?_)))))))
     exact rE () [.tmp 6] rfl [bl true] ⟨.tmp rfl,trivial⟩ (rfl) trivial (by first|exact .inr rfl|exact .inl rfl)
    ·try simp at hc3
     obtain⟨_,hx0,hx1⟩:=fromE_ok hc3.1
     obtain⟨_,hy0,hy1⟩:=fromE_ok hc3.2
     have hcl:(clsOf s).length=s.states.length:=by unfold clsOf;rw[if_pos hv,classes_len]
     refine cutE (E':= [(5,ptr 5 b5 0),(6,bl false),(10,sl 1 intE (clsOf s)),(16,ptr 16 (gbk (β2 8)) 0),(18,ptr 18 (gbk (β3 8)) 0),(9999,tab)]) (H':= [(3,cell b3 [sl 1 strE m.actions,sl 1 edgesE m.states]),(4,cell b4 [sl 1 strE s.actions,sl 2 stateE s.states]),(5,cell b5 [int x,int y]),(7,cell b7 [sl 1 strE (((lstOf s).1).actions),sl 2 stateE (((lstOf s).1).states)]),(12,cell (gbk (β0 8)) [bl (satB m s),slx 2 pairE,slx 1 intE,intx]),(14,cell (gbk (β1 8)) [bl (satB m ((lstOf s).1)),slx 2 pairE,slx 1 intE,intx]),(16,cell (gbk (β2 8)) [sl 1 strE ((fromS s x).actions),sl 2 stateE ((fromS s x).states)]),(18,cell (gbk (β3 8)) [sl 1 strE ((fromS s y).actions),sl 2 stateE ((fromS s y).states)]),(997,ambH tab)]) ⟨id,id,id,id,id,id,trivial⟩ ⟨⟨rfl,id⟩,⟨rfl,id⟩,⟨rfl,id⟩,⟨rfl,id⟩,⟨rfl,id⟩,⟨rfl,id⟩,⟨rfl,id⟩,⟨rfl,id⟩,⟨rfl,id⟩,trivial⟩ ?_
     refine sk (th (sq (dr (nh:=6) [0,1,0,4,3,31] T.mixed (by kernel_rfl) ?_)))
     refine st_ rfl (fun _ _ _ gq kq=>iPA (gq.1.trans rfl) rfl T.arr56 T.one3 rfl kq) ?_
     refine st_ rfl (fun _ _ _ gq kq=>lP (gq.1.trans rfl) rfl rfl T.one3 kq) ?_
     refine st_ rfl (fun _ _ _ gq kq=>iPA (gq.1.trans rfl) rfl T.arr56 T.one3 rfl kq) ?_
     refine st_ rfl (fun _ _ _ gq kq=>lP (gq.1.trans rfl) rfl rfl T.one3 kq) ?_
     refine st_ rfl (fun _ _ _ gq kq=>ag' (gq.1.trans rfl) kq) ?_
     refine st_ rfl (fun _ _ _ gq kq=>ag' (gq.1.trans rfl) kq) ?_
     refine pn (nl (th (sq (sq (rg (mv (bi rfl rfl b_lss (mv ?_))))))))
     apply gOr (t:=119) (pd:=122) rfl
     rotate_left
     ·intro hg6 fin
      have hg6':=hg6
      try simp at hg6'
      exact gy rfl rfl rfl hg6 (mv (gy rfl rfl rfl hg6 (bi rfl rfl b_lss (pkF rfl hg6 rfl (drp (X:= [(121,_),(120,_)]) ⟨rfl,rfl,trivial⟩ (fin))))))
     ·intro hg6 fin
      exact gn rfl rfl rfl hg6 rfl rfl (gn rfl rfl rfl hg6 rfl rfl (pkT rfl hg6 rfl (drp (X:= [(121,_),(120,_)]) ⟨rfl,rfl,trivial⟩ (fin))))
     refine mv ?_
     apply gOr (t:=123) (pd:=128) rfl
     rotate_left
     ·intro hg7 fin
      have hg7':=hg7
      try simp at hg7'
      exact gy rfl rfl rfl hg7 (mv (gy rfl rfl rfl hg7 (mv (gy rfl rfl rfl hg7 (fc (slenI 125 rfl) fun hm125=>(lnF rfl T.sl28 (gy rfl rfl rfl hg7 (bi rfl rfl b_geq (pkF rfl hg7 rfl (drp (X:= [(127,_),(126,_),(125,_),(124,_)]) ⟨rfl,rfl,rfl,rfl,trivial⟩ (fin)))))))))))
     ·intro hg7 fin
      exact gn rfl rfl rfl hg7 rfl rfl (gn rfl rfl rfl hg7 rfl rfl (gn rfl rfl rfl hg7 rfl rfl (gn rfl rfl rfl hg7 rfl rfl (pkT rfl hg7 rfl (drp (X:= [(127,_),(126,_),(125,_),(124,_)]) ⟨rfl,rfl,rfl,rfl,trivial⟩ (fin))))))
     refine mv ?_
     apply gOr (t:=129) (pd:=134) rfl
     rotate_left
     ·intro hg8 fin
      have hg8':=hg8
      try simp at hg8'
      exact gy rfl rfl rfl hg8 (mv (gy rfl rfl rfl hg8 (mv (gy rfl rfl rfl hg8 (fc (slenI 131 rfl) fun hm131=>(lnF rfl T.sl28 (gy rfl rfl rfl hg8 (bi rfl rfl b_geq (pkF rfl hg8 rfl (drp (X:= [(133,_),(132,_),(131,_),(130,_)]) ⟨rfl,rfl,rfl,rfl,trivial⟩ (fin)))))))))))
     ·intro hg8 fin
      exact gn rfl rfl rfl hg8 rfl rfl (gn rfl rfl rfl hg8 rfl rfl (gn rfl rfl rfl hg8 rfl rfl (gn rfl rfl rfl hg8 rfl rfl (pkT rfl hg8 rfl (drp (X:= [(133,_),(132,_),(131,_),(130,_)]) ⟨rfl,rfl,rfl,rfl,trivial⟩ (fin))))))
     refine nl (th ?_)
     refine cd rfl (fun hc4=> ?_) (fun hc4=> ?_)
     ·try simp at hc4
      exfalso;omega
     ·try simp at hc4
      refine sk (th (sq (dr (nh:=17) [0,0,3,7,0,0,48,112,255,0,0,1536,4095,8191,16383,32767,65535] T.mixed (by kernel_rfl) ?_)))
      refine st_ rfl (fun _ _ _ gq kq=>mv' (gq.1.trans rfl) kq) ?_
      refine st_ rfl (fun _ _ _ gq kq=>mv' (gq.1.trans rfl) kq) ?_
      refine st_ rfl (fun _ _ _ gq kq=>iF (gq.1.trans rfl) (gq.2.1.trans rfl) T.sl28 (by omega) (by first|exact gN (by omega)|exact gI (by omega) (by omega)) kq) ?_
      refine st_ rfl (fun _ _ _ gq kq=>lF (gq.1.trans rfl) rfl T.one3 kq) ?_
      refine st_ rfl (fun _ _ _ gq kq=>mv' (gq.1.trans rfl) kq) ?_
      refine st_ rfl (fun _ _ _ gq kq=>mv' (gq.1.trans rfl) kq) ?_
      refine st_ rfl (fun _ _ _ gq kq=>iF (gq.1.trans rfl) (gq.2.1.trans rfl) T.sl28 (by omega) (by first|exact gN (by omega)|exact gI (by omega) (by omega)) kq) ?_
      refine st_ rfl (fun _ _ _ gq kq=>lF (gq.1.trans rfl) rfl T.one3 kq) ?_
      refine st_ rfl (fun _ _ _ gq kq=>bi (gq.1.trans rfl) (gq.2.1.trans rfl) b_eql kq) ?_
      refine st_ rfl (fun _ _ _ gq kq=>lPA (gq.1.trans rfl) rfl T.agg25 rfl kq) ?_
      refine st_ rfl (fun _ _ _ gq kq=>lPA (gq.1.trans rfl) rfl T.agg25 rfl kq) ?_
      refine st_ rfl (fun _ _ _ gq kq=>cal0 (φs:= [agg [sl 1 strE ((fromS s x).actions),sl 2 stateE ((fromS s x).states)],agg [sl 1 strE ((fromS s y).actions),sl 2 stateE ((fromS s y).states)]]) (φ:=bl (decide (fromS s x=fromS s y))) ⟨(gq.1.trans rfl),(gq.2.1.trans rfl),trivial⟩ (ref03.Same_ok (fromS s x) (fromS s y)) T.ent19 kq) ?_
      refine st_ rfl (fun _ _ _ gq kq=>bi (gq.1.trans rfl) (gq.2.1.trans rfl) (b_eqlB T.bool4) kq) ?_
      refine st_ rfl (fun _ _ _ gq kq=>mv' (gq.1.trans rfl) kq) ?_
      refine sg_ (φ:=bl true) rfl rfl rfl rfl (List.mem_of_elem_eq_true rfl) (fun hgd=> ?_) ?_
      ·have hgd':=hgd
       try simp at hgd'
       exact fun _ _ _ gq kq=>calTK (ψ:=tab) (φs:= []) (φ:=bl true) trivial (prog14.awake_ok) T.ent9 997 rfl rfl kq
      refine st_ rfl (fun _ _ _ gq kq=>pk (gq.1.trans rfl) (pk_and (x:= .tmp 148) (gq.1.trans rfl) (gq.2.1.trans rfl) rfl) kq) ?_
      refine st_ rfl (fun _ _ _ gq kq=>ag' (gq.1.trans rfl) kq) ?_
      refine pn (nl (th (rt ?_)))
      have hr0:(((decide ((ix (clsOf s) x.toNat)=(ix (clsOf s) y.toNat)))==(decide (fromS s x=fromS s y)))&&true)=true:=by
       rw[from_same hv hx0 hx1 hy0 hy1];rfl
      have hall:∀x0,(((decide ((ix (clsOf s) x.toNat)=(ix (clsOf s) y.toNat)))==(decide (fromS s x=fromS s y)))&&true)=x0→resAV [bl (((decide ((ix (clsOf s) x.toNat)=(ix (clsOf s) y.toNat)))==(decide (fromS s x=fromS s y)))&&true)]=resAV [bl x0]:=by rintro _ rfl;rfl
      exact rE () [.tmp 6] rfl [bl (((decide ((ix (clsOf s) x.toNat)=(ix (clsOf s) y.toNat)))==(decide (fromS s x=fromS s y)))&&true)] ⟨.tmp rfl,trivial⟩ (hall _ hr0) trivial (by first|exact .inr rfl|exact .inl rfl)
end lsts
end Go.Proofs.YtolpjmllmlahfaaDoor
