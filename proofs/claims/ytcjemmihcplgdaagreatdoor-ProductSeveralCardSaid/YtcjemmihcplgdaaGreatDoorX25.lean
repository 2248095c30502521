/- The walks of the functions and the plain laws. Own texts of this claim, packed: Zdprods, ZdLawS. -/
import Derived.Test.YtcjemmihcplgdaaGreatDoorX24
import Derived.Test.YtcjemmihcplgdaaGreatDoorX08
import Derived.Test.YtcjemmihcplgdaaGreatDoorX15
set_option linter.all false
namespace Go.Proofs.YtcjemmihcplgdaaGreatDoor
open AL Go
set_option maxRecDepth 100000
section
open ref01 ref03 ref04 ref06 prog prog2 prog3 prog4 prog5 prog6 prog7 prog8 prog9 prog13 prog15 starts Part Rungs LeftM TrimM Itoa Keys RoundM MergeM BisM BisM4 BisM5 WalkM StepM WitM JudgM JudgM2 refw judg wit refj sysw divr divs divd dive divg divw divv LevM LevM2 ChsM TrimI QuoM FailM DivM RefM GenW CompM CrossM CompP EncM prodc divp prodm prodp ForkM prodk SevM
def specE (s:SS):List AV:= [strs s.aC,sl 2 sE s.sT]
instance (s:SS):OneAll (specE s):=inferInstanceAs (OneAll [strs s.aC,sl 2 sE s.sT])
instance (key:Nat) (A:Option Addr) (n c:Nat):AL.One (osl key (.slice A n c)):=⟨fun {w F u} h=>by
 rw[osl_is] at h
 exact AL.One.one h⟩
def specV (s:SS):List AV:= [spec s]
def idxG {α:Type} (p:α→Bool) (l:List α):Int:=if l.any p=true then(l.findIdx p:Int) else-1
theorem idxG_none {α:Type} [Inhabited α] {p:α→Bool} {l:List α} (h:∀k,k<l.length→p (ix l k)=false):idxG p l= -1:=by
 unfold idxG
 rw[if_neg]
 intro g
 obtain⟨x,hx,hp⟩:=List.any_eq_true.1 g
 obtain⟨i,hi,rfl⟩:=List.getElem_of_mem hx
 have:=h i hi
 rw[ix_get hi,hp] at this
 cases this
theorem idxG_some {α:Type} [Inhabited α] {p:α→Bool} {l:List α} {k:Nat} (hk:k<l.length) (hp:p (ix l k)=true) (h:∀j,j<k→p (ix l j)=false):idxG p l=(k:Int):=by
 unfold idxG
 rw[if_pos (List.any_eq_true.2 ⟨_,ix_memS hk,hp⟩)]
 have:l.findIdx p=k:=by
  rw[List.findIdx_eq hk]
  refine⟨by rw[←ix_get hk];exact hp,fun j hj=> ?_⟩
  have:=h j hj
  rw[ix_get O] at this
  exact this
 rw[this]
theorem idxG_any {α:Type} {p:α→Bool} {l:List α}:decide (0≤idxG p l)=l.any p:=by
 unfold idxG
 by_cases h:l.any p=true
 ·rw[if_pos h,h];exact decide_eq_true O
 ·rw[if_neg h,(by simpa using h:l.any p=false)];rfl
theorem lists_30 {l:List ByteArray} {ls:List SS} {k:Nat} (hk:k<ls.length) (h:(!specOK (ix ls k))=true):(30:Int)=listE l ls:=by
 unfold listE
 rw[if_pos (List.any_eq_true.2 ⟨_,ix_memS hk,h⟩)]
theorem lists_all {ls:List SS} (h:∀j,j<ls.length→specOK (ix ls j)=true):¬ls.any (fun s=> !specOK s)=true:=by
 intro g
 obtain⟨x,hx,hp⟩:=List.any_eq_true.1 g
 obtain⟨i,hi,rfl⟩:=List.getElem_of_mem hx
 have:=h i hi
 rw[ix_get hi] at this
 rw[this] at hp;cases hp
theorem lists_10a {l:List ByteArray} {ls:List SS} (h:∀j,j<ls.length→specOK (ix ls j)=true) (ha:(!actionsOK l)=true):(10:Int)=listE l ls:=by
 unfold listE
 rw[if_neg (lists_all h),if_pos (by rw[ha];rfl)]
theorem lists_10b {l:List ByteArray} {ls:List SS} (h:∀j,j<ls.length→specOK (ix ls j)=true) {k:Nat} (hk:k<ls.length) (ha:(!decide ((ix ls k).aC=l))=true):(10:Int)=listE l ls:=by
 unfold listE
 have:ls.any (fun s=> !decide (s.aC=l))=true:=List.any_eq_true.2 ⟨_,ix_memS hk,ha⟩
 rw[if_neg (lists_all h),if_pos (by rw[this,Bool.or_true])]
theorem lists_0 {l:List ByteArray} {ls:List SS} (h:∀j,j<ls.length→specOK (ix ls j)=true) (ha:(!actionsOK l)=false) (hb:∀j,j<ls.length→(ix ls j).aC=l):(0:Int)=listE l ls:=by
 unfold listE
 rw[if_neg (lists_all h),if_neg]
 rw[ha,Bool.false_or]
 intro g
 obtain⟨x,hx,hp⟩:=List.any_eq_true.1 g
 obtain⟨i,hi,rfl⟩:=List.getElem_of_mem hx
 have:=hb i hi
 rw[ix_get hi] at this
 rw[decide_eq_true this] at hp;cases hp
theorem rep_snoc (n:Nat) (v:Int):List.replicate n v++ [v]=List.replicate (n+1) v:=by rw[List.replicate_succ']
theorem sev_no {l:List ByteArray} {ls:List SS} (h:¬listE l ls=0):sevS l ls=(⟨[],[]⟩,listE l ls):=by unfold sevS;rw[if_neg h]
theorem sev_lg {l:List ByteArray} {ls:List SS} {k:Nat} (h:listE l ls=0) (hk:k<ls.length) (hb:(!(comS (sevD l ls k) (ix ls k)).2)=true):sevS l ls=(⟨[],[]⟩,2):=by
 unfold sevS
 rw[if_pos h,if_neg]
 intro g
 have:=g k hk
 rw[this] at hb;cases hb
theorem sev_go {l:List ByteArray} {ls:List SS} {D:SS} {k:Nat} (h:listE l ls=0) (hk:k=ls.length) (hD:D=sevD l ls k) (ho:SevOK l ls k):sevS l ls=(D,0):=by
 subst hk
 unfold sevS
 rw[if_pos h,if_pos ho,←hD]
namespace T
theorem ent133:Ent Tryz.prog 133:=ent_of kR
theorem ent135:Ent Tryz.prog 135:=ent_of kR
theorem sl49:IsSlice Tryz.prog 49 25 2:=isSlice_of kR
theorem ent168:Ent Tryz.prog 168:=ent_of kR
theorem ent132:Ent Tryz.prog 132:=ent_of kR
theorem ent16:Ent Tryz.prog 16:=ent_of kR
theorem mk49:MakeT Tryz.prog 49 25 2 48 [.slice none 0 0,.slice none 0 0]:=makeT_of kR kR
theorem ent76:Ent Tryz.prog 76:=ent_of kR
theorem ent14:Ent Tryz.prog 14:=ent_of kR
theorem ent77:Ent Tryz.prog 77:=ent_of kR
end T
namespace prods
theorem IndexFuncS_ok (l:List SS) (dom:SS→Prop) (pq:SS→Bool) (hd:∀k,k<l.length→dom (ix l k)):
 Fn0 Tryz.prog 168 [sl 2 specE l,pf Tryz.prog dom specV (fun x=>bl (pq x))] (int (idxG pq l)):=by
 refine fnI Tryz.func168 rfl rfl (fun w0 F0=> ?_)
 refine fcC (slenI 0 J) (fun hm0=> ?_)
 refine sq (rg (ag (nl (th (sq (sq (rg (mv (lnF J T.sl49 (mv (nl (th (bk ?_)))))))))))))
 have hI0_0:0≤l.length:=by
  first|omega|simp
 have hI0_1:∀j,j<0→pq (ix l j)=false:=by
  intro j hj;omega
 refine lp (κ:=Nat) (fun p=> [(0,sl 2 specE l),(1,pf Tryz.prog dom specV (fun x=>bl (pq x))),(7,int (l.length:Int)),(8,int (p:Int))]) (fun p=> []) (fun p=>(p≤l.length)∧(∀j,j<p→pq (ix l j)=false)) (fun p=>l.length- p) 0 ⟨hI0_0,hI0_1⟩ ⟨id,id,id,id,tV⟩ trivial ?_
 intro k hG0
 obtain⟨hk0,hI0⟩:(k≤l.length)∧(∀j,j<k→pq (ix l j)=false):=hG0
 refine sq (rg (bi J J b_lss (nl (th (sq ?_)))))
 refine cd J (fun hc0=> ?_) (fun hc0=> ?_)
 ·try simp at hc0
  refine sk (th (sq (bk (sq (rg (mv (ag (nl (th (sq (rg (mv (mv (mv (iF J J T.sl49 O gB (lFA J T.agg25 (Nat.le_of_ble_eq_true J) (callP J (ix l k) (hd k O) J (nl (th ?_)))))))))))))))))))
  refine cd J (fun hc1=> ?_) (fun hc1=> ?_)
  ·try simp at hc1
   refine sq (rg (mv (ag (nl (th (rt (rb (rt_ (rt_ (rb (rt_ ?_)))))))))))
   have hr0:((k:Int):Int)=(idxG pq l):=by
    exact(idxG_some O hc1 hI0).symm
   exact rE () [.tmp 4] J [int (k:Int)] ⟨.tmp J,tV⟩ (cA1 (fun x0=>rV [int x0]) hr0) trivial eX
  ·try simp at hc1
   refine sk (eb (th (rg (bi J J (b_add i6) (mv (nl ?_))))))
   have hN0:(k+1)≤l.length:=by
    first|omega|simp_all
   have hN1:∀j,j<(k+1)→pq (ix l j)=false:=by
    intro j hj
    by_cases e:j=k
    ·subst e;simpa using hc1
    ·exact hI0 j O
   exact ln (k+1) ⟨hN0,hN1⟩ dO ⟨id,id,id,id,tV⟩ trivial
 ·try simp at hc0
  refine ex (xt_ (xt_ (xb (th (sq (rg (ag (nl (th (rt ?_))))))))))
  have hr0:((-1):Int)=(idxG pq l):=by
   exact(idxG_none (fun j hj=>hI0 j O)).symm
  exact rE () [.tmp 4] J [int (-1)] ⟨.tmp J,tV⟩ (cA1 (fun x0=>rV [int x0]) hr0) trivial eX
theorem ContainsFuncS_ok (l:List SS) (dom:SS→Prop) (pq:SS→Bool) (hd:∀k,k<l.length→dom (ix l k)):
 Fn0 Tryz.prog 132 [sl 2 specE l,pf Tryz.prog dom specV (fun x=>bl (pq x))] (bl (l.any pq)):=by
 refine fnI Tryz.func132 rfl rfl (fun w0 F0=> ?_)
 refine fcC (slenI 0 J) (fun hm0=> ?_)
 refine sq (rg (ag (nl (th (sq (rg (mv (mv (cal0 (φs:= [sl 2 specE l,pf Tryz.prog dom specV (fun x=>bl (pq x))]) (φ:=int (idxG pq l)) ⟨J,J,tV⟩ (IndexFuncS_ok l dom pq hd) T.ent168 (bi J J b_geq (ag (nl (th (rt ?_))))))))))))))
 have hr0:(decide (0≤(idxG pq l)))=(l.any pq):=by
  rw[idxG_any]
 exact rE () [.tmp 4] J [bl (decide (0≤(idxG pq l)))] ⟨.tmp J,tV⟩ (cA1 (fun x0=>rV [bl x0]) hr0) trivial eX
theorem Listed1_ok (s:SS) (hs:smallSpec s):
 Fn0 Tryz.prog 133 [spec s] (bl (!specOK s)):=by
 refine fnI Tryz.func133 rfl rfl (fun w0 F0=> ?_)
 refine fcC (inhS 0 J) (fun hS0=> ?_)
 obtain⟨hsa0,hss0,hse0⟩:=sLn hS0
 refine sq (rg (bx (key:=1) (cs:= [sl 1 rE_ s.aC,sl 2 sE s.sT]) J fun b1=>(ag (nl (th (sq (rg (lPA J J T.agg25 J (cal0 (φs:= [agg [sl 1 rE_ s.aC,sl 2 sE s.sT]]) (φ:=bl (specOK s)) ⟨J,tV⟩ (prog2.Valid_ok s aS) T.ent111 (no J (ag (nl (th (rt ?_))))))))))))))
 have hr0:(!(specOK s))=(!specOK s):=by
  first|rfl|simp_all|omega
 exact rE () [.tmp 2] J [bl (!(specOK s))] ⟨.tmp J,tV⟩ (cA1 (fun x0=>rV [bl x0]) hr0) trivial eX
theorem Listed2_ok (l:List ByteArray) (s:SS):
 Fn0 Tryz.prog 135 [spec s,fp [strs l]] (bl (!decide (s.aC=l))):=by
 refine fnI Tryz.func135 rfl rfl (fun w0 F0=> ?_)
 refine fcC (inhS 0 J) (fun hS0=> ?_)
 obtain⟨hsa0,hss0,hse0⟩:=sLn hS0
 refine sq (rg (bx (key:=2) (cs:= [sl 1 rE_ s.aC,sl 2 sE s.sT]) J fun b2=>(ag (nl (th (sq (rg (fP J T.fld25_0 (lP J J J T.one22 (lF J J T.one22 (cal0 (φs:= [sl 1 rE_ s.aC,sl 1 rE_ l]) (φ:=bl (decide (s.aC=l))) ⟨J,J,tV⟩ (prog.sEqualstrE_ok _ _) T.ent112 (no J (ag (nl (th (rt ?_))))))))))))))))
 have hr0:(!(decide (s.aC=l)))=(!decide (s.aC=l)):=by
  first|rfl|simp_all|omega
 exact rE () [.tmp 3] J [bl (!(decide (s.aC=l)))] ⟨.tmp J,tV⟩ (cA1 (fun x0=>rV [bl x0]) hr0) trivial eX
theorem conS1_ok (ls:List SS) (hl:∀k,k<ls.length→smallSpec (ix ls k)):Fn0 Tryz.prog 132 [sl 2 specE ls,eqv (.func (.func 133) #[] #[])] (bl (ls.any (fun s=> !specOK s))):=by
 refine fn_args (fun {w F vs} h=> ?_) (ContainsFuncS_ok ls smallSpec (fun s=> !specOK s) hl)
 match vs,h with
 | [_,_],⟨h1,h2,_⟩=>exact⟨h1,func_pf T.ent133 (fun s hs=>Listed1_ok s hs) h2,tV⟩
theorem conS2_ok (l:List ByteArray) (ls:List SS):Fn0 Tryz.prog 132 [sl 2 specE ls,clo 135 [fp [strs l]]] (bl (ls.any (fun s=> !decide (s.aC=l)))):=by
 refine fn_args (fun {w F vs} h=> ?_) (ContainsFuncS_ok ls (fun _=>True) (fun s=> !decide (s.aC=l)) (fun _ _=>trivial))
 match vs,h with
 | [_,_],⟨h1,h2,_⟩=>exact⟨h1,clo_pf T.ent135 (fun s _=>Listed2_ok l s) h2,tV⟩
theorem Listed_ok (l:List ByteArray) (ls:List SS) (hl:∀k,k<ls.length→smallSpec (ix ls k)):
 Fn0 Tryz.prog 77 [strs l,sl 2 specE ls] (int (listE l ls)):=by
 refine fnI Tryz.func77 rfl rfl (fun w0 F0=> ?_)
 refine fcC (slenI 0 J) (fun hm0=> ?_)
 refine fcC (slenI 1 J) (fun hm1=> ?_)
 refine sq (rg (bx1 (key:=2) (φ:=sl 1 rE_ l) J fun b2=>(ag (nl (th (sq (sq (rg (mv (cal0 (φs:= [sl 2 specE ls,eqv (.func (.func 133) #[] #[])]) (φ:=bl (ls.any (fun s=> !specOK s))) ⟨J,J,tV⟩ (conS1_ok ls hl) T.ent132 (nl (th ?_))))))))))))
 refine cd J (fun hc0=> ?_) (fun hc0=> ?_)
 ·skip
  refine sq (rg (ag (nl (th (rt (rt_ ?_))))))
  have hr0:(30:Int)=(listE l ls):=by
   unfold listE;rw[if_pos hc0]
  exact rE () [.tmp 4] J [int 30] ⟨.tmp J,tV⟩ (cA1 (fun x0=>rV [int x0]) hr0) trivial eX
 ·skip
  refine sk (th (sq (sq (rg (fzv 2 2 J J (lF J J T.one22 (cal0 (φs:= [sl 1 rE_ l]) (φ:=bl (actionsOK l)) ⟨J,tV⟩ (prog.aValid_ok _) T.ent134 (no J (mv ?_)))))))))
  apply gOr (t:=10) (pd:=14) rfl
  rotate_left
  ·intro hg0 fin
   have hg0':=hg0
   try simp at hg0'
   exact gy J J J hg0 (mv (gy J J J hg0 (mkf (gy J J J hg0 (cal0 (φs:= [sl 2 specE ls,clo 135 [fp [sl 1 rE_ l]]]) (φ:=bl (ls.any (fun s=> !decide (s.aC=l)))) ⟨J,J,tV⟩ (conS2_ok l ls) T.ent132 (pkF J hg0 J (drp (X:= [(13,_),(12,_),(11,_)]) ⟨J,J,J,tV⟩ fin)))))))
  ·intro hg0 fin
   exact gn J J J hg0 J J (gn J J J hg0 J J (gn J J J hg0 J J (pkT J hg0 J (drp (X:= [(13,_),(12,_),(11,_)]) ⟨J,J,J,tV⟩ fin))))
  refine nl (th ?_)
  refine cd J (fun hc1=> ?_) (fun hc1=> ?_)
  ·skip
   refine sq (rg (ag (nl (th (rt (rt_ ?_))))))
   have hr0:(10:Int)=(listE l ls):=by
    unfold listE;rw[if_neg (by rw[hc0];simp),if_pos hc1]
   exact rE () [.tmp 4] J [int 10] ⟨.tmp J,tV⟩ (cA1 (fun x0=>rV [int x0]) hr0) trivial eX
  ·skip
   refine sk (th (sq (rg (ag (nl (th (rt ?_)))))))
   have hr0:(0:Int)=(listE l ls):=by
    unfold listE;rw[if_neg (by rw[hc0];simp),if_neg (by rw[hc1];simp)]
   exact rE () [.tmp 4] J [int 0] ⟨.tmp J,tV⟩ (cA1 (fun x0=>rV [int x0]) hr0) trivial eX
theorem listed7_ok (l:List ByteArray) (ls:List SS):
 Fn0 Tryz.prog 26 [strs l,sl 2 specE ls] (int (listE l ls)):=by
 refine fnI Tryz.func26 rfl rfl (fun w0 F0=> ?_)
 refine fcC (slenI 0 J) (fun hm0=> ?_)
 refine fcC (slenI 1 J) (fun hm1=> ?_)
 refine sq (rg (ag (nl (th (sq (sq (rg (mv (lnF J T.sl49 (mv (nl (th (bk ?_)))))))))))))
 have hI0_0:0≤ls.length:=by
  first|omega|simp
 have hI0_1:∀j,j<0→specOK (ix ls j)=true:=by
  intro j hj;omega
 refine lp (κ:=Nat) (fun p=> [(0,sl 1 rE_ l),(1,sl 2 specE ls),(9,sl 2 specE ls),(10,int (ls.length:Int)),(11,int (p:Int))]) (fun p=> []) (fun p=>(p≤ls.length)∧(∀j,j<p→specOK (ix ls j)=true)) (fun p=>ls.length- p) 0 ⟨hI0_0,hI0_1⟩ ⟨id,id,id,id,id,tV⟩ trivial ?_
 intro k hG0
 obtain⟨hk0,hI0⟩:(k≤ls.length)∧(∀j,j<k→specOK (ix ls j)=true):=hG0
 refine sq (rg (bi J J b_lss (nl (th (sq ?_)))))
 refine cd J (fun hc0=> ?_) (fun hc0=> ?_)
 ·try simp at hc0
  refine sk (th (sq (bk (sq (rg (iF J J T.sl49 O gB (lFA J T.agg25 (Nat.le_of_ble_eq_true J) (al (key:=6) T.z25 (eC (eC eZ)) fun b6=>(sPA (cs':= [sl 1 rE_ (ix ls k).aC,sl 2 sE (ix ls k).sT]) J J J T.agg25 J J (nl (th (sq (rg (lPA J J T.agg25 J (cal0 (φs:= [agg [sl 1 rE_ (ix ls k).aC,sl 2 sE (ix ls k).sT]]) (φ:=bl (specOK (ix ls k))) ⟨J,tV⟩ (ref03.Is_ok (ix ls k)) T.ent32 (no J (nl (th ?_))))))))))))))))))
  refine cd J (fun hc1=> ?_) (fun hc1=> ?_)
  ·skip
   refine sq (rg (ag (nl (th (rt (rb (rt_ (rt_ (rb (rt_ ?_))))))))))
   have hr0:(30:Int)=(listE l ls):=by
    exact lists_30 O hc1
   exact rE () [.tmp 4] J [int 30] ⟨.tmp J,tV⟩ (cA1 (fun x0=>rV [int x0]) hr0) trivial eX
  ·skip
   refine sk (eb (th (rg (bi J J (b_add i6) (mv (nl ?_))))))
   have hN0:(k+1)≤ls.length:=by
    first|omega|simp_all
   have hN1:∀j,j<(k+1)→specOK (ix ls j)=true:=by
    intro j hj
    by_cases e:j=k
    ·subst e;simpa using hc1
    ·exact hI0 j O
   exact ln (k+1) ⟨hN0,hN1⟩ dO ⟨id,id,id,id,id,tV⟩ trivial
 ·try simp at hc0
  refine ex (xt_ (xt_ (xb (th (sq (sq (rg (mv (cal0 (φs:= [sl 1 rE_ l]) (φ:=bl (actionsOK l)) ⟨J,tV⟩ (ref01.Is_ok _) T.ent75 (no J (nl (th ?_))))))))))))
  refine cd J (fun hc2=> ?_) (fun hc2=> ?_)
  ·skip
   refine sq (rg (ag (nl (th (rt (rt_ ?_))))))
   have hr0:(10:Int)=(listE l ls):=by
    exact lists_10a (fun j hj=>hI0 j O) hc2
   exact rE () [.tmp 4] J [int 10] ⟨.tmp J,tV⟩ (cA1 (fun x0=>rV [int x0]) hr0) trivial eX
  ·skip
   refine sk (th (sq (sq (rg (mv (lnF J T.sl49 (mv (nl (th (bk ?_))))))))))
   have hI1_0:0≤ls.length:=by
    first|omega|simp
   have hI1_1:∀j,j<0→(ix ls j).aC=l:=by
    intro j hj;omega
   refine lp (κ:=Nat) (fun p=> [(0,sl 1 rE_ l),(22,sl 2 specE ls),(23,int (ls.length:Int)),(24,int (p:Int))]) (fun p=> []) (fun p=>(p≤ls.length)∧(∀j,j<p→(ix ls j).aC=l)) (fun p=>ls.length- p) 0 ⟨hI1_0,hI1_1⟩ ⟨id,id,id,id,tV⟩ trivial ?_
   intro k1 hG1
   obtain⟨hk1,hI1⟩:(k1≤ls.length)∧(∀j,j<k1→(ix ls j).aC=l):=hG1
   refine sq (rg (bi J J b_lss (nl (th (sq ?_)))))
   refine cd J (fun hc3=> ?_) (fun hc3=> ?_)
   ·try simp at hc3
    refine sk (th (sq (bk (sq (rg (iF J J T.sl49 O gB (lFA J T.agg25 (Nat.le_of_ble_eq_true J) (al (key:=8) T.z25 (eC (eC eZ)) fun b8=>(sPA (cs':= [sl 1 rE_ (ix ls k1).aC,sl 2 sE (ix ls k1).sT]) J J J T.agg25 J J (nl (th (sq (rg (fP J T.fld25_0 (lP J J J T.one22 (mv (cal0 (φs:= [sl 1 rE_ (ix ls k1).aC,sl 1 rE_ l]) (φ:=bl (decide ((ix ls k1).aC=l))) ⟨J,J,tV⟩ (ref01.SameStrings_ok _ _) T.ent33 (no J (nl (th ?_))))))))))))))))))))
    refine cd J (fun hc4=> ?_) (fun hc4=> ?_)
    ·skip
     refine sq (rg (ag (nl (th (rt (rb (rt_ (rt_ (rb (rt_ ?_))))))))))
     have hr0:(10:Int)=(listE l ls):=by
      exact lists_10b (fun j hj=>hI0 j O) O hc4
     exact rE () [.tmp 4] J [int 10] ⟨.tmp J,tV⟩ (cA1 (fun x0=>rV [int x0]) hr0) trivial eX
    ·skip
     refine sk (eb (th (rg (bi J J (b_add i6) (mv (nl ?_))))))
     have hN0:(k1+1)≤ls.length:=by
      first|omega|simp_all
     have hN1:∀j,j<(k1+1)→(ix ls j).aC=l:=by
      intro j hj
      by_cases e:j=k1
      ·subst e;simpa using hc4
      ·exact hI1 j O
     exact ln (k1+1) ⟨hN0,hN1⟩ dO ⟨id,id,id,id,tV⟩ trivial
   ·try simp at hc3
    refine ex (xt_ (xt_ (xb (th (sq (rg (ag (nl (th (rt ?_))))))))))
    have hr0:(0:Int)=(listE l ls):=by
     exact lists_0 (fun j hj=>hI0 j O) hc2 (fun j hj=>hI1 j O)
    exact rE () [.tmp 4] J [int 0] ⟨.tmp J,tV⟩ (cA1 (fun x0=>rV [int x0]) hr0) trivial eX
theorem Copies_ok (ls:List SS) (hl:∀k,k<ls.length→(size (ix ls k):Int)≤1000000) (hn:ls.length≤1000):
 Fn0 Tryz.prog 29 [sl 2 specE ls] (sl 2 specE ls):=by
 refine fnI Tryz.func29 rfl rfl (fun w0 F0=> ?_)
 refine fcC (slenI 0 J) (fun hm0=> ?_)
 refine sq (rg (ag (nl (th (sq (rg (nw 3 25 2 specE (ag (rtg (key:=3) 3 J (nl (th (sq (sq (rg (mv (lnF J T.sl49 (mv (nl (th (bk ?_))))))))))))))))))))
 have hI0_0:0≤ls.length:=by
  first|omega|simp
 have hI0_1:([]:List SS)=ls.take 0:=by
  rfl
 refine lp (κ:=Nat × Value × (List SS)) (fun p=> [(2,eqv (.slice none 0 0)),(3,osl 3 p.2.1),(6,sl 2 specE ls),(7,int (ls.length:Int)),(8,int (p.1:Int))]) (fun p=> [(3,own p.2.1 25 2 specE p.2.2)]) (fun p=>(p.1≤ls.length)∧(p.2.2=ls.take p.1)) (fun p=>ls.length- p.1) ⟨0,(.slice none 0 0),([]:List SS)⟩ ⟨hI0_0,hI0_1⟩ ⟨id,id,id,id,id,tV⟩ ⟨rI,tV⟩ ?_
 intro⟨k,v3,out⟩ hG0
 obtain⟨hk0,hI0⟩:(k≤ls.length)∧(out=ls.take k):=hG0
 show Ct _ _ _ _ [(2,eqv (.slice none 0 0)),(3,osl 3 v3),(6,sl 2 specE ls),(7,int (ls.length:Int)),(8,int (k:Int))] [(3,own v3 25 2 specE out)] _
 have hol:out.length≤k:=by rw[hI0,List.length_take];omega
 refine sq (rg (bi J J b_lss (nl (th (sq ?_)))))
 refine cd J (fun hc0=> ?_) (fun hc0=> ?_)
 ·try simp at hc0
  have hsz:=hl k O
  refine sk (th (sq (bk (sq (rg (iF J J T.sl49 O gB (lFA J T.agg25 (Nat.le_of_ble_eq_true J) (al (key:=5) T.z25 (eC (eC eZ)) fun b5=>(sPA (cs':= [sl 1 rE_ (ix ls k).aC,sl 2 sE (ix ls k).sT]) J J J T.agg25 J J (nl (th (rg (mv (lPA J J T.agg25 J (calW (φs:= [agg [sl 1 rE_ (ix ls k).aC,sl 2 sE (ix ls k).sT]]) (φ:=agg [sl 1 rE_ (ix ls k).aC,sl 2 sE (ix ls k).sT]) ⟨J,tV⟩ (ref03.Copy_ok (ix ls k) O) T.ent16 (fun N hN=>fun h=>agg_le (cs:= [fre N (sl 1 rE_ (ix ls k).aC),fre N (sl 2 sE (ix ls k).sT)]) (ds:= [sl 1 rE_ (ix ls k).aC,sl 2 sE (ix ls k).sT]) ⟨fun h=>nw_le h,fun h=>nw_le h,tV⟩ h) (bsE (enc:=specE) (xs:= [(ix ls k)]) (css:= [[sl 1 rE_ (ix ls k).aC,sl 2 sE (ix ls k).sT]]) T.mk49 ⟨J,J,pA (cs:= [sl 1 rE_ (ix ls k).aC,sl 2 sE (ix ls k).sT]) J,tV⟩ J J J J (ap (key:=3) (zs:= [(ix ls k)]) osl_eq J J J T.mk49 (by unfold maxL at*;simp;omega) (by unfold maxL at*;simp;omega) fun v16=>(ag (nl (eb (th (rg (bi J J (b_add i6) (mv (nl ?_)))))))))))))))))))))))))
  have hN0:(k+1)≤ls.length:=by
   first|omega|simp_all
  have hN1:(out++ [(ix ls k)])=ls.take (k+1):=by
   rw[hI0,take_s O]
  exact ln (⟨k+1,v16,out++ [(ix ls k)]⟩:Nat × Value × (List SS)) ⟨hN0,hN1⟩ dO ⟨id,id,id,id,id,tV⟩ ⟨rI,tV⟩
 ·try simp at hc0
  refine ex (xt_ (xt_ (xb (th (sq (rg (mv (ag (nl (th (rt ?_)))))))))))
  refine fzA 3 2 rfl rfl ?_
  have hr0:out=ls:=by
   rw[hI0,show k=ls.length by omega,List.take_length]
  exact rE () [.tmp 2] J [sl 2 specE out] ⟨.tmp J,tV⟩ (cA1 (fun x0=>rV [sl 2 specE x0]) hr0) trivial eX
theorem Neutral_ok (l:List ByteArray) (hl:l.length≤8):
 Fn0 Tryz.prog 76 [strs l] (spec (neutS l)):=by
 refine fnI Tryz.func76 rfl rfl (fun w0 F0=> ?_)
 have h2n:2^l.length≤2^8:=Nat.pow_le_pow_right O hl
 have h2p:1≤2^l.length:=Nat.one_le_two_pow
 refine fcC (slenI 0 J) (fun hm0=> ?_)
 refine sq (rg (al (key:=2) T.z25 (eC (eC eZ)) fun b2=>(nl (th (sq (rg (mv (lnF J T.sl22 (bi J J (b_shlI O O) (bi J J (b_sub (by unfold I64;rw[Int.toNat_natCast];omega)) (bsE (enc:=nE) (xs:= [(((2^l.length:Nat):Int)- 1)]) (css:= [[int (((2^l.length:Nat):Int)- 1)]]) T.mk36 ⟨J,J,p1 (φ:=int (((2^l.length:Nat):Int)- 1)) J,tV⟩ J J J J (bd (css:= [(0,_)]) T.st81 (eC (eC eZ)) ⟨J,J,p1 (φ:=sl 1 nE [(((2^l.length:Nat):Int)- 1)]) J,tV⟩ (al (key:=3) T.z81 (eC (eC eZ)) fun b3=>(sPA (cs':= [sl 1 nE [(((2^l.length:Nat):Int)- 1)],eqv (.slice none 0 0)]) J J J T.agg81 J J (nl (th (sq (sq (rg (mv (lnF J T.sl22 (mv (nl (th (bk ?_)))))))))))))))))))))))))
 refine nwC 30 3 1 nE (kncC 3 1 (osl 30 (.slice none 0 0)) rfl rfl eq_osl ?_)
 have hI0_0:0≤l.length:=by
  first|omega|simp
 have hI0_1:([]:List Int)=List.replicate 0 0:=by
  rfl
 refine lp (κ:=Nat × Value × (List Int)) (fun p=> [(0,sl 1 rE_ l),(2,ptr 2 b2 0),(3,ptr 3 b3 0),(11,int (l.length:Int)),(12,int (p.1:Int))]) (fun p=> [(2,cell b2 [eqv (.slice none 0 0),eqv (.slice none 0 0)]),(3,cell b3 [sl 1 nE [((2^l.length:Nat):Int)- 1],osl 30 p.2.1]),(30,own p.2.1 3 1 nE p.2.2)]) (fun p=>(p.1≤l.length)∧(p.2.2=List.replicate p.1 0)) (fun p=>l.length- p.1) ⟨0,(.slice none 0 0),([]:List Int)⟩ ⟨hI0_0,hI0_1⟩ ⟨id,id,id,id,id,tV⟩ ⟨rI,rI,rI,tV⟩ ?_
 intro⟨k,v,acc⟩ hG0
 obtain⟨hk0,hI0⟩:(k≤l.length)∧(acc=List.replicate k 0):=hG0
 show Ct _ _ _ _ [(0,sl 1 rE_ l),(2,ptr 2 b2 0),(3,ptr 3 b3 0),(11,int (l.length:Int)),(12,int (k:Int))] [(2,cell b2 [eqv (.slice none 0 0),eqv (.slice none 0 0)]),(3,cell b3 [sl 1 nE [((2^l.length:Nat):Int)- 1],osl 30 v]),(30,own v 3 1 nE acc)] _
 have hlen:acc.length=k:=by rw[hI0];simp
 refine sq (rg (bi J J b_lss (nl (th (sq ?_)))))
 refine cd J (fun hc0=> ?_) (fun hc0=> ?_)
 ·try simp at hc0
  refine sk (th (sq (bk (rg (fP J T.fld81_1 (lP J J J T.one36 (bsE (enc:=nE) (xs:= [0]) (css:= [[int 0]]) T.mk36 ⟨J,J,p1 (φ:=int 0) J,tV⟩ J J J J (ap (key:=30) (zs:= [0]) osl_eq J J J T.mk36 (by unfold maxL at*;simp;omega) (by unfold maxL at*;simp;omega) fun v17=>(fP J T.fld81_1 (storePO J J J J T.one36 J (nl (eb (th (rg (bi J J (b_add i6) (mv (nl ?_)))))))))))))))))
  have hN0:(k+1)≤l.length:=by
   first|omega|simp_all
  have hN1:(acc++ [0])=List.replicate (k+1) 0:=by
   rw[hI0,rep_snoc]
  exact ln (⟨k+1,v17,acc++ [0]⟩:Nat × Value × (List Int)) ⟨hN0,hN1⟩ dO ⟨id,id,id,id,id,tV⟩ ⟨rI,rI,rI,tV⟩
 ·try simp at hc0
  refine ex (xt_ (xt_ (xb (th (sq (fzcC 3 30 1 J J J J (dr (nh:=5) [0,1,0,4,15,31] T.mixed kR ?_)))))))
  refine st_ J (fun _ _ _ gq kq=>mv' (gq.1.trans J) kq) ?_
  refine st_ J (fun _ _ _ gq kq=>appendF (enc:=rE_) (ys:=l) J (gq.1.trans J) T.mk22 mL kq) ?_
  refine st_ J (fun _ _ _ gq kq=>lPA (gq.1.trans J) J T.agg81 J kq) ?_
  refine st_ J (fun _ _ _ gq kq=>bsE (enc:=sE) (xs:= [(⟨[((2^l.length:Nat):Int)- 1],acc⟩)]) (css:= [[sl 1 nE [((2^l.length:Nat):Int)- 1],sl 1 nE acc]]) T.mk23 ⟨J,J,pA (cs:= [sl 1 nE [((2^l.length:Nat):Int)- 1],sl 1 nE acc]) (by exact(gq.1.trans J)),tV⟩ J J J J kq) ?_
  refine st_ J (fun _ _ _ gq kq=>bd (css:= [(0,_),(1,_)]) T.st25 (eC (eC eZ)) ⟨J,J,p1 (φ:=sl 1 rE_ l) (by exact(gq.1.trans J)),⟨J,J,p1 (φ:=sl 2 sE [(⟨[((2^l.length:Nat):Int)- 1],acc⟩)]) (by exact(gq.2.1.trans J)),tV⟩⟩ kq) ?_
  refine pn (sPA (cs':= [sl 1 rE_ l,sl 2 sE [(⟨[((2^l.length:Nat):Int)- 1],acc⟩)]]) J J J T.agg25 J J (nl (th (rt ?_))))
  have hr0:l=(neutS l).aC:=by
   rfl
  have hr1: [(⟨[((2^l.length:Nat):Int)- 1],acc⟩)]=(neutS l).sT:=by
   rw[hI0,show k=l.length by omega];rfl
  exact rE () [.cell 2 25] J [agg [sl 1 rE_ l,sl 2 sE [(⟨[((2^l.length:Nat):Int)- 1],acc⟩)]]] ⟨.agg J J T.agg25 J J,tV⟩ (cA2 (fun x0 x1=>rV [agg [sl 1 rE_ x0,sl 2 sE x1]]) hr0 hr1) trivial eX
theorem RefSeveral_ok (l:List ByteArray) (ls:List SS) (hle:listE l ls=0) (hp:prodL ls ls.length≤10000):
 AL.Fn Tryz.prog 27 [strs l,sl 2 specE ls] [] (ι:= { D:SS//SevR l ls ls.length D }) (fun _ i=>spec i.1) (fun _=> []):=by
 refine fnI Tryz.func27 rfl rfl (fun w0 F0=> ?_)
 have h8:l.length≤8:=actionsOK_len (list_ok hle).1
 refine fcC (slenI 0 J) (fun hm0=> ?_)
 refine fcC (slenI 1 J) (fun hm1=> ?_)
 refine sq (rg (al (key:=4) T.z25 (eC (eC eZ)) fun b4=>(nl (th (sq (rg (mv (cal0 (φs:= [sl 1 rE_ l]) (φ:=agg [sl 1 rE_ (neutS l).aC,sl 2 sE (neutS l).sT]) ⟨J,tV⟩ (prods.Neutral_ok l O) T.ent76 (al (key:=5) T.z25 (eC (eC eZ)) fun b5=>(sPA (cs':= [sl 1 rE_ (neutS l).aC,sl 2 sE (neutS l).sT]) J J J T.agg25 J J (nl (th (sq (sq (rg (mv (lnF J T.sl49 (mv (nl (th (bk ?_)))))))))))))))))))))
 have hI0_0:0≤ls.length:=by
  first|omega|simp
 have hI0_1:SevR l ls 0 (neutS l):=by
  exact sevr_zero l ls
 refine lp (κ:=Nat × SS) (fun p=> [(4,ptr 4 b4 0),(5,ptr 5 b5 0),(10,sl 2 specE ls),(11,int (ls.length:Int)),(12,int (p.1:Int))]) (fun p=> [(4,cell b4 [eqv (.slice none 0 0),eqv (.slice none 0 0)]),(5,cell b5 [sl 1 rE_ p.2.aC,sl 2 sE p.2.sT])]) (fun p=>(p.1≤ls.length)∧(SevR l ls p.1 p.2)) (fun p=>ls.length- p.1) ⟨0,neutS l⟩ ⟨hI0_0,hI0_1⟩ ⟨id,id,id,id,id,tV⟩ ⟨rI,rI,tV⟩ ?_
 intro⟨k,D⟩ hG0
 obtain⟨hk0,hI0⟩:(k≤ls.length)∧(SevR l ls k D):=hG0
 show Ct _ _ _ _ [(4,ptr 4 b4 0),(5,ptr 5 b5 0),(10,sl 2 specE ls),(11,int (ls.length:Int)),(12,int (k:Int))] [(4,cell b4 [eqv (.slice none 0 0),eqv (.slice none 0 0)]),(5,cell b5 [sl 1 rE_ D.aC,sl 2 sE D.sT])] _
 refine sq (rg (bi J J b_lss (nl (th (sq ?_)))))
 refine cd J (fun hc0=> ?_) (fun hc0=> ?_)
 ·try simp at hc0
  obtain⟨hlk,_,hla⟩:=(list_ok hle).2 k O
  obtain⟨hDo,hDa,hDl⟩:=sevr_D hle O hI0 hp
  have hDs:D.aC=(ix ls k).aC:=by rw[hDa,hla]
  have hpm:prodL ls (k+1)≤prodL ls ls.length:=prod_mono ls O
  have hpq:D.sT.length*(ix ls k).sT.length≤prodL ls (k+1):=Nat.mul_le_mul hDl O
  refine sk (th (sq (bk (sq (rg (iF J J T.sl49 O gB (lFA J T.agg25 (Nat.le_of_ble_eq_true J) (al (key:=7) T.z25 (eC (eC eZ)) fun b7=>(sPA (cs':= [sl 1 rE_ (ix ls k).aC,sl 2 sE (ix ls k).sT]) J J J T.agg25 J J (nl (th (rg (lPA J J T.agg25 J (lPA J J T.agg25 J (cl (prodm.RefCompose_ok D (ix ls k) aS aS aS O) T.ent14 trivial fun N18 i18=>(sPA (cs':= [sl 1 rE_ i18.1.aC,sl 2 sE i18.1.sT]) J J J T.agg25 J J (nl (eb (th (rg (bi J J (b_add i6) (mv (nl ?_)))))))))))))))))))))))
  have hN0:(k+1)≤ls.length:=by
   first|omega|simp_all
  have hN1:SevR l ls (k+1) i18.1:=by
   exact sevr_next hI0 i18.2
  exact ln (⟨k+1,i18.1⟩:Nat × SS) ⟨hN0,hN1⟩ dO ⟨id,id,id,id,id,tV⟩ ⟨rI,rI,tV⟩
 ·try simp at hc0
  refine ex (xt_ (xt_ (xb (th (sq (rg (lPA J J T.agg25 J (sPA (cs':= [sl 1 rE_ D.aC,sl 2 sE D.sT]) J J J T.agg25 J J (nl (th (rt ?_)))))))))))
  exact rE ⟨D,by rw[show k=ls.length by omega] at hI0;exact hI0⟩ [.cell 4 25] J [agg [sl 1 rE_ D.aC,sl 2 sE D.sT]] ⟨.agg J J T.agg25 J J,tV⟩ J trivial eX
theorem Several_ok (l:List ByteArray) (ls:List SS) (hl:∀k,k<ls.length→smallSpec (ix ls k)):
 Fn0 Tryz.prog 28 [tabbed (strs l),sl 2 specE ls] (tup [spec (sevS l ls).1,int (sevS l ls).2]):=by
 refine fnI Tryz.func28 rfl rfl (fun w0 F0=> ?_)
 refine tbI 0 9999 rfl ?_
 refine fcC (slenI 0 J) (fun hm0=> ?_)
 refine fcC (slenI 1 J) (fun hm1=> ?_)
 refine sq (rg (al (key:=4) T.z25 (eC (eC eZ)) fun b4=>(ag (nl (th (sq (sq (rg (mv (mv (cal0 (φs:= [sl 1 rE_ l,sl 2 specE ls]) (φ:=int (listE l ls)) ⟨J,J,tV⟩ (prods.Listed_ok l ls aS) T.ent77 (ag (nl (th (sq (rg (mv (bi J J b_neq (nl (th ?_))))))))))))))))))))
 refine cd J (fun hc0=> ?_) (fun hc0=> ?_)
 ·try simp at hc0
  refine sq (rg (bd (css:= []) T.st25 (eC (eC eZ)) trivial (mv (sPA (cs':= [eqv (.slice none 0 0),eqv (.slice none 0 0)]) J J J T.agg25 J J (ag (nl (th (rt (rt_ ?_)))))))))
  refine kncA 4 0 (sl 1 rE_ []) rfl rfl slnil ?_
  refine kncA 4 1 (sl 2 sE []) rfl rfl slnil ?_
  have hr0: []=((sevS l ls).1).aC:=by
   rw[sev_no hc0]
  have hr1: []=((sevS l ls).1).sT:=by
   rw[sev_no hc0]
  have hr2:((listE l ls):Int)=((sevS l ls).2):=by
   rw[sev_no hc0]
  exact rE () [.cell 4 25,.tmp 5] J [agg [sl 1 rE_ [],sl 2 sE []],int (listE l ls)] ⟨.agg J J T.agg25 J J,.tmp J,tV⟩ (cA3 (fun x0 x1 x2=>rV [agg [sl 1 rE_ x0,sl 2 sE x1],int x2]) hr0 hr1 hr2) trivial eX
 ·try simp at hc0
  have hle:listE l ls=0:=by simpa using hc0
  have h8:l.length≤8:=actionsOK_len (list_ok hle).1
  have h2n:2^l.length≤2^8:=Nat.pow_le_pow_right O h8
  have h2p:1≤2^l.length:=Nat.one_le_two_pow
  refine sk (th (sq ?_))
  refine drH (nh:=11) [0,1,3,7,15,0,32,96,255,0,1023] [(none,[]),(none,[]),(none,[]),(none,[]),(none,[]),(none,[]),(none,[]),(some 26,[]),(none,[]),(some 7,[]),(some 7,[7])] T.mixed kR kR ?_
  refine stv (d:=19) (fun β0=>sl 1 rE_ l) [] J (fun β β' hb=>J) (fun β0 _ _ _ _ gq gh kq=>mv' (gq.1.trans J) kq) ?_
  refine stv (d:=20) (fun β0=>int (l.length:Int)) [] J (fun β β' hb=>J) (fun β0 _ _ _ _ gq gh kq=>lnF (gq.1.trans J) T.sl22 kq) ?_
  refine stv (d:=21) (fun β0=>int ((2^l.length:Nat):Int)) [] J (fun β β' hb=>J) (fun β0 _ _ _ _ gq gh kq=>bi J (gq.1.trans J) (b_shlI O O) kq) ?_
  refine stv (d:=22) (fun β0=>int (((2^l.length:Nat):Int)- 1)) [] J (fun β β' hb=>J) (fun β0 _ _ _ _ gq gh kq=>bi (gq.1.trans J) J (b_sub i6) kq) ?_
  refine stv (d:=23) (fun β0=>sl 1 nE [(((2^l.length:Nat):Int)- 1)]) [] J (fun β β' hb=>J) (fun β0 _ _ _ _ gq gh kq=>bsE (enc:=nE) (xs:= [(((2^l.length:Nat):Int)- 1)]) (css:= [[int (((2^l.length:Nat):Int)- 1)]]) T.mk36 ⟨J,J,p1 (φ:=int (((2^l.length:Nat):Int)- 1)) (by exact(gq.1.trans J)),tV⟩ J J J J kq) ?_
  refine stv (d:=24) (fun β0=>sl 1 rE_ l) [] J (fun β β' hb=>J) (fun β0 _ _ _ _ gq gh kq=>mv' (gq.1.trans J) kq) ?_
  refine stv (d:=25) (fun β0=>int (l.length:Int)) [] J (fun β β' hb=>J) (fun β0 _ _ _ _ gq gh kq=>lnF (gq.1.trans J) T.sl22 kq) ?_
  refine stm (m:=l.length) (enc:=nE) (y:=(0:Int)) 26 T.mk36 (eC eZ) (by unfold maxL at*;omega) (by unfold maxL at*;omega) (fun β0 _ gq=>⟨(gq.1.trans rfl),(gq.2.1.trans rfl)⟩) ?_
  refine stv (d:=27) (fun β0=>agg [sl 1 nE [(((2^l.length:Nat):Int)- 1)],osl 26 (.slice (some ⟨gbk (β0 7),0,none⟩) l.length l.length)]) [] J (fun β β' hb=>by first|rw[hb 7 J]|(dsimp only;rw[hb 7 J])) (fun β0 _ _ _ _ gq gh kq=>bd (css:= [(0,_),(1,_)]) T.st81 (eC (eC eZ)) ⟨J,J,p1 (φ:=sl 1 nE [(((2^l.length:Nat):Int)- 1)]) (by exact(gq.1.trans J)),⟨J,J,p1 (φ:=osl 26 (.slice (some ⟨gbk (β0 7),0,none⟩) l.length l.length)) (by exact(gq.2.1.trans J)),tV⟩⟩ kq) ?_
  refine sta 7 T.z81 (eC (eC eZ)) ?_
  refine stw 7 (fun β0=>cell (gbk (β0 9)) [sl 1 nE [(((2^l.length:Nat):Int)- 1)],osl 26 (.slice (some ⟨gbk (β0 7),0,none⟩) l.length l.length)]) [7] J (fun β β' hb=>by first|rw[hb 7 J,hb 9 J]|(dsimp only;rw[hb 7 J,hb 9 J])) (fun β0 _ _ _ _ gq gh kq=>sPA (cs':= [sl 1 nE [(((2^l.length:Nat):Int)- 1)],osl 26 (.slice (some ⟨gbk (β0 7),0,none⟩) l.length l.length)]) (gq.1.trans J) (gh.1.trans J) (gq.2.1.trans J) T.agg81 J J kq) ?_
  refine pnH fun β0=>(nl (th (sq (fzcC 7 26 1 J J J J ?_))))
  refine drH (nh:=7) [0,1,0,4,15,0,63] [(none,[]),(none,[]),(none,[7]),(none,[]),(none,[]),(some 8,[]),(some 8,[8])] T.mixed kR kR ?_
  refine stv (d:=28) (fun β1=>sl 1 rE_ l) [] J (fun β β' hb=>J) (fun β1 _ _ _ _ gq gh kq=>mv' (gq.1.trans J) kq) ?_
  refine stv (d:=29) (fun β1=>sl 1 rE_ l) [] J (fun β β' hb=>J) (fun β1 _ _ _ _ gq gh kq=>calW (φs:= [sl 1 rE_ l]) (φ:=sl 1 rE_ l) ⟨(gq.1.trans J),tV⟩ (prog.sClonestrE_ok _ O) T.ent78 (fun N hN=>fun h=>nw_le h) kq) ?_
  refine stv (d:=30) (fun β1=>agg [sl 1 nE [(((2^l.length:Nat):Int)- 1)],sl 1 nE (List.replicate l.length (0:Int))]) [7] J (fun β β' hb=>J) (fun β1 _ _ _ _ gq gh kq=>lPA (gq.1.trans J) (gh.1.trans J) T.agg81 J kq) ?_
  refine stv (d:=31) (fun β1=>sl 2 sE [(⟨[(((2^l.length:Nat):Int)- 1)],List.replicate l.length (0:Int)⟩)]) [] J (fun β β' hb=>J) (fun β1 _ _ _ _ gq gh kq=>bsE (enc:=sE) (xs:= [(⟨[(((2^l.length:Nat):Int)- 1)],List.replicate l.length (0:Int)⟩)]) (css:= [[sl 1 nE [(((2^l.length:Nat):Int)- 1)],sl 1 nE (List.replicate l.length (0:Int))]]) T.mk23 ⟨J,J,pA (cs:= [sl 1 nE [(((2^l.length:Nat):Int)- 1)],sl 1 nE (List.replicate l.length (0:Int))]) (by exact(gq.1.trans J)),tV⟩ J J J J kq) ?_
  refine stv (d:=32) (fun β1=>agg [sl 1 rE_ l,sl 2 sE [(⟨[(((2^l.length:Nat):Int)- 1)],List.replicate l.length (0:Int)⟩)]]) [] J (fun β β' hb=>J) (fun β1 _ _ _ _ gq gh kq=>bd (css:= [(0,_),(1,_)]) T.st25 (eC (eC eZ)) ⟨J,J,p1 (φ:=sl 1 rE_ l) (by exact(gq.1.trans J)),⟨J,J,p1 (φ:=sl 2 sE [(⟨[(((2^l.length:Nat):Int)- 1)],List.replicate l.length (0:Int)⟩)]) (by exact(gq.2.1.trans J)),tV⟩⟩ kq) ?_
  refine sta 8 T.z25 (eC (eC eZ)) ?_
  refine stw 8 (fun β1=>cell (gbk (β1 5)) [sl 1 rE_ l,sl 2 sE [(⟨[(((2^l.length:Nat):Int)- 1)],List.replicate l.length (0:Int)⟩)]]) [8] J (fun β β' hb=>by first|rw[hb 5 J]|(dsimp only;rw[hb 5 J])) (fun β1 _ _ _ _ gq gh kq=>sPA (cs':= [sl 1 rE_ l,sl 2 sE [(⟨[(((2^l.length:Nat):Int)- 1)],List.replicate l.length (0:Int)⟩)]]) (gq.1.trans J) (gh.1.trans J) (gq.2.1.trans J) T.agg25 J J kq) ?_
  refine pnH fun β1=>(nl (th (sq (sq (rg (mv (lnF J T.sl49 (mv (nl (th (bk ?_)))))))))))
  have hI0_0:0≤ls.length:=by
   first|omega|simp
  have hI0_1:(⟨l,[⟨[((2^l.length:Nat):Int)- 1],List.replicate l.length 0⟩]⟩:SS)=sevD l ls 0∧SevOK l ls 0:=by
   exact⟨rfl,fun j hj=>by omega⟩
  refine lp (κ:=Nat × SS) (fun p=> [(4,ptr 4 b4 0),(8,ptr 8 (gbk (β1 5)) 0),(33,sl 2 specE ls),(34,int (ls.length:Int)),(35,int (p.1:Int)),(9999,tab)]) (fun p=> [(4,cell b4 [eqv (.slice none 0 0),eqv (.slice none 0 0)]),(7,cell (gbk (β0 9)) [sl 1 nE [(((2^l.length:Nat):Int)- 1)],sl 1 nE (List.replicate l.length (0:Int))]),(8,cell (gbk (β1 5)) [sl 1 rE_ p.2.aC,sl 2 sE p.2.sT])]) (fun p=>(p.1≤ls.length)∧(p.2=sevD l ls p.1∧SevOK l ls p.1)) (fun p=>ls.length- p.1) ⟨0,(⟨l,[⟨[((2^l.length:Nat):Int)- 1],List.replicate l.length 0⟩]⟩:SS)⟩ ⟨hI0_0,hI0_1⟩ ⟨id,id,id,id,id,id,tV⟩ ⟨rI,rI,rI,tV⟩ ?_
  intro⟨k,D⟩ hG0
  obtain⟨hk0,⟨hD,hok⟩⟩:(k≤ls.length)∧(D=sevD l ls k∧SevOK l ls k):=hG0
  show Ct _ _ _ _ [(4,ptr 4 b4 0),(8,ptr 8 (gbk (β1 5)) 0),(33,sl 2 specE ls),(34,int (ls.length:Int)),(35,int (k:Int)),(9999,tab)] [(4,cell b4 [eqv (.slice none 0 0),eqv (.slice none 0 0)]),(7,cell (gbk (β0 9)) [sl 1 nE [(((2^l.length:Nat):Int)- 1)],sl 1 nE (List.replicate l.length (0:Int))]),(8,cell (gbk (β1 5)) [sl 1 rE_ D.aC,sl 2 sE D.sT])] _
  refine sq (rg (bi J J b_lss (nl (th (sq ?_)))))
  refine cd J (fun hc1=> ?_) (fun hc1=> ?_)
  ·try simp at hc1
   have hkl:k<ls.length:=by omega
   obtain⟨hlk,_,hla⟩:=(list_ok hle).2 k O
   obtain⟨hDo,hDa,hDl⟩:=sevD_ok hle k O hok
   rw[←hD] at hDo hDa hDl
   have hDs:D.aC=(ix ls k).aC:=by rw[hDa,hla]
   refine sk (th (sq (bk (sq (rg (iF J J T.sl49 O gB (lFA J T.agg25 (Nat.le_of_ble_eq_true J) (al (key:=10) T.z25 (eC (eC eZ)) fun b10=>(sPA (cs':= [sl 1 rE_ (ix ls k).aC,sl 2 sE (ix ls k).sT]) J J J T.agg25 J J (nl (th (sq (rg (ag (nl (th (sq (rg (lPA J J T.agg25 J (lPA J J T.agg25 J (tbU (ψ:=tab) 40 9999 J J (cal0 (φs:= [both (agg [sl 1 rE_ D.aC,sl 2 sE D.sT]) tab,agg [sl 1 rE_ (ix ls k).aC,sl 2 sE (ix ls k).sT]]) (φ:=tup [agg [sl 1 rE_ ((comS D (ix ls k)).1).aC,sl 2 sE ((comS D (ix ls k)).1).sT],bl ((comS D (ix ls k)).2)]) ⟨J,J,tV⟩ (prodc.Composed_ok D (ix ls k) aS aS aS) T.ent62 (mv (xt J J (xt J J (sPA (cs':= [sl 1 rE_ ((comS D (ix ls k)).1).aC,sl 2 sE ((comS D (ix ls k)).1).sT]) J J J T.agg25 J J (ag (nl (th (sq (rg (mv (no J (nl (th ?_)))))))))))))))))))))))))))))))))))
   refine cd J (fun hc2=> ?_) (fun hc2=> ?_)
   ·skip
    have hbad:=sev_lg hle hkl (by rw[←hD];exact hc2)
    refine sq (rg (bd (css:= []) T.st25 (eC (eC eZ)) trivial (sPA (cs':= [eqv (.slice none 0 0),eqv (.slice none 0 0)]) J J J T.agg25 J J (ag (nl (th (rt (rb (rt_ (rt_ (rb (rt_ ?_))))))))))))
    refine kncA 4 0 (sl 1 rE_ []) rfl rfl slnil ?_
    refine kncA 4 1 (sl 2 sE []) rfl rfl slnil ?_
    have hr0: []=((sevS l ls).1).aC:=by
     rw[hbad]
    have hr1: []=((sevS l ls).1).sT:=by
     rw[hbad]
    have hr2:(2:Int)=((sevS l ls).2):=by
     rw[hbad]
    exact rE () [.cell 4 25,.tmp 5] J [agg [sl 1 rE_ [],sl 2 sE []],int 2] ⟨.agg J J T.agg25 J J,.tmp J,tV⟩ (cA3 (fun x0 x1 x2=>rV [agg [sl 1 rE_ x0,sl 2 sE x1],int x2]) hr0 hr1 hr2) trivial eX
   ·skip
    refine sk (eb (th (rg (bi J J (b_add i6) (mv (nl ?_))))))
    have hN0:(k+1)≤ls.length:=by
     first|omega|simp_all
    have hN1:((comS D (ix ls k)).1)=sevD l ls (k+1)∧SevOK l ls (k+1):=by
     refine⟨by rw[hD];rfl,fun j hj=> ?_⟩
     by_cases e:j=k
     ·subst e;rw[←hD];simpa using hc2
     ·exact hok j O
    exact ln (⟨k+1,(comS D (ix ls k)).1⟩:Nat × SS) ⟨hN0,hN1⟩ dO ⟨id,id,id,id,id,id,tV⟩ ⟨rI,rI,rI,tV⟩
  ·try simp at hc1
   refine ex (xt_ (xt_ (xb (th (sq (rg (lPA J J T.agg25 J (sPA (cs':= [sl 1 rE_ D.aC,sl 2 sE D.sT]) J J J T.agg25 J J (ag (nl (th (rt ?_))))))))))))
   have hr0:D.aC=((sevS l ls).1).aC:=by
    rw[sev_go hle O hD hok]
   have hr1:D.sT=((sevS l ls).1).sT:=by
    rw[sev_go hle O hD hok]
   have hr2:(0:Int)=((sevS l ls).2):=by
    rw[sev_go hle O hD hok]
   exact rE () [.cell 4 25,.tmp 5] J [agg [sl 1 rE_ D.aC,sl 2 sE D.sT],int 0] ⟨.agg J J T.agg25 J J,.tmp J,tV⟩ (cA3 (fun x0 x1 x2=>rV [agg [sl 1 rE_ x0,sl 2 sE x1],int x2]) hr0 hr1 hr2) trivial eX
end prods
end
section
open ref01 ref03 ref04 ref06 prog prog2 prog6 Itoa LawOpen
open Go.ChangeShapes Go.WideShapes Go.ChangeAt Go.WideElems Go.RowKit
namespace LawS
section
variable {H:Type} {enc:TypeId × Value→H} {W:World}
attribute [local semireducible] agg in
theorem open_specB {m:Nat} {cs:List Value} {y:DataW H × List MemPlace} (h:DataW.trod enc Tryz.prog W 0 (fun _=>true) true m 25 cs=some y) (hz:∀k∈y.1.weights Tryz.prog 25,k≤reachBytes) (hl:cs.length=2):
 ∃s:SS,All2 W (allF W) (specE s) cs∧smallSpec s:=by
 obtain⟨y0,y1,n,hx,_,h0,h1⟩:=trod_struct2 Tryz.underlying25 h
 subst hx
 have hz:∀k∈y0.1.weights Tryz.prog 22++(y1.1.weights Tryz.prog 23++ []),k≤reachBytes:=by
  have e:(DataW.agg [y0.1,y1.1]:DataW H).weights Tryz.prog 25=y0.1.weights Tryz.prog 22++(y1.1.weights Tryz.prog 23++ []):=by
   rw[weights_agg Tryz.underlying25]
   simp[DataW.weightsEach]
  rw[←e];exact hz
 have cS:Tryz.prog.cellsOf 22=1:=by kernel_rfl
 have cT:Tryz.prog.cellsOf 23=1:=by kernel_rfl
 have c9:Tryz.prog.cellsOf 9=1:=by kernel_rfl
 have b9:1≤Tryz.prog.bytesOf 9:=by have:Tryz.prog.bytesOf 9=16:=kR;omega
 have c69:Tryz.prog.cellsOf 81=2:=by kernel_rfl
 have b69:1≤Tryz.prog.bytesOf 81:=by have:Tryz.prog.bytesOf 81=48:=kR;omega
 match cs,hl with
 | [v0,v1],_=>
   have h0:DataW.trod enc Tryz.prog W 0 (fun _=>true) true n 22 (([v0,v1].drop 0).take (Tryz.prog.cellsOf 22))=some y0:=h0
   have h1:DataW.trod enc Tryz.prog W 0 (fun _=>true) true n 23 (([v0,v1].drop 1).take (Tryz.prog.cellsOf 23))=some y1:=h1
   rw[cS] at h0
   rw[cT] at h1
   obtain⟨al,g1⟩:=open_strsA Tryz.underlying22 Tryz.underlying9 c9 b9 h0 (fun k hk=>hz k (List.mem_append.2 (.inl hk)))
   obtain⟨xs,g2,g3⟩:=open_slA (n:=2) (E:=sE) Tryz.underlying23 c69 (by decide) b69 h1 (fun k hk=>hz k (List.mem_append.2 (.inr (List.mem_append.2 (.inl hk))))) (fun x=> ∀t∈x.aP,t<2^63) (fun m cs y hy hw hl=>open_stateA hy hw hl)
   refine⟨⟨al,xs⟩,⟨g1,g2,tV⟩,fun k hk i hi=> ?_⟩
   have hk:k<xs.length:=hk
   have hi:i<(ix xs k).aP.length:=hi
   exact g3 (ix xs k) (Rungs.ix_memS hk) _ (Rungs.ix_mem hi)
theorem open_specsA {r:Reach} {b0:Nat} {v:Value} {d:DataW H} {p:List MemPlace} (hv:Value.okWide Tryz.prog W r b0 49 v) (h:DataW.Trod enc Tryz.prog W 0 (fun _=>true) true 49 v d p) (hz:∀k∈d.weights Tryz.prog 49,k≤reachBytes):
 ∃ls:List SS,(sl 2 specE ls).p W (allF W) v∧∀k,k<ls.length→smallSpec (ix ls k):=by
 obtain⟨A,n,c,rfl⟩:=okWide_slice Tryz.underlying49 hv
 obtain⟨fuel,hf⟩:=h
 have c25:Tryz.prog.cellsOf 25=2:=by kernel_rfl
 have b25:1≤Tryz.prog.bytesOf 25:=by have:Tryz.prog.bytesOf 25=48:=kR;omega
 obtain⟨xs,g2,g3⟩:=open_slA (n:=2) (E:=specE) Tryz.underlying49 c25 (by decide) b25 hf hz smallSpec (fun m cs y hy hw hl=>open_specB hy hw hl)
 exact⟨xs,g2,fun k hk=>g3 _ (Rungs.ix_memS hk)⟩
attribute [local semireducible] eqv agg in
theorem open_namesA {r:Reach} {b0:Nat} {v:Value} {d:DataW H} {p:List MemPlace} (hv:Value.okWide Tryz.prog W r b0 22 v) (h:DataW.Trod enc Tryz.prog W 0 (fun _=>true) true 22 v d p) (hz:∀k∈d.weights Tryz.prog 22,k≤reachBytes):
 ∃l:List ByteArray,(strs l).p W (allF W) v∧l.length≤8796093022208:=by
 obtain⟨A,n,c,rfl⟩:=okWide_slice Tryz.underlying22 hv
 obtain⟨fuel,hf⟩:=h
 have c9:Tryz.prog.cellsOf 9=1:=by kernel_rfl
 have e9:Tryz.prog.bytesOf 9=16:=by kernel_rfl
 obtain⟨ys,h1,_,h3⟩:=open_slW (n:=1) (E:=rE_) Tryz.underlying22 c9 (by decide) O hf hz (fun _=>True) (fun m cs y hy _ _=>by
  obtain⟨s,rfl,_,_⟩:=DataW.trod_string Tryz.underlying9 hy
  exact⟨s,⟨rfl,tV⟩,tV⟩)
 rw[e9] at h3
 exact⟨ys,h1,by unfold maxL at h3;omega⟩
end
end LawS
end
end Go.Proofs.YtcjemmihcplgdaaGreatDoor
