/- The walks of the functions and the plain laws. Own texts of this claim, packed: Zzprog9, Zzprog10, Zzprog11, Zzprog12, Zzprog13, Zzstarts, Zzprog15, ZzStepM. -/
import Derived.Test.YtcjemmihcplgdaaGreatX06
import Derived.Test.YtcjemmihcplgdaaGreatX04
import Derived.Test.YtcjemmihcplgdaaGreatX03
set_option linter.all false
namespace Go.Proofs.YtcjemmihcplgdaaGreat
open AL Go
set_option maxRecDepth 100000
section
open ref01 ref03 ref04 ref06 prog prog2 prog3 prog4 prog6 prog7 prog8 Part Rungs LeftM TrimM
namespace T
theorem ent106:Ent Tryz.prog 106:=ent_of kR
theorem ent137:Ent Tryz.prog 137:=ent_of kR
theorem ent107:Ent Tryz.prog 107:=ent_of kR
theorem z3:ZeroIs Tryz.prog 3 [.int .i64 0]:=zeroIs_of kR
end T
namespace prog9
theorem Trimmed_ok (s:SS) (hs:oK s):
 AL.Fn Tryz.prog 80 [spec s] [] (ι:=Unit) (fun N _=>tup [agg [fre N (strs (tR s).1.aC),frb (ix (hOl s) 0) N (sl 2 sE (tR s).1.sT)],ints (tR s).2]) (fun _=> []):=by
 refine fnI Tryz.func80 rfl rfl (fun w0 F0=> ?_)
 have hf0:=hs.few0;have hf1:=hs.few1;have hn8:=hs.n8;have hoq:okQ s.sT.length (ordS s):=order_okQ hs;have hol:(ordS s).length≤s.sT.length:=hoq.le;have hnd:(ordS s).Nodup:=order_nodup _;have hop:=ordS_pos s
 refine fcC (inhS 0 J) (fun hS0=> ?_)
 obtain⟨hsa0,hss0,hse0⟩:=sLn hS0
 refine sq (rg (bx (key:=1) (cs:= [sl 1 rE_ s.aC,sl 2 sE s.sT]) J fun b1=>(al (key:=2) T.z25 (eC (eC eZ)) fun b2=>(ag (nl (th (sq (rg (fP J T.fld25_0 (lP J J J T.one22 (calW (φs:= [sl 1 rE_ s.aC]) (φ:=fre w0.heap.size (sl 1 rE_ s.aC)) ⟨J,tV⟩ (prog.sClonestrE_ok _ O) T.ent67 (fun N hN=>fun h=>nw_mono hN h) (bd (css:= [(0,_)]) T.st25 (eC (eC eZ)) ⟨J,J,p1 (φ:=fre w0.heap.size (sl 1 rE_ s.aC)) J,tV⟩ (al (key:=4) T.z25 (eC (eC eZ)) fun b4=>(sPA (cs':= [fre w0.heap.size (sl 1 rE_ s.aC),eqv (.slice none 0 0)]) J J J T.agg25 J J (nl (th (sq (rg (al (key:=5) T.z63 (eC eZ) fun b5=>(nl (th (sq (rg (fP J T.fld25_1 (lP J J J T.one23 (fc (slenI 21 J) fun hm21=>(lnF J T.sl23 (mk (key:=23) (m:=s.sT.length) (enc:=nE) (y:=(0:Int)) J J T.mk63 (eC eZ) mL mL fun v23=>(al (key:=6) T.z63 (eC eZ) fun b6=>(storePO J J J J T.one63 J (nl (th (sq (sq (rg (nw 50 3 1 nE (knc 5 0 (osl 50 (.slice none 0 0)) J J eq_osl (nw 40 72 2 sE (knc 4 1 (osl 40 (.slice none 0 0)) J J eq_osl (lPA J J T.agg25 J (cal0 (φs:= [agg [sl 1 rE_ s.aC,sl 2 sE s.sT]]) (φ:=clo 137 [fp [sl 1 rE_ s.aC,sl 2 sE s.sT]]) ⟨J,tV⟩ (prog7.Left_ok s) T.ent106 (nl (th (bk ?_))))))))))))))))))))))))))))))))))))))))))))
 have hR0:(List.replicate s.sT.length (0:Int))=atL s.sT.length ((ordS s).take 0)∧([]:List Int)=(if ix (hOl s) 0=true then [] else(ordS s).take 0)∧([]:List SA)=([]:List Int).map (half s):=by
  exact⟨atL_zero _,by split<;>rfl,rfl⟩
 refine rf (κ:=(List Int) × Value × (List Int) × Value × (List SA)) 900 (fun p=> [(1,cell b1 [sl 1 rE_ s.aC,sl 2 sE s.sT]),(2,cell b2 [eqv (.slice none 0 0),eqv (.slice none 0 0)]),(4,cell b4 [fre w0.heap.size (sl 1 rE_ s.aC),osl 40 p.2.2.2.1]),(5,cell b5 [osl 50 p.2.1]),(6,cell b6 [osl 23 v23]),(23,own v23 3 1 nE p.1),(40,own p.2.2.2.1 72 2 sE p.2.2.2.2),(50,own p.2.1 3 1 nE p.2.2.1)]) (fun iR p=>p.1=atL s.sT.length ((ordS s).take iR)∧p.2.2.1=(if ix (hOl s) 0=true then [] else(ordS s).take iR)∧p.2.2.2.2=p.2.2.1.map (half s)) (fun c p=>False) J (LeftIt s hs) T.ent137 J (fun _=>J) (fun _=>J) ⟨List.replicate s.sT.length (0:Int),(.slice none 0 0),([]:List Int),(.slice none 0 0),([]:List SA)⟩ hR0 ⟨rI,rI,rI,rI,rI,rI,rI,rI,tV⟩ ?_ ?_ (fun k h=>h.elim) (fun id k h=>h.elim) (fun c k h=>h.elim)
 ·intro m0 ⟨at_,u50,fr,u40,sts⟩ x0 hG0 hx0 l R w1 M1 F1 hRd
  have hR0:at_=atL s.sT.length ((ordS s).take m0)∧fr=(if ix (hOl s) 0=true then [] else(ordS s).take m0)∧sts=fr.map (half s):=hG0
  show Ct _ _ _ _ _ ((900,obj l (.loop R)):: [(1,cell b1 [sl 1 rE_ s.aC,sl 2 sE s.sT]),(2,cell b2 [eqv (.slice none 0 0),eqv (.slice none 0 0)]),(4,cell b4 [fre w0.heap.size (sl 1 rE_ s.aC),osl 40 u40]),(5,cell b5 [osl 50 u50]),(6,cell b6 [osl 23 v23]),(23,own v23 3 1 nE at_),(40,own u40 72 2 sE sts),(50,own u50 3 1 nE fr)]) _
  obtain⟨h00,hm0,hxa,hxb⟩:=leftL_get hx0
  have hob:=hoq.1 m0 hm0
  have hal:at_.length=s.sT.length:=by rw[hR0.1];exact atL_len _ _
  have hfl:fr.length=m0:=by rw[hR0.2.1,if_neg (by simp[h00])];simp;omega
  have hstl:sts.length=m0:=by rw[hR0.2.2];simp[hfl]
  refine sq (rg (ag (nl (th (rg (ag (nl (aq hRd J (bk (sq (rg (lP J J J T.one63 (mv (lP J J J T.one63 (lnO J J T.sl63 (iO J J J T.sl63 O O (sO (φ:=int (fr.length:Int)) J J J T.one3 gB J (y':=(fr.length:Int)) J (nl (th (sq (rg (lP J J J T.one63 (mv (bsE (enc:=nE) (xs:= [x0.1]) (css:= [[int x0.1]]) T.mk63 ⟨J,J,p1 (φ:=int x0.1) J,tV⟩ J J J J (ap (key:=50) (zs:= [x0.1]) osl_eq J J J T.mk63 (by unfold maxL at*;simp;omega) (by unfold maxL at*;simp;omega) fun v36=>(storePO J J J J T.one63 J (nl (th (rg (fP J T.fld25_1 (lP J J J T.one23 (mv (bd (css:= [(0,_)]) T.st72 (eC (eC eZ)) ⟨J,J,p1 (φ:=sl 1 nE x0.2) J,tV⟩ (kn 40 (agg [sl 1 nE x0.2,sl 1 nE []]) J (agg_le (cs:= [sl 1 nE x0.2,eqv (.slice none 0 0)]) (ds:= [sl 1 nE x0.2,sl 1 nE []]) ⟨fun h=>h,fun h=>slnil h,tV⟩) (bsE (enc:=sE) (xs:= [(⟨x0.2,[]⟩)]) (css:= [[sl 1 nE x0.2,sl 1 nE []]]) T.mk23 ⟨J,J,pA (cs:= [sl 1 nE x0.2,sl 1 nE []]) J,tV⟩ J J J J (ap (key:=40) (zs:= [(⟨x0.2,[]⟩)]) osl_eq J J J T.mk23 (by unfold maxL at*;simp;omega) (by unfold maxL at*;simp;omega) fun v42=>(fP J T.fld25_1 (storePO J J J J T.one23 J (nl (eb ?_))))))))))))))))))))))))))))))))))))))))
  have hN0:(at_.set x0.1.toNat (fr.length:Int))=atL s.sT.length ((ordS s).take (m0+1))∧(fr++ [x0.1])=(if ix (hOl s) 0=true then [] else(ordS s).take (m0+1))∧(sts++ [(⟨x0.2,[]⟩)])=(fr++ [x0.1]).map (half s):=by
   have hfl2:fr.length=((ordS s).take m0).length:=by rw[hfl];simp;omega
   refine⟨?_,?_,?_⟩
   ·rw[hR0.1,hxa,hfl2,take_s hm0,atL_snoc (fresh hnd hm0) hob.1 hob.2]
   ·rw[if_neg (by simp[h00]),take_s hm0,hR0.2.1,if_neg (by simp[h00]),hxa]
   ·rw[List.map_append,←hR0.2.2,hxb,hxa];rfl
  exact rqN ⟨at_.set x0.1.toNat (fr.length:Int),v36,fr++ [x0.1],v42,sts++ [(⟨x0.2,[]⟩)]⟩ hN0 ⟨rI,rI,rI,rI,rI,rI,rI,rI,rI,tV⟩
 ·intro⟨at_,u50,fr,u40,sts⟩ hG0
  have hR0:at_=atL s.sT.length ((ordS s).take (leftL s).length)∧fr=(if ix (hOl s) 0=true then [] else(ordS s).take (leftL s).length)∧sts=fr.map (half s):=hG0
  show At _ _ _ _ [(1,cell b1 [sl 1 rE_ s.aC,sl 2 sE s.sT]),(2,cell b2 [eqv (.slice none 0 0),eqv (.slice none 0 0)]),(4,cell b4 [fre w0.heap.size (sl 1 rE_ s.aC),osl 40 u40]),(5,cell b5 [osl 50 u50]),(6,cell b6 [osl 23 v23]),(23,own v23 3 1 nE at_),(40,own u40 72 2 sE sts),(50,own u50 3 1 nE fr)]
  refine eb (th (sq (sq (rg (lP rfl rfl rfl T.one63 (lnO rfl rfl T.sl63 (bi rfl rfl b_eql (nl (th ?_)))))))))
  refine cd J (fun hc0=> ?_) (fun hc0=> ?_)
  ·try simp at hc0
   have hh0:ix (hOl s) 0=true:=by
    cases h:ix (hOl s) 0 with
    |true=>rfl
    |false=>
     exfalso
     have h2:=hR0.2.1
     rw[if_neg (by simp[h]),leftL_len h,List.take_length] at h2
     have h3:=hop
     rw[hc0] at h2
     rw[show ordS s= [] from h2.symm] at h3
     simp at h3
   refine sq (rg (fP J T.fld25_0 (lP J J J T.one22 (calW (φs:= [sl 1 rE_ s.aC]) (φ:=agg [fre w0.heap.size (sl 1 rE_ (nothing s.aC).aC),fre w0.heap.size (sl 2 sE (nothing s.aC).sT)]) ⟨J,tV⟩ (prog8.Nothing_ok s.aC O) T.ent107 (fun N hN=>fun h=>agg_le (cs:= [fre N (sl 1 rE_ (nothing s.aC).aC),fre N (sl 2 sE (nothing s.aC).sT)]) (ds:= [fre w0.heap.size (sl 1 rE_ (nothing s.aC).aC),fre w0.heap.size (sl 2 sE (nothing s.aC).sT)]) ⟨fun h=>nw_mono hN h,fun h=>nw_mono hN h,tV⟩ h) (sPA (cs':= [fre w0.heap.size (sl 1 rE_ (nothing s.aC).aC),fre w0.heap.size (sl 2 sE (nothing s.aC).sT)]) J J J T.agg25 J J (ag (nl (th (rt (rt_ ?_))))))))))
   refine kncA 2 1 (frb (ix (hOl s) 0) w0.heap.size (sl 2 sE (nothing s.aC).sT)) rfl rfl (frb_t hh0) ?_
   refine knA 3 (sl 1 nE []) rfl slnil ?_
   have hr0:(nothing s.aC).aC=((tR s).1.aC):=by
    rw[trimmed_hol hh0]
   have hr1:(nothing s.aC).sT=((tR s).1.sT):=by
    rw[trimmed_hol hh0]
   have hr2: []=((tR s).2):=by
    rw[trimmed_hol hh0]
   exact rE () [.cell 2 25,.tmp 3] J [agg [fre w0.heap.size (sl 1 rE_ (nothing s.aC).aC),frb (ix (hOl s) 0) w0.heap.size (sl 2 sE (nothing s.aC).sT)],sl 1 nE []] ⟨.agg J J T.agg25 J J,.tmp J,tV⟩ (cA3 (fun x0 x1 x2=>rV [agg [fre w0.heap.size (sl 1 rE_ x0),frb (ix (hOl s) 0) w0.heap.size (sl 2 sE x1)],sl 1 nE x2]) hr0 hr1 hr2) trivial eX
  ·try simp at hc0
   have h00:ix (hOl s) 0=false:=by
    cases h:ix (hOl s) 0 with
    |false=>rfl
    |true=>exact absurd (by rw[hR0.2.1,if_pos h]) hc0
   have hfr:fr=ordS s:=by rw[hR0.2.1,if_neg (by simp[h00]),leftL_len h00,List.take_length]
   have hat:at_=atL s.sT.length (ordS s):=by rw[hR0.1,leftL_len h00,List.take_length]
   have hfl:fr.length=(ordS s).length:=by rw[hfr]
   have hal:at_.length=s.sT.length:=by rw[hat];exact atL_len _ _
   refine sk (th (sq (sq (rg (lP J J J T.one63 (lnO J J T.sl63 (mv (nl (th (bk ?_))))))))))
   have hI0_0:0≤fr.length:=by
    first|omega|simp
   have hI0_1:sts=outs s 0:=by
    rw[hR0.2.2,hfr,outs_zero]
   refine lp (κ:=Nat × (List SA)) (fun p=> [(1,ptr 1 b1 0),(2,ptr 2 b2 0),(3,eqv (.slice none 0 0)),(4,ptr 4 b4 0),(5,ptr 5 b5 0),(6,ptr 6 b6 0),(50,osl 50 u50),(51,int (fr.length:Int)),(52,int (p.1:Int))]) (fun p=> [(1,cell b1 [sl 1 rE_ s.aC,sl 2 sE s.sT]),(2,cell b2 [eqv (.slice none 0 0),eqv (.slice none 0 0)]),(4,cell b4 [fre w0.heap.size (sl 1 rE_ s.aC),osl 40 u40]),(5,cell b5 [osl 50 u50]),(6,cell b6 [osl 23 v23]),(23,own v23 3 1 nE at_),(40,own u40 72 2 sE p.2),(50,own u50 3 1 nE fr)]) (fun p=>(p.1≤fr.length)∧(p.2=outs s p.1)) (fun p=>fr.length- p.1) ⟨0,sts⟩ ⟨hI0_0,hI0_1⟩ ⟨id,id,id,id,id,id,id,id,id,tV⟩ ⟨rI,rI,rI,rI,rI,rI,rI,rI,tV⟩ ?_
   intro⟨k,sts2⟩ hG0
   obtain⟨hk0,hI0⟩:(k≤fr.length)∧(sts2=outs s k):=hG0
   show Ct _ _ _ _ [(1,ptr 1 b1 0),(2,ptr 2 b2 0),(3,eqv (.slice none 0 0)),(4,ptr 4 b4 0),(5,ptr 5 b5 0),(6,ptr 6 b6 0),(50,osl 50 u50),(51,int (fr.length:Int)),(52,int (k:Int))] [(1,cell b1 [sl 1 rE_ s.aC,sl 2 sE s.sT]),(2,cell b2 [eqv (.slice none 0 0),eqv (.slice none 0 0)]),(4,cell b4 [fre w0.heap.size (sl 1 rE_ s.aC),osl 40 u40]),(5,cell b5 [osl 50 u50]),(6,cell b6 [osl 23 v23]),(23,own v23 3 1 nE at_),(40,own u40 72 2 sE sts2),(50,own u50 3 1 nE fr)] _
   have hsl:sts2.length=(ordS s).length:=by rw[hI0];exact outs_len s k
   refine sq (rg (bi J J b_lss (nl (th (sq ?_)))))
   refine cd J (fun hc1=> ?_) (fun hc1=> ?_)
   ·try simp at hc1
    have hkl:k<(ordS s).length:=by omega
    have hob:=hoq.1 k hkl
    rw[←hfr] at hob
    have hxn:(ix fr k).toNat<s.sT.length:=by omega
    have hox:=hs.st _ hxn
    have hacl:=hox.acl
    have hxl:=hox.len
    have hhf:ix sts2 k=half s (ix fr k):=by rw[hI0,hfr];exact outs_ix hkl
    have hha:(ix sts2 k).aP=keep s (ix fr k).toNat:=by rw[hhf];rfl
    refine sk (th (sq (bk (sq (rg (mv (iO J J J T.sl63 O O (lO J J gB J T.one3 (al (key:=10) T.z3 (eC eZ) fun b10=>(ag (sP (φ:=int (ix fr k)) J J J T.one3 J (nl (th (sq (rg (ag (nl (th (sq (sq (rg (fP J T.fld25_1 (lP J J J T.one23 (mv (iO J J J T.sl23 O O (fO J T.fld72_0 (lO J J gB J T.one63 (fc (slenI 62 J) fun hm62=>(lnF J T.sl63 (mv (nl (th (bk ?_)))))))))))))))))))))))))))))))))
    have hI1_0:0≤(ix sts2 k).aP.length:=by
     first|omega|simp
    have hI1_1:(0:Int)=orAll ((keep s (ix fr k).toNat).take 0)∧0≤(0:Int)∧(0:Int)<256:=by
     exact⟨rfl,O,O⟩
    refine lp (κ:=Nat × Int) (fun p=> [(1,ptr 1 b1 0),(2,ptr 2 b2 0),(3,eqv (.slice none 0 0)),(4,ptr 4 b4 0),(5,ptr 5 b5 0),(6,ptr 6 b6 0),(9,int (k:Int)),(10,ptr 10 b10 0),(11,int p.2),(50,osl 50 u50),(51,int (fr.length:Int)),(52,int (k:Int)),(62,sl 1 nE (ix sts2 k).aP),(63,int ((ix sts2 k).aP.length:Int)),(64,int (p.1:Int))]) (fun p=> [(1,cell b1 [sl 1 rE_ s.aC,sl 2 sE s.sT]),(2,cell b2 [eqv (.slice none 0 0),eqv (.slice none 0 0)]),(4,cell b4 [fre w0.heap.size (sl 1 rE_ s.aC),osl 40 u40]),(5,cell b5 [osl 50 u50]),(6,cell b6 [osl 23 v23]),(10,cell b10 [int (ix fr k)]),(23,own v23 3 1 nE at_),(40,own u40 72 2 sE sts2),(50,own u50 3 1 nE fr)]) (fun p=>(p.1≤(ix sts2 k).aP.length)∧(p.2=orAll ((keep s (ix fr k).toNat).take p.1)∧0≤p.2∧p.2<256)) (fun p=>(ix sts2 k).aP.length- p.1) ⟨0,(0:Int)⟩ ⟨hI1_0,hI1_1⟩ ⟨id,id,id,id,id,id,id,id,id,id,id,id,id,id,id,tV⟩ ⟨rI,rI,rI,rI,rI,rI,rI,rI,rI,tV⟩ ?_
    intro⟨k1,cn⟩ hG1
    obtain⟨hk1,hI1⟩:(k1≤(ix sts2 k).aP.length)∧(cn=orAll ((keep s (ix fr k).toNat).take k1)∧0≤cn∧cn<256):=hG1
    show Ct _ _ _ _ [(1,ptr 1 b1 0),(2,ptr 2 b2 0),(3,eqv (.slice none 0 0)),(4,ptr 4 b4 0),(5,ptr 5 b5 0),(6,ptr 6 b6 0),(9,int (k:Int)),(10,ptr 10 b10 0),(11,int cn),(50,osl 50 u50),(51,int (fr.length:Int)),(52,int (k:Int)),(62,sl 1 nE (ix sts2 k).aP),(63,int ((ix sts2 k).aP.length:Int)),(64,int (k1:Int))] [(1,cell b1 [sl 1 rE_ s.aC,sl 2 sE s.sT]),(2,cell b2 [eqv (.slice none 0 0),eqv (.slice none 0 0)]),(4,cell b4 [fre w0.heap.size (sl 1 rE_ s.aC),osl 40 u40]),(5,cell b5 [osl 50 u50]),(6,cell b6 [osl 23 v23]),(10,cell b10 [int (ix fr k)]),(23,own v23 3 1 nE at_),(40,own u40 72 2 sE sts2),(50,own u50 3 1 nE fr)] _
    refine sq (rg (bi J J b_lss (nl (th (sq ?_)))))
    refine cd J (fun hc2=> ?_) (fun hc2=> ?_)
    ·try simp at hc2
     have hkb:0≤ix (ix sts2 k).aP k1∧ix (ix sts2 k).aP k1<256:=by
         rw[hha] at hc2 ⊢
         exact acc_bd hox (keep_mem (ix_mem hc2)).1
     refine sk (th (sq (bk (sq (rg (iF J J T.sl63 O gB (lF J J T.one3 (ag (nl (th (rg (mv (mv (bi J J (b_orI O O O O) (ag (nl (eb (th (rg (bi J J (b_add i6) (mv (nl ?_))))))))))))))))))))))
     have hN0:(k1+1)≤((ix sts2 k).aP).length:=by
         first|omega|simp_all
     have hN1:((cn.toNat|||((ix ((ix sts2 k).aP) k1).toNat):Nat):Int)=orAll ((keep s (ix fr k).toNat).take (k1+1))∧0≤((cn.toNat|||((ix ((ix sts2 k).aP) k1).toNat):Nat):Int)∧((cn.toNat|||((ix ((ix sts2 k).aP) k1).toNat):Nat):Int)<256:=by
         refine⟨?_,O,or_lt256 hI1.2.2 hkb.2⟩
         rw[take_s (by rw[←hha];omega),orAll_snoc,←hI1.1,hha]
     exact ln (⟨k1+1,((cn.toNat|||(ix (ix sts2 k).aP k1).toNat:Nat):Int)⟩:Nat × Int) ⟨hN0,hN1⟩ dO ⟨id,id,id,id,id,id,id,id,id,id,id,id,id,id,id,tV⟩ ⟨rI,rI,rI,rI,rI,rI,rI,rI,rI,tV⟩
    ·try simp at hc2
     have hcn:cn=orAll (keep s (ix fr k).toNat):=by rw[hI1.1,show k1=(keep s (ix fr k).toNat).length by rw[←hha];omega,List.take_length]
     refine ex (xt_ (xt_ (xb (th (sq (rg (bsE (enc:=nE) (xs:= [(-1)]) (css:= [[int (-1)]]) T.mk63 ⟨J,J,p1 (φ:=int (-1)) J,tV⟩ J J J J (fP J T.fld25_0 (lP J J J T.one22 (fc (slenI 74 J) fun hm74=>(lnF J T.sl22 (cl (prog8.Repeat_ok s.aC.length O) T.ent82 trivial fun N76 v76=>(al (key:=14) T.z63 (eC eZ) fun b14=>(storePO J J J J T.one63 J (nl (th (sq (sq (rg (mv (cal0 (φs:= [int cn]) (φ:=clo 112 [fp [int cn]]) ⟨J,tV⟩ (prog3.In_ok cn) T.ent84 (nl (th (bk ?_))))))))))))))))))))))))
     have hR1:(List.replicate s.aC.length (-1))=nxL s (ix fr k) 0:=by
         exact nxL_zero _ _
     refine rf (κ:=(List Int)) 901 (fun p=> [(1,cell b1 [sl 1 rE_ s.aC,sl 2 sE s.sT]),(2,cell b2 [eqv (.slice none 0 0),eqv (.slice none 0 0)]),(4,cell b4 [fre w0.heap.size (sl 1 rE_ s.aC),osl 40 u40]),(5,cell b5 [osl 50 u50]),(6,cell b6 [osl 23 v23]),(10,cell b10 [int (ix fr k)]),(14,cell b14 [osl 30 v76]),(23,own v23 3 1 nE at_),(30,own v76 3 1 nE p),(40,own u40 72 2 sE sts2),(50,own u50 3 1 nE fr)]) (fun iR p=>p=nxL s (ix fr k) iR) (fun c p=>False) J (InIt cn O O) T.ent112 J (fun _=>J) (fun _=>J) (List.replicate s.aC.length (-1)) hR1 ⟨rI,rI,rI,rI,rI,rI,rI,rI,rI,rI,rI,tV⟩ ?_ ?_ (fun k h=>h.elim) (fun id k h=>h.elim) (fun c k h=>h.elim)
     ·intro m1 nx x1 hG1 hx1 l R w1 M1 F1 hRd
      have hR1:nx=nxL s (ix fr k) m1:=hG1
      obtain⟨a,rfl,ha63,hha2⟩:=listOf_get hx1
      rw[hcn] at hx1 hha2
      have hgo:=can_go hs hxn hha2
      have hnl:nx.length=s.aC.length:=by rw[hR1];simp[nxL]
      refine rg (ag (nl (aq hRd J (bk (dr (nh:=15) [0,0,0,0,8,0,56,120,248,0,1016,2040,4092,8188,16383,32767] T.mixed kR ?_)))))
      refine st_ J (fun _ _ _ gq kq=>lP (gq.1.trans J) J J T.one63 kq) ?_
      refine st_ J (fun _ _ _ gq kq=>mv' (gq.1.trans J) kq) ?_
      refine st_ J (fun _ _ _ gq kq=>lP (gq.1.trans J) J J T.one63 kq) ?_
      refine st_ J (fun _ _ _ gq kq=>fP (gq.1.trans J) T.fld25_1 kq) ?_
      refine st_ J (fun _ _ _ gq kq=>lP (gq.1.trans J) J J T.one23 kq) ?_
      refine st_ J (fun _ _ _ gq kq=>lP (gq.1.trans J) J J T.one3 kq) ?_
      refine st_ J (fun _ _ _ gq kq=>iF (gq.1.trans J) (gq.2.1.trans J) T.sl23 O gB kq) ?_
      refine st_ J (fun _ _ _ gq kq=>fF (gq.1.trans J) T.fld72_1 kq) ?_
      refine st_ J (fun _ _ _ gq kq=>lF (gq.1.trans J) J T.one63 kq) ?_
      refine st_ J (fun _ _ _ gq kq=>mv' (gq.1.trans J) kq) ?_
      refine st_ J (fun _ _ _ gq kq=>iF (gq.1.trans J) (gq.2.1.trans J) T.sl63 O gB kq) ?_
      refine st_ J (fun _ _ _ gq kq=>lF (gq.1.trans J) J T.one3 kq) ?_
      refine st_ J (fun _ _ _ gq kq=>iO (gq.1.trans J) J (gq.2.1.trans J) T.sl63 O O kq) ?_
      refine st_ J (fun _ _ _ gq kq=>lO (gq.1.trans J) J gB J T.one3 kq) ?_
      refine st_ J (fun _ _ _ gq kq=>iO (gq.1.trans J) J (gq.2.1.trans J) T.sl63 O O kq) ?_
      refine pn (sO (φ:=int (ix at_ (ix (ix s.sT (ix fr k).toNat).next a).toNat)) J J J T.one3 gB J (y':=(ix at_ (ix (ix s.sT (ix fr k).toNat).next a).toNat)) J (nl (eb ?_)))
      have hN0:(nx.set a (ix at_ ((ix ((ix s.sT ((ix fr k).toNat)).next) a).toNat)))=nxL s (ix fr k) (m1+1):=by
         rw[←nxL_succ hx1 O,←hR1,hat,atL_ix O,Int.toNat_of_nonneg hgo.2.1]
      exact rqN (nx.set a (ix at_ (ix (ix s.sT (ix fr k).toNat).next a).toNat)) hN0 ⟨rI,rI,rI,rI,rI,rI,rI,rI,rI,rI,rI,rI,tV⟩
     ·intro nx hG1
      have hR1:nx=nxL s (ix fr k) (listOf 63 cn).length:=hG1
      refine eb (th (rg (fP rfl T.fld25_1 (lP rfl rfl rfl T.one23 (mv (lP rfl rfl rfl T.one63 (iO rfl rfl rfl T.sl23 O O (fO rfl T.fld72_1 (fz 30 98 rfl rfl (sO (φ:=sl 1 nE nx) rfl rfl rfl T.one63 (gN O) rfl (y':=⟨(ix sts2 k).aP,nx⟩) rfl (nl (eb (th (rg (bi rfl rfl (b_add i6) (mv (nl ?_)))))))))))))))))
      have hN0:(k+1)≤fr.length:=by
         first|omega|simp_all
      have hN1:(sts2.set k (⟨(ix sts2 k).aP,nx⟩))=outs s (k+1):=by
         rw[hcn,nxL_end hs] at hR1
         rw[←outs_succ hkl,←hI0,hR1,hha]
         rw[show ix fr k=ix (ordS s) k by rw[hfr]]
         rfl
      exact ln (⟨k+1,sts2.set k (⟨(ix sts2 k).aP,nx⟩)⟩:Nat × (List SA)) ⟨hN0,hN1⟩ dO ⟨id,id,id,id,id,id,id,id,id,tV⟩ ⟨rI,rI,rI,rI,rI,rI,rI,rI,tV⟩
   ·try simp at hc1
    refine ex (xt_ (xt_ (xb (th (sq (fzcC 4 40 1 J J J J (fzcC 5 50 0 J J J J ?_)))))))
    refine drH (nh:=4) [0,0,1,7] [(none,[4]),(none,[5]),(some 2,[2]),(none,[])] T.mixed kR kR ?_
    refine stv (d:=102) (fun β0=>agg [fre w0.heap.size (sl 1 rE_ s.aC),sl 2 sE sts2]) [4] J (fun β β' hb=>J) (fun β0 _ _ _ _ gq gh kq=>lPA (gq.1.trans J) (gh.1.trans J) T.agg25 J kq) ?_
    refine stv (d:=103) (fun β0=>sl 1 nE fr) [5] J (fun β β' hb=>J) (fun β0 _ _ _ _ gq gh kq=>lP (gq.1.trans J) (gh.1.trans J) J T.one63 kq) ?_
    refine stw 2 (fun β0=>cell b2 [fre w0.heap.size (sl 1 rE_ s.aC),sl 2 sE sts2]) [2] J (fun β β' hb=>J) (fun β0 _ _ _ _ gq gh kq=>sPA (cs':= [fre w0.heap.size (sl 1 rE_ s.aC),sl 2 sE sts2]) (gq.1.trans J) (gh.1.trans J) (gq.2.1.trans J) T.agg25 J J kq) ?_
    refine stv (d:=3) (fun β0=>sl 1 nE fr) [] J (fun β β' hb=>J) (fun β0 _ _ _ _ gq gh kq=>ag' (gq.1.trans J) kq) ?_
    refine pnH fun β0=>(nl (th (rt ?_)))
    refine kncA 2 1 (frb (ix (hOl s) 0) w0.heap.size (sl 2 sE sts2)) rfl rfl (frb_f h00) ?_
    have hr0:s.aC=((tR s).1.aC):=by
     rw[trimmed_not h00]
    have hr1:sts2=((tR s).1.sT):=by
     rw[trimmed_not h00,hI0,show k=(ordS s).length by omega,outs_end]
    have hr2:fr=((tR s).2):=by
     rw[trimmed_not h00,hfr]
    exact rE () [.cell 2 25,.tmp 3] J [agg [fre w0.heap.size (sl 1 rE_ s.aC),frb (ix (hOl s) 0) w0.heap.size (sl 2 sE sts2)],sl 1 nE fr] ⟨.agg J J T.agg25 J J,.tmp J,tV⟩ (cA3 (fun x0 x1 x2=>rV [agg [fre w0.heap.size (sl 1 rE_ x0),frb (ix (hOl s) 0) w0.heap.size (sl 2 sE x1)],sl 1 nE x2]) hr0 hr1 hr2) trivial eX
end prog9
end
section
open ref01 ref03 ref04 ref06 prog prog2 prog3 prog4 prog5 prog6 prog7 prog8 prog9 Part Rungs LeftM TrimM Itoa Keys
namespace prog10
end prog10
end
section
open ref01 ref03 ref04 ref06 prog prog2 prog3 prog4 prog5 prog6 prog7 prog8 prog9 prog10 Part Rungs LeftM TrimM Itoa Keys RoundM
namespace prog11
end prog11
end
section
open ref01 ref03 ref04 ref06 prog prog2 prog3 prog4 prog5 prog6 prog7 prog8 prog9 prog10 prog11 Part Rungs LeftM TrimM Itoa Keys RoundM MergeM
namespace prog12
end prog12
end
section
open ref01 ref03 ref04 ref06 prog prog2 prog3 prog4 prog5 prog6 prog7 prog8 prog9 prog10 prog11 prog12 Part Rungs LeftM TrimM Itoa Keys RoundM MergeM
namespace prog13
end prog13
end
section
open ref01 ref03 ref04 ref06 prog2 Part TurnM
def stepS (s:SS) (x a:Int):Int:=if x<0 then-1 else ix (ix s.sT x.toNat).next a.toNat
def goS (s:SS) (l:List Int):Int:=l.foldl (stepS s) 0
theorem go_succ {s:SS} {l:List Int} {k:Nat} (h:k<l.length):(l.take (k+1)).foldl (stepS s) 0=stepS s ((l.take k).foldl (stepS s) 0) (ix l k):=by
 rw[take_s h,List.foldl_append];rfl
namespace starts
end starts
end
section
open ref01 ref03 ref04 ref06 prog prog2 prog3 prog10 prog11 prog12 prog13 starts Part TurnM Itoa
def idxF (p:Int→Bool) (l:List Int):Int:=if l.any p=true then(l.findIdx p:Int) else-1
theorem idx_none {p:Int→Bool} {l:List Int} (h:∀k,k<l.length→p (ix l k)=false):idxF p l= -1:=by
 unfold idxF
 rw[if_neg]
 intro h2
 obtain⟨x,hx,hp⟩:=List.any_eq_true.1 h2
 obtain⟨k,hk,rfl⟩:=List.getElem_of_mem hx
 have:=h k hk
 rw[ix_get hk,hp] at this
 cases this
theorem idx_some {p:Int→Bool} {l:List Int} {k:Nat} (hk:k<l.length) (hp:p (ix l k)=true) (h:∀j,j<k→p (ix l j)=false):idxF p l=(k:Int):=by
 unfold idxF
 rw[if_pos (List.any_eq_true.2 ⟨ix l k,Rungs.ix_memS hk,hp⟩)]
 congr 1
 refine(List.findIdx_eq hk).2 ⟨by rw[←ix_get hk];exact hp,fun j hj=> ?_⟩
 have:=h j hj
 rw[ix_get O] at this
 simp[this]
theorem idx_any {p:Int→Bool} {l:List Int}:decide (0≤idxF p l)=l.any p:=by
 unfold idxF
 split
 ·next h=>rw[h];simp
 ·next h=>simp at h ⊢;exact h
namespace prog15
end prog15
end
section
open ref01 ref03 ref04 ref06 prog15 starts Part Rungs LeftM TrimM RoundM BisM BisM5 WalkM
namespace StepM
def upF (q:List Mt):Nat→Nat→List Int
 |0,_=> []
 |n+1,k=>if 0≤(ix q k).before then(ix q k).action::upF q n (ix q k).before.toNat else []
def BackOK (q:List Mt):Prop:=∀k,k<q.length→0≤(ix q k).before→(ix q k).before<(k:Int)
theorem upF_fuel {q:List Mt} (hb:BackOK q):∀(k n:Nat),k<n→k<q.length→upF q n k=upF q (k+1) k:=by
 intro k
 induction k using Nat.strongRecOn with
 |_ k ih=>
  intro n hn hk
  obtain⟨m,rfl⟩:∃m,n=m+1:=⟨n- 1,O⟩
  unfold upF
  by_cases h:0≤(ix q k).before
  ·have:=hb k hk h
   rw[if_pos h,if_pos h,ih _ O m O O,ih _ O k O O]
  ·rw[if_neg h,if_neg h]
def wordTo (q:List Mt) (k:Nat):List Int:=(upF q (k+1) k).reverse
theorem wordTo_nil {q:List Mt} {k:Nat} (h:(ix q k).before<0):wordTo q k= []:=by
 unfold wordTo upF;rw[if_neg O];rfl
theorem wordTo_snoc {q:List Mt} (hb:BackOK q) {k:Nat} (hk:k<q.length) (h:0≤(ix q k).before):wordTo q k=wordTo q (ix q k).before.toNat++ [(ix q k).action]:=by
 have:=hb k hk h
 unfold wordTo
 rw[upF,if_pos h,List.reverse_cons,upF_fuel hb _ k O O]
theorem wordTo_len {q:List Mt} (hb:BackOK q):∀k,k<q.length→(wordTo q k).length≤k:=by
 intro k
 induction k using Nat.strongRecOn with
 |_ k ih=>
  intro hk
  by_cases h:0≤(ix q k).before
  ·have h1:=hb k hk h
   have h2:=ih (ix q k).before.toNat O O
   rw[wordTo_snoc hb hk h,List.length_append,List.length_singleton];omega
  ·rw[wordTo_nil O];simp
inductive Runs (T:SS):List Int→Nat→Prop
 |nil:Runs T [] 0
 |snoc {w:List Int} {x a:Nat}:Runs T w x→has (orAll (acc T x)) (a:Int)=true→Runs T (w++ [(a:Int)]) (ix (nxt T x) a).toNat
def xAt (T:SS) (w:List Int) (j:Nat):Int:=(w.take j).foldl (stepS T) 0
theorem xAt_zero (T:SS) (w:List Int):xAt T w 0=0:=by simp[xAt]
theorem xAt_succ {T:SS} {w:List Int} {j:Nat} (h:j<w.length):xAt T w (j+1)=stepS T (xAt T w j) (ix w j):=go_succ h
theorem xAt_left {T:SS} {w v:List Int} {j:Nat} (h:j≤w.length):xAt T (w++v) j=xAt T w j:=by
 unfold xAt;rw[List.take_append_of_le_length h]
theorem xAt_all (T:SS) (w:List Int):xAt T w w.length=goS T w:=by unfold xAt goS;rw[List.take_length]
theorem goS_snoc (T:SS) (w:List Int) (a:Int):goS T (w++ [a])=stepS T (goS T w) a:=by unfold goS;rw[List.foldl_append];rfl
theorem stepS_nat {T:SS} {x:Int} (h:0≤x) (a:Nat):stepS T x (a:Int)=ix (nxt T x.toNat) a:=by unfold stepS;rw[if_neg O];rfl
theorem Runs.lt {T:SS} (hT:oK T) {w:List Int} {x:Nat} (h:Runs T w x):x<T.sT.length:=by
 induction h with
 |nil=>have:=hT.few0;omega
 |snoc h ha ih=>have:=(or_go hT ih ha);omega
theorem Runs.go {T:SS} (hT:oK T) {w:List Int} {x:Nat} (h:Runs T w x):goS T w=(x:Int):=by
 induction h with
 |nil=>rfl
 |snoc h ha ih=>
  have:=or_go hT (h.lt hT) ha
  rw[goS_snoc,ih,stepS_nat O,Int.toNat_natCast];omega
def Alive (T:SS) (w:List Int):Prop:=∀j,j<w.length→0≤xAt T w j∧xAt T w j<(T.sT.length:Int)∧∃a:Nat,ix w j=(a:Int)∧has (orAll (acc T (xAt T w j).toNat)) (a:Int)=true
theorem ixI_left {l m:List Int} {j:Nat} (h:j<l.length):ix (l++m) j=ix l j:=by
 rw[ix_get (by simp;omega),ix_get h,List.getElem_append_left h]
theorem ixI_last {l:List Int} {x:Int}:ix (l++ [x]) l.length=x:=by rw[ix_get (by simp)];simp
theorem Runs.alive {T:SS} (hT:oK T) {w:List Int} {x:Nat} (h:Runs T w x):Alive T w:=by
 induction h with
 |nil=>intro j hj;simp at hj
 | @snoc w x a h ha ih=>
   intro j hj
   by_cases e:j<w.length
   ·rw[xAt_left O,ixI_left e];exact ih j e
   ·have:j=w.length:=by simp at hj;omega
    subst this
    have hlt:=h.lt hT
    rw[xAt_left (Nat.le_refl _),xAt_all,h.go hT,ixI_last]
    exact⟨O,O,a,rfl,by rw[Int.toNat_natCast];exact ha⟩
theorem alive_act {T:SS} (hT:oK T) {w:List Int} (h:Alive T w) {j:Nat} (hj:j<w.length):0≤ix w j∧ix w j<(T.aC.length:Int):=by
 obtain⟨h1,h2,a,h3,h4⟩:=h j hj
 have:=or_go hT (x:=(xAt T w j).toNat) O h4
 omega
theorem alive_next {T:SS} (hT:oK T) {w:List Int} (h:Alive T w):∀j,j≤w.length→0≤xAt T w j∧xAt T w j<(T.sT.length:Int)
 |0,_=>by rw[xAt_zero];have:=hT.few0;omega
 |j+1,hj=>by
  obtain⟨h1,h2,a,h3,h4⟩:=h j O
  have:=or_go hT (x:=(xAt T w j).toNat) O h4
  rw[xAt_succ O,h3,stepS_nat h1]
  omega
def leadI (x:SA) (a:Int):Int:=ix x.aP (idxF (fun u=>has u a) x.aP).toNat
def leadB (x:SA) (a:Int):Bool:=x.aP.any fun u=>has u a
theorem leadB_of {x:SA} {a:Nat} (h:has (orAll x.aP) (a:Int)=true):leadB x (a:Int)=true:=by
 obtain⟨u,hu,hh⟩:=(orAll_has _ _).1 h
 exact List.any_eq_true.2 ⟨u,hu,hh⟩
theorem lead_ix {x:SA} {a:Int} (h:leadB x a=true):0≤idxF (fun u=>has u a) x.aP∧idxF (fun u=>has u a) x.aP<(x.aP.length:Int)∧has (leadI x a) a=true:=by
 unfold leadB at h
 have e:idxF (fun u=>has u a) x.aP=((x.aP.findIdx fun u=>has u a:Nat):Int):=by unfold idxF;rw[if_pos h]
 have hl:x.aP.findIdx (fun u=>has u a)<x.aP.length:=List.findIdx_lt_length.2 (List.any_eq_true.1 h)
 refine⟨O,O,?_⟩
 unfold leadI
 rw[e,Int.toNat_natCast,ix_get hl]
 exact List.findIdx_getElem (w:=hl)
theorem lead_mem {x:SA} {a:Int} (h:leadB x a=true):leadI x a∈x.aP:=by
 obtain⟨h1,h2,_⟩:=lead_ix h
 exact ix_memS O
def stepL (T:SS) (w:List Int) (j:Nat):Int × Int:=(xAt T w j,leadI (ix T.sT (xAt T w j).toNat) (ix w j))
def pathL (T:SS) (w:List Int) (u:Int):List (Int × Int):=(List.range w.length).map (stepL T w)++ [(xAt T w w.length,u)]
theorem pathL_len (T:SS) (w:List Int) (u:Int):(pathL T w u).length=w.length+1:=by simp[pathL]
theorem pathL_mem {T:SS} (hT:oK T) {w:List Int} (h:Alive T w) {u:Int} (hu:u∈acc T (goS T w).toNat):∀p∈pathL T w u,0≤p.1∧p.1<(T.sT.length:Int)∧p.2∈acc T p.1.toNat:=by
 intro p hp
 unfold pathL at hp
 rcases List.mem_append.1 hp with hp|hp
 ·obtain⟨j,hj,rfl⟩:=List.mem_map.1 hp
  rw[List.mem_range] at hj
  obtain⟨h1,h2,a,h3,h4⟩:=h j hj
  refine⟨h1,h2,lead_mem ?_⟩
  rw[h3];exact leadB_of h4
 ·have:p=(xAt T w w.length,u):=by simpa using hp
  subst this
  have:=alive_next hT h w.length (Nat.le_refl _)
  exact⟨this.1,this.2,by rw[xAt_all];exact hu⟩
theorem pathL_at {T:SS} {w:List Int} {u:Int} {j:Nat} (hj:j<w.length):ix (pathL T w u) j=stepL T w j:=by
 unfold pathL
 rw[ix_get (by simp;omega),List.getElem_append_left (by simpa using hj)];simp
theorem pathL_end {T:SS} {w:List Int} {u:Int}:ix (pathL T w u) w.length=(xAt T w w.length,u):=by
 unfold pathL
 rw[ix_get (by simp),List.getElem_append_right (by simp)];simp
end StepM
end
end Go.Proofs.YtcjemmihcplgdaaGreat
