/- The walks of the functions and the plain laws. Own texts of this claim, packed: Zzprog18, Zzprog19, Zzprog20, Zzdivn, Zzdivn2, Zzdivn3, Zzspoil. -/
import Derived.Test.YtcjemmihcplgdaaGreatX06
import Derived.Test.YtcjemmihcplgdaaGreatX25
import Derived.Test.YtcjemmihcplgdaaGreatX16
import Derived.Test.YtcjemmihcplgdaaGreatX18
import Derived.Test.YtcjemmihcplgdaaGreatX24
import Derived.Test.YtcjemmihcplgdaaGreatX03
import Derived.Test.YtcjemmihcplgdaaGreatX12
set_option linter.all false
namespace Go.Proofs.YtcjemmihcplgdaaGreat
open AL Go
set_option maxRecDepth 100000
section
open ref01 ref03 ref04 ref06 prog prog2 prog3 prog4 prog6 prog7 Part Rungs LeftM
def leftN (N:Nat):Int × List Int→List AV:=fun p=> [int p.1,fre N (ints p.2)]
namespace prog18
theorem LeftItN (N0:Nat) (s:SS) (hs:oK s):
 ItN N0 Tryz.prog 137 [fp [strs s.aC,sl 2 sE s.sT]] (leftN N0) (leftL s):=by
 intro y Y Z hlaw hz hY0 hzN
 refine fnIG Tryz.func137 rfl rfl (fun w0 F0 hN0=> ?_)
 have hf0:=hs.few0;have hf1:=hs.few1;have hn8:=hs.n8;have hhl:=hollow_len s
 refine sq (rg (lFA J T.agg25 (Nat.le_of_ble_eq_true J) (cal0 (φs:= [agg [sl 1 rE_ s.aC,sl 2 sE s.sT]]) (φ:=sl 1 blE (hOl s)) ⟨J,tV⟩ (prog7.Hollows_ok s aS) T.ent138 (al (key:=3) T.z31 (eC eZ) fun b3=>(sP (φ:=sl 1 blE (hOl s)) J J J T.one31 J (nl (th (sq (sq (rg (lP J J J T.one31 (iF J J T.sl31 O (gK (k:=0) O) (lF J J T.one4 (nl (th ?_)))))))))))))))
 refine cd J (fun hc0=> ?_) (fun hc0=> ?_)
 ·try simp at hc0
  refine rt (rt_ ?_)
  exact r0 hz rfl (fun _=>andp_any7 (.inl (by unfold leftL;rw[if_pos hc0];exact hY0))) ⟨rI,tV⟩ (.inr rfl)
 ·try simp at hc0
  have h00:=hol_false (by rw[hc0];simp)
  refine sk (th (sq (rg (fF J T.fld25_1 (lF J J T.one23 (fc (slenI 22 J) fun hm22=>(lnF J T.sl23 (mk (key:=24) (m:=s.sT.length) (enc:=blE) (y:=false) J J T.mk31 (eC eZ) mL mL fun v24=>(al (key:=4) T.z31 (eC eZ) fun b4=>(storePO J J J J T.one31 J (nl (th (sq (rg (lP J J J T.one31 (iO J J J T.sl31 O (by simp;omega) (sO (φ:=bl true) J J J T.one4 (gN (by simp;omega)) J (y':=true) J (nl (th (sq (rg (bsO 27 (enc:=nE) (xs:= [0]) (css:= [[int 0]]) T.mk63 ⟨J,J,p1 (φ:=int 0) J,tV⟩ J J J J fun v27=>(al (key:=5) T.z63 (eC eZ) fun b5=>(storePO J J J J T.one63 J (nl (th (sq (rg (ag (nl (th (bk ?_))))))))))))))))))))))))))))))))
  have hI0_0:([0]:List Int)=bq (solid s) 0∧((List.replicate s.sT.length false).set 0 true)=marks s.sT.length ([0]:List Int)∧Y 0 hz∧0≤([0]:List Int).length:=by
   exact⟨rfl,marks_zero _,hY0,Nat.zero_le _⟩
  refine lp (κ:=Nat × (List Bool) × Value × (List Int) × HA) (fun p=> [(0,eqv y),(1,fp [sl 1 rE_ s.aC,sl 2 sE s.sT]),(3,ptr 3 b3 0),(4,ptr 4 b4 0),(5,ptr 5 b5 0),(6,int (p.1:Int))]) (fun p=> [(0,p.2.2.2.2),(3,cell b3 [sl 1 blE (hOl s)]),(4,cell b4 [osl 24 v24]),(5,cell b5 [osl 27 p.2.2.1]),(24,own v24 4 1 blE p.2.1),(27,own p.2.2.1 3 1 nE p.2.2.2.1)]) (fun p=>p.2.2.2.1=bq (solid s) p.1∧p.2.1=marks s.sT.length p.2.2.2.1∧Y p.1 p.2.2.2.2∧p.1≤p.2.2.2.1.length) (fun p=>s.sT.length- p.1) ⟨0,(List.replicate s.sT.length false).set 0 true,v27,([0]:List Int),hz⟩ hI0_0 ⟨id,id,id,id,id,id,tV⟩ ⟨rI,rI,rI,rI,rI,rI,tV⟩ ?_
  intro⟨i,met,u5,ord,hh⟩ hG0
  have hI0:ord=bq (solid s) i∧met=marks s.sT.length ord∧Y i hh∧i≤ord.length:=hG0
  show Ct _ _ _ _ [(0,eqv y),(1,fp [sl 1 rE_ s.aC,sl 2 sE s.sT]),(3,ptr 3 b3 0),(4,ptr 4 b4 0),(5,ptr 5 b5 0),(6,int (i:Int))] [(0,hh),(3,cell b3 [sl 1 blE (hOl s)]),(4,cell b4 [osl 24 v24]),(5,cell b5 [osl 27 u5]),(24,own v24 4 1 blE met),(27,own u5 3 1 nE ord)] _
  have hoq:=bq_ok hs i
  rw[←hI0.1] at hoq
  have hol:=hoq.le
  have hml:met.length=s.sT.length:=by rw[hI0.2.1];exact marks_len _ _
  refine sq (sq (rg (mv (lP J J J T.one63 (lnO J J T.sl63 (bi J J b_lss (nl (th ?_))))))))
  refine cd J (fun hc1=> ?_) (fun hc1=> ?_)
  ·try simp at hc1
   have hob:=hoq.1 i hc1
   have hox:=hs.st (ix ord i).toNat O
   have hxn:(ix ord i).toNat<s.sT.length:=by omega
   refine sk (th (sq (bk (sq ?_))))
   refine drH (nh:=10) [0,1,0,0,12,28,63,127,0,511] [(none,[]),(none,[]),(none,[5]),(none,[]),(none,[27]),(none,[27]),(none,[]),(none,[]),(some 7,[]),(some 7,[7])] T.mixed kR kR ?_
   refine stv (d:=34) (fun β0=>fp [sl 2 sE s.sT]) [] J (fun β β' hb=>J) (fun β0 _ _ _ _ gq gh kq=>fF (gq.1.trans J) T.fld25_1 kq) ?_
   refine stv (d:=35) (fun β0=>sl 2 sE s.sT) [] J (fun β β' hb=>J) (fun β0 _ _ _ _ gq gh kq=>lF (gq.1.trans J) J T.one23 kq) ?_
   refine stv (d:=36) (fun β0=>osl 27 u5) [5] J (fun β β' hb=>J) (fun β0 _ _ _ _ gq gh kq=>lP (gq.1.trans J) (gh.1.trans J) J T.one63 kq) ?_
   refine stv (d:=37) (fun β0=>int (i:Int)) [] J (fun β β' hb=>J) (fun β0 _ _ _ _ gq gh kq=>mv' (gq.1.trans J) kq) ?_
   refine stv (d:=38) (fun β0=>eptr 27 u5 1 i 0) [27] J (fun β β' hb=>J) (fun β0 _ _ _ _ gq gh kq=>iO (gq.1.trans J) (gh.1.trans J) (gq.2.1.trans J) T.sl63 O O kq) ?_
   refine stv (d:=39) (fun β0=>int (ix ord i)) [27] J (fun β β' hb=>J) (fun β0 _ _ _ _ gq gh kq=>lO (gq.1.trans J) (gh.1.trans J) gB J T.one3 kq) ?_
   refine stv (d:=40) (fun β0=>fp [sl 1 nE (ix s.sT (ix ord i).toNat).aP,sl 1 nE (ix s.sT (ix ord i).toNat).next]) [] J (fun β β' hb=>J) (fun β0 _ _ _ _ gq gh kq=>iF (gq.1.trans J) (gq.2.1.trans J) T.sl23 O gB kq) ?_
   refine stv (d:=41) (fun β0=>agg [sl 1 nE (ix s.sT (ix ord i).toNat).aP,sl 1 nE (ix s.sT (ix ord i).toNat).next]) [] J (fun β β' hb=>J) (fun β0 _ _ _ _ gq gh kq=>lFA (gq.1.trans J) T.agg72 (Nat.le_of_ble_eq_true J) kq) ?_
   refine sta 7 T.z72 (eC (eC eZ)) ?_
   refine stw 7 (fun β0=>cell (gbk (β0 8)) [sl 1 nE (ix s.sT (ix ord i).toNat).aP,sl 1 nE (ix s.sT (ix ord i).toNat).next]) [7] J (fun β β' hb=>by first|rw[hb 8 J]|(dsimp only;rw[hb 8 J])) (fun β0 _ _ _ _ gq gh kq=>sPA (cs':= [sl 1 nE (ix s.sT (ix ord i).toNat).aP,sl 1 nE (ix s.sT (ix ord i).toNat).next]) (gq.1.trans J) (gh.1.trans J) (gq.2.1.trans J) T.agg72 J J kq) ?_
   refine pnH fun β0=>(nl (th (sq (rg (nw 8 3 1 nE (ag (rtg (key:=8) 8 J (nl (th (sq (rg (ag (nl (th (sq (sq (rg (fP J T.fld72_0 (lP J J J T.one63 (fc (slenI 43 J) fun hm43=>(lnF J T.sl63 (mv (nl (th (bk ?_)))))))))))))))))))))))))
   have hI1_0:0≤(ix s.sT (ix ord i).toNat).aP.length:=by
    first|omega|simp
   have hI1_1:([]:List Int)=((ix s.sT (ix ord i).toNat).aP.take 0).filter (fun t=> !falls (ix s.sT (ix ord i).toNat) t (hOl s))∧(0:Int)=orAll ([]:List Int)∧0≤(0:Int)∧(0:Int)<256∧([]:List Int).length≤0:=by
    exact⟨by simp,rfl,O,O,by simp⟩
   refine lp (κ:=Nat × Value × (List Int) × Int) (fun p=> [(0,eqv y),(1,fp [sl 1 rE_ s.aC,sl 2 sE s.sT]),(3,ptr 3 b3 0),(4,ptr 4 b4 0),(5,ptr 5 b5 0),(6,int (i:Int)),(7,ptr 7 (gbk (β0 8)) 0),(8,osl 8 p.2.1),(9,int p.2.2.2),(43,sl 1 nE (ix s.sT (ix ord i).toNat).aP),(44,int ((ix s.sT (ix ord i).toNat).aP.length:Int)),(45,int (p.1:Int))]) (fun p=> [(0,hh),(3,cell b3 [sl 1 blE (hOl s)]),(4,cell b4 [osl 24 v24]),(5,cell b5 [osl 27 u5]),(7,cell (gbk (β0 8)) [sl 1 nE (ix s.sT (ix ord i).toNat).aP,sl 1 nE (ix s.sT (ix ord i).toNat).next]),(8,own p.2.1 3 1 nE p.2.2.1),(24,own v24 4 1 blE met),(27,own u5 3 1 nE ord)]) (fun p=>(p.1≤(ix s.sT (ix ord i).toNat).aP.length)∧(p.2.2.1=((ix s.sT (ix ord i).toNat).aP.take p.1).filter (fun t=> !falls (ix s.sT (ix ord i).toNat) t (hOl s))∧p.2.2.2=orAll p.2.2.1∧0≤p.2.2.2∧p.2.2.2<256∧p.2.2.1.length≤p.1)) (fun p=>(ix s.sT (ix ord i).toNat).aP.length- p.1) ⟨0,(.slice none 0 0),([]:List Int),(0:Int)⟩ ⟨hI1_0,hI1_1⟩ ⟨id,id,id,id,id,id,id,id,id,id,id,id,tV⟩ ⟨rI,rI,rI,rI,rI,rI,rI,rI,tV⟩ ?_
   intro⟨k1,u8,sets,cn⟩ hG1
   obtain⟨hk1,hI1⟩:(k1≤(ix s.sT (ix ord i).toNat).aP.length)∧(sets=((ix s.sT (ix ord i).toNat).aP.take k1).filter (fun t=> !falls (ix s.sT (ix ord i).toNat) t (hOl s))∧cn=orAll sets∧0≤cn∧cn<256∧sets.length≤k1):=hG1
   show Ct _ _ _ _ [(0,eqv y),(1,fp [sl 1 rE_ s.aC,sl 2 sE s.sT]),(3,ptr 3 b3 0),(4,ptr 4 b4 0),(5,ptr 5 b5 0),(6,int (i:Int)),(7,ptr 7 (gbk (β0 8)) 0),(8,osl 8 u8),(9,int cn),(43,sl 1 nE (ix s.sT (ix ord i).toNat).aP),(44,int ((ix s.sT (ix ord i).toNat).aP.length:Int)),(45,int (k1:Int))] [(0,hh),(3,cell b3 [sl 1 blE (hOl s)]),(4,cell b4 [osl 24 v24]),(5,cell b5 [osl 27 u5]),(7,cell (gbk (β0 8)) [sl 1 nE (ix s.sT (ix ord i).toNat).aP,sl 1 nE (ix s.sT (ix ord i).toNat).next]),(8,own u8 3 1 nE sets),(24,own v24 4 1 blE met),(27,own u5 3 1 nE ord)] _
   have hacl:=hox.acl
   refine sq (rg (bi J J b_lss (nl (th (sq ?_)))))
   refine cd J (fun hc2=> ?_) (fun hc2=> ?_)
   ·try simp at hc2
    have hac:=hox.ac k1 O
    refine sk (th (sq (bk (sq (rg (iF J J T.sl63 O gB (lF J J T.one3 (ag (nl (th (sq (rg (al (key:=12) T.z4 (eC eZ) fun b12=>(sP (φ:=bl true) J J J T.one4 J (nl (th (sq (sq (rg (mv (cal0 (φs:= [int (ix (ix s.sT (ix ord i).toNat).aP k1)]) (φ:=clo 112 [fp [int (ix (ix s.sT (ix ord i).toNat).aP k1)]]) ⟨J,tV⟩ (prog3.In_ok (ix (ix s.sT (ix ord i).toNat).aP k1)) T.ent84 (nl (th (bk ?_))))))))))))))))))))))))
    have hR0:true=((listOf 63 (ix (ix s.sT (ix ord i).toNat).aP k1)).take 0).all (fun a=> !ix (hOl s) (ix (ix s.sT (ix ord i).toNat).next a.toNat).toNat):=by
     simp
    refine rf (κ:=Bool) 900 (fun p=> [(0,hh),(3,cell b3 [sl 1 blE (hOl s)]),(4,cell b4 [osl 24 v24]),(5,cell b5 [osl 27 u5]),(7,cell (gbk (β0 8)) [sl 1 nE (ix s.sT (ix ord i).toNat).aP,sl 1 nE (ix s.sT (ix ord i).toNat).next]),(8,own u8 3 1 nE sets),(12,cell b12 [bl p]),(24,own v24 4 1 blE met),(27,own u5 3 1 nE ord)]) (fun iR p=>p=((listOf 63 (ix (ix s.sT (ix ord i).toNat).aP k1)).take iR).all (fun a=> !ix (hOl s) (ix (ix s.sT (ix ord i).toNat).next a.toNat).toNat)) (fun c p=>False) J (InIt (ix (ix s.sT (ix ord i).toNat).aP k1) O O) T.ent112 J (fun _=>J) (fun _=>J) true hR0 ⟨rI,rI,rI,rI,rI,rI,rI,rI,rI,tV⟩ ?_ ?_ (fun k h=>h.elim) (fun id k h=>h.elim) (fun c k h=>h.elim)
    ·intro m0 fi x0 hG0 hx0 l R w1 M1 F1 hRd
     have hR0:fi=((listOf 63 (ix (ix s.sT (ix ord i).toNat).aP k1)).take m0).all (fun a=> !ix (hOl s) (ix (ix s.sT (ix ord i).toNat).next a.toNat).toNat):=hG0
     obtain⟨a,rfl,ha63,hha⟩:=listOf_get hx0
     have hgo:=hox.go k1 O a hha
     have hnx:=hox.nx a hgo.1
     have hxl:=hox.len
     refine rg (ag (nl (aq hRd J (bk (dr (nh:=12) [0,1,3,3,11,3,59,123,255,511,1023,2047,4095] T.mixed kR ?_)))))
     refine st_ J (fun _ _ _ gq kq=>lP (gq.1.trans J) J J T.one4 kq) ?_
     refine st_ J (fun _ _ _ gq kq=>mv' (gq.1.trans J) kq) ?_
     refine sg_ (φ:=sl 1 blE (hOl s)) J J J J (List.mem_of_elem_eq_true J) (fun hgd=> ?_) ?_
     ·have hgd':=hgd
      try simp at hgd'
      exact fun _ _ _ gq kq=>lP (gq.1.trans J) J J T.one31 kq
     refine sg_ (φ:=ptr 7 (gbk (β0 8)) 1) J J J J (List.mem_of_elem_eq_true J) (fun hgd=> ?_) ?_
     ·have hgd':=hgd
      try simp at hgd'
      exact fun _ _ _ gq kq=>fP (gq.1.trans J) T.fld72_1 kq
     refine sg_ (φ:=sl 1 nE (ix s.sT (ix ord i).toNat).next) J J J J (List.mem_of_elem_eq_true J) (fun hgd=> ?_) ?_
     ·have hgd':=hgd
      try simp at hgd'
      exact fun _ _ _ gq kq=>lP (gq.1.trans (gif_t hgd)) J J T.one63 kq
     refine sg_ (φ:=int (a:Int)) J J J J (List.mem_of_elem_eq_true J) (fun hgd=> ?_) ?_
     ·have hgd':=hgd
      try simp at hgd'
      exact fun _ _ _ gq kq=>mv' (gq.1.trans J) kq
     refine sg_ (φ:=fp [int (ix (ix s.sT (ix ord i).toNat).next a)]) J J J J (List.mem_of_elem_eq_true J) (fun hgd=> ?_) ?_
     ·have hgd':=hgd
      try simp at hgd'
      exact fun _ _ _ gq kq=>iF (gq.1.trans (gif_t hgd)) (gq.2.1.trans (gif_t hgd)) T.sl63 O gB kq
     refine sg_ (φ:=int (ix (ix s.sT (ix ord i).toNat).next a)) J J J J (List.mem_of_elem_eq_true J) (fun hgd=> ?_) ?_
     ·have hgd':=hgd
      try simp at hgd'
      exact fun _ _ _ gq kq=>lF (gq.1.trans (gif_t hgd)) J T.one3 kq
     refine sg_ (φ:=fp [bl (ix (hOl s) (ix (ix s.sT (ix ord i).toNat).next a).toNat)]) J J J J (List.mem_of_elem_eq_true J) (fun hgd=> ?_) ?_
     ·have hgd':=hgd
      try simp at hgd'
      exact fun _ _ _ gq kq=>iF (gq.1.trans (gif_t hgd)) (gq.2.1.trans (gif_t hgd)) T.sl31 O gB kq
     refine sg_ (φ:=bl (ix (hOl s) (ix (ix s.sT (ix ord i).toNat).next a).toNat)) J J J J (List.mem_of_elem_eq_true J) (fun hgd=> ?_) ?_
     ·have hgd':=hgd
      try simp at hgd'
      exact fun _ _ _ gq kq=>lF (gq.1.trans (gif_t hgd)) J T.one4 kq
     refine sg_ (φ:=bl (!(ix (hOl s) (ix (ix s.sT (ix ord i).toNat).next a).toNat))) J J J J (List.mem_of_elem_eq_true J) (fun hgd=> ?_) ?_
     ·have hgd':=hgd
      try simp at hgd'
      exact fun _ _ _ gq kq=>no (gq.1.trans (gif_t hgd)) kq
     refine st_ J (fun _ _ _ gq kq=>pk (gq.1.trans J) (pk_and (x:= .tmp 53) (gq.1.trans J) (gq.2.1.trans J) J) kq) ?_
     refine pn (sP (φ:=bl (fi&&(!(ix (hOl s) (ix (ix s.sT (ix ord i).toNat).next a).toNat)))) J J J T.one4 J (nl (eb ?_)))
     have hN0:(fi&&(!(ix (hOl s) (ix (ix s.sT (ix ord i).toNat).next a).toNat)))=((listOf 63 (ix (ix s.sT (ix ord i).toNat).aP k1)).take (m0+1)).all (fun a=> !ix (hOl s) (ix (ix s.sT (ix ord i).toNat).next a.toNat).toNat):=by
      rw[fine_snoc hx0,hR0];simp
     exact rqN (fi&&(!(ix (hOl s) (ix (ix s.sT (ix ord i).toNat).next a).toNat))) hN0 ⟨rI,rI,rI,rI,rI,rI,rI,rI,rI,rI,tV⟩
    ·intro fi hG0
     have hR0:fi=((listOf 63 (ix (ix s.sT (ix ord i).toNat).aP k1)).take (listOf 63 (ix (ix s.sT (ix ord i).toNat).aP k1)).length).all (fun a=> !ix (hOl s) (ix (ix s.sT (ix ord i).toNat).next a.toNat).toNat):=hG0
     refine eb (th (sq (rg (lP rfl rfl rfl T.one4 (nl (th ?_))))))
     refine cd J (fun hc3=> ?_) (fun hc3=> ?_)
     ·try simp at hc3
      refine sq (rg (mv (mv (bsE (enc:=nE) (xs:= [(ix (ix s.sT (ix ord i).toNat).aP k1)]) (css:= [[int (ix (ix s.sT (ix ord i).toNat).aP k1)]]) T.mk63 ⟨J,J,p1 (φ:=int (ix (ix s.sT (ix ord i).toNat).aP k1)) J,tV⟩ J J J J (ap (key:=8) (zs:= [(ix (ix s.sT (ix ord i).toNat).aP k1)]) osl_eq J J J T.mk63 (by unfold maxL at*;simp;omega) (by unfold maxL at*;simp;omega) fun v68=>(ag (nl (th (rg (mv (mv (bi J J (b_orI O O O O) (ag (nl (eb (th (rg (bi J J (b_add i6) (mv (nl ?_))))))))))))))))))))
      have hN0:(k1+1)≤(ix s.sT (ix ord i).toNat).aP.length:=by
       first|omega|simp_all
      have hN1:(sets++ [(ix (ix s.sT (ix ord i).toNat).aP k1)])=((ix s.sT (ix ord i).toNat).aP.take (k1+1)).filter (fun t=> !falls (ix s.sT (ix ord i).toNat) t (hOl s))∧((cn.toNat|||(ix (ix s.sT (ix ord i).toNat).aP k1).toNat:Nat):Int)=orAll (sets++ [(ix (ix s.sT (ix ord i).toNat).aP k1)])∧0≤((cn.toNat|||(ix (ix s.sT (ix ord i).toNat).aP k1).toNat:Nat):Int)∧((cn.toNat|||(ix (ix s.sT (ix ord i).toNat).aP k1).toNat:Nat):Int)<256∧(sets++ [(ix (ix s.sT (ix ord i).toNat).aP k1)]).length≤(k1+1):=by
       have hfi:falls (ix s.sT (ix ord i).toNat) (ix (ix s.sT (ix ord i).toNat).aP k1) (hOl s)=false:=by
        have h1:fi=fine (ix s.sT (ix ord i).toNat) (ix (ix s.sT (ix ord i).toNat).aP k1) (hOl s):=by rw[hR0,List.take_length];rfl
        rw[fine_eq hox hn8 (ix_mem O),hc3] at h1;simpa using h1.symm
       refine⟨?_,?_,O,or_lt256 hI1.2.2.2.1 hac.2,by simp;omega⟩
       ·rw[filter_take_succ O,hI1.1];simp[hfi]
       ·rw[orAll_snoc,←hI1.2.1]
      exact ln (⟨k1+1,v68,sets++ [(ix (ix s.sT (ix ord i).toNat).aP k1)],((cn.toNat|||(ix (ix s.sT (ix ord i).toNat).aP k1).toNat:Nat):Int)⟩:Nat × Value × (List Int) × Int) ⟨hN0,hN1⟩ dO ⟨id,id,id,id,id,id,id,id,id,id,id,id,tV⟩ ⟨rI,rI,rI,rI,rI,rI,rI,rI,tV⟩
     ·try simp at hc3
      refine sk (eb (th (rg (bi J J (b_add i6) (mv (nl ?_))))))
      have hN0:(k1+1)≤(ix s.sT (ix ord i).toNat).aP.length:=by
       first|omega|simp_all
      have hN1:sets=((ix s.sT (ix ord i).toNat).aP.take (k1+1)).filter (fun t=> !falls (ix s.sT (ix ord i).toNat) t (hOl s))∧cn=orAll sets∧0≤cn∧cn<256∧sets.length≤(k1+1):=by
       have hfi:falls (ix s.sT (ix ord i).toNat) (ix (ix s.sT (ix ord i).toNat).aP k1) (hOl s)=true:=by
        have h1:fi=fine (ix s.sT (ix ord i).toNat) (ix (ix s.sT (ix ord i).toNat).aP k1) (hOl s):=by rw[hR0,List.take_length];rfl
        rw[fine_eq hox hn8 (ix_mem O),hc3] at h1;simpa using h1.symm
       refine⟨?_,hI1.2.1,hI1.2.2.1,hI1.2.2.2.1,O⟩
       rw[filter_take_succ O,hI1.1];simp[hfi]
      exact ln (⟨k1+1,u8,sets,cn⟩:Nat × Value × (List Int) × Int) ⟨hN0,hN1⟩ dO ⟨id,id,id,id,id,id,id,id,id,id,id,id,tV⟩ ⟨rI,rI,rI,rI,rI,rI,rI,rI,tV⟩
   ·try simp at hc2
    have hnh:=bq_solid hs h00 i (ix ord i) (by rw[←hI0.1];exact ix_mem hc1)
    have hsets:sets=keep s (ix ord i).toNat:=by rw[keep_filter hnh,hI1.1,show k1=(ix s.sT (ix ord i).toNat).aP.length by omega,List.take_length]
    have hcn:cn=orAll (keep s (ix ord i).toNat):=by rw[hI1.2.1,hsets]
    refine ex (xt_ (xt_ (xb (th (sq (sq (rg (mv (cal0 (φs:= [int cn]) (φ:=clo 112 [fp [int cn]]) ⟨J,tV⟩ (prog3.In_ok cn) T.ent84 (nl (th (bk ?_))))))))))))
    have hR1:ord=visit ord (((listOf 63 cn).take 0).map fun a=>ix (ix s.sT (ix ord i).toNat).next a.toNat)∧met=marks s.sT.length ord∧okQ s.sT.length ord:=by
     exact⟨by simp[visit],hI0.2.1,hoq⟩
    refine rf (κ:=(List Bool) × Value × (List Int)) 901 (fun p=> [(0,hh),(3,cell b3 [sl 1 blE (hOl s)]),(4,cell b4 [osl 24 v24]),(5,cell b5 [osl 27 p.2.1]),(7,cell (gbk (β0 8)) [sl 1 nE (ix s.sT (ix ord i).toNat).aP,sl 1 nE (ix s.sT (ix ord i).toNat).next]),(8,own u8 3 1 nE sets),(24,own v24 4 1 blE p.1),(27,own p.2.1 3 1 nE p.2.2)]) (fun iR p=>p.2.2=visit ord (((listOf 63 cn).take iR).map fun a=>ix (ix s.sT (ix ord i).toNat).next a.toNat)∧p.1=marks s.sT.length p.2.2∧okQ s.sT.length p.2.2) (fun c p=>False) J (InIt cn O O) T.ent112 J (fun _=>J) (fun _=>J) ⟨met,u5,ord⟩ hR1 ⟨rI,rI,rI,rI,rI,rI,rI,rI,tV⟩ ?_ ?_ (fun k h=>h.elim) (fun id k h=>h.elim) (fun c k h=>h.elim)
    ·intro m1 ⟨met2,u52,ord2⟩ x1 hG1 hx1 l R w1 M1 F1 hRd
     have hR1:ord2=visit ord (((listOf 63 cn).take m1).map fun a=>ix (ix s.sT (ix ord i).toNat).next a.toNat)∧met2=marks s.sT.length ord2∧okQ s.sT.length ord2:=hG1
     show Ct _ _ _ _ _ ((901,obj l (.loop R)):: [(0,hh),(3,cell b3 [sl 1 blE (hOl s)]),(4,cell b4 [osl 24 v24]),(5,cell b5 [osl 27 u52]),(7,cell (gbk (β0 8)) [sl 1 nE (ix s.sT (ix ord i).toNat).aP,sl 1 nE (ix s.sT (ix ord i).toNat).next]),(8,own u8 3 1 nE sets),(24,own v24 4 1 blE met2),(27,own u52 3 1 nE ord2)]) _
     obtain⟨a,rfl,ha63,hha⟩:=listOf_get hx1
     have hgo:=can_go hs hxn (by rw[←hcn];exact hha)
     have hol2:=hR1.2.2.le
     have hml2:met2.length=s.sT.length:=by rw[hR1.2.1];exact marks_len _ _
     refine rg (ag (nl (aq hRd J (bk (sq (rg (fP J T.fld72_1 (lP J J J T.one63 (mv (iF J J T.sl63 O gB (lF J J T.one3 (ag (nl (th (sq (rg (lP J J J T.one31 (mv (iO J J J T.sl31 O O (lO J J gB J T.one4 (no J (nl (th ?_)))))))))))))))))))))))
     refine cd J (fun hc4=> ?_) (fun hc4=> ?_)
     ·try simp at hc4
      refine sq (rg (lP J J J T.one31 (mv (iO J J J T.sl31 O O (sO (φ:=bl true) J J J T.one4 gB J (y':=true) J (nl (th (rg (lP J J J T.one63 (mv (bsE (enc:=nE) (xs:= [(ix (ix s.sT (ix ord i).toNat).next a)]) (css:= [[int (ix (ix s.sT (ix ord i).toNat).next a)]]) T.mk63 ⟨J,J,p1 (φ:=int (ix (ix s.sT (ix ord i).toNat).next a)) J,tV⟩ J J J J (ap (key:=27) (zs:= [(ix (ix s.sT (ix ord i).toNat).next a)]) osl_eq J J J T.mk63 (by unfold maxL at*;simp;omega) (by unfold maxL at*;simp;omega) fun v92=>(storePO J J J J T.one63 J (nl (eb ?_)))))))))))))))
      have hN0:(ord2++ [(ix (ix s.sT (ix ord i).toNat).next a)])=visit ord (((listOf 63 cn).take (m1+1)).map fun a=>ix (ix s.sT (ix ord i).toNat).next a.toNat)∧(met2.set (ix (ix s.sT (ix ord i).toNat).next a).toNat true)=marks s.sT.length (ord2++ [(ix (ix s.sT (ix ord i).toNat).next a)])∧okQ s.sT.length (ord2++ [(ix (ix s.sT (ix ord i).toNat).next a)]):=by
       have hcc:ord2.contains (ix (ix s.sT (ix ord i).toNat).next a)=false:=by
        rw[hR1.2.1,marks_ix O,Int.toNat_of_nonneg hgo.2.1] at hc4;exact hc4
       refine⟨?_,?_,okQ_snoc hR1.2.2 hgo.2.1 hgo.2.2.1 hcc⟩
       ·rw[take_at hx1,List.map_append,List.map_cons,List.map_nil,visit_snoc,←hR1.1,Int.toNat_natCast,if_pos (by simp only [hcc];simpa using hgo.2.1)]
       ·rw[hR1.2.1,marks_set hgo.2.1]
      exact rqN ⟨met2.set (ix (ix s.sT (ix ord i).toNat).next a).toNat true,v92,ord2++ [(ix (ix s.sT (ix ord i).toNat).next a)]⟩ hN0 ⟨rI,rI,rI,rI,rI,rI,rI,rI,rI,tV⟩
     ·try simp at hc4
      refine sk (eb ?_)
      have hN0:ord2=visit ord (((listOf 63 cn).take (m1+1)).map fun a=>ix (ix s.sT (ix ord i).toNat).next a.toNat)∧met2=marks s.sT.length ord2∧okQ s.sT.length ord2:=by
       have hcc:ord2.contains (ix (ix s.sT (ix ord i).toNat).next a)=true:=by
        rw[hR1.2.1,marks_ix O,Int.toNat_of_nonneg hgo.2.1] at hc4;exact hc4
       refine⟨?_,hR1.2.1,hR1.2.2⟩
       rw[take_at hx1,List.map_append,List.map_cons,List.map_nil,visit_snoc,←hR1.1,Int.toNat_natCast,if_neg (by simp only [hcc];simp)]
      exact rqN ⟨met2,u52,ord2⟩ hN0 ⟨rI,rI,rI,rI,rI,rI,rI,rI,rI,tV⟩
    ·intro⟨met2,u52,ord2⟩ hG1
     have hR1:ord2=visit ord (((listOf 63 cn).take (listOf 63 cn).length).map fun a=>ix (ix s.sT (ix ord i).toNat).next a.toNat)∧met2=marks s.sT.length ord2∧okQ s.sT.length ord2:=hG1
     show At _ _ _ _ [(0,hh),(3,cell b3 [sl 1 blE (hOl s)]),(4,cell b4 [osl 24 v24]),(5,cell b5 [osl 27 u52]),(7,cell (gbk (β0 8)) [sl 1 nE (ix s.sT (ix ord i).toNat).aP,sl 1 nE (ix s.sT (ix ord i).toNat).next]),(8,own u8 3 1 nE sets),(24,own v24 4 1 blE met2),(27,own u52 3 1 nE ord2)]
     refine eb (th (sq (rg ?_)))
     have hor:=hR1.1
     rw[List.take_length] at hor
     have ho2:ord2=bq (solid s) (i+1):=by rw[bq_succ hs (by rw[←hI0.1];exact hc1),←hI0.1,←hcn,hor]
     have hpx:ord<+:ord2:=by rw[hor];exact visit_prefix _ _
     have hix:ix ord2 i=ix ord i:=ix_prefix hpx hc1
     have hpl:=hpx.length_le
     have hla:=leftL_at hs h00 (i:=i) O (by rw[←hI0.1];exact hc1)
     rw[←hI0.1] at hla
     have hol3:=hR1.2.2.le
     refine mv (lP rfl rfl rfl T.one63 (mv (iO rfl rfl rfl T.sl63 O O (lO rfl rfl gB rfl T.one3 (mv (fzG (N:=N0) nE 8 98 hN0 (foot_one hzN) flat rfl rfl (callV (Hi:= [(0,hh)]) rfl (by show FnV _ _ [int (ix ord2 i),fre N0 (ints sets)] _ _ _;rw[hix,hsets];exact hlaw i hh (ix ord i,keep s (ix ord i).toNat) hI0.2.2.1 hla) ⟨rI,tV⟩ fun N bh=>oan 99 rfl fun hres=>(no rfl (nl (th ?_))))))))))
     refine cd J (fun hc5=> ?_) (fun hc5=> ?_)
     ·try simp at hc5
      refine rt (rb (rt_ (rt_ (rb ?_))))
      exact r0 bh.2 rfl (fun _=>andp_any7 (.inr (hres.2 hc5))) ⟨rI,tV⟩ (.inr rfl)
     ·try simp at hc5
      refine sk (eb (th (rg (mv (bi J J (b_add i6) (ag (nl ?_)))))))
      have hN0:ord2=bq (solid s) (i+1)∧met2=marks s.sT.length ord2∧Y (i+1) bh.2∧(i+1)≤ord2.length:=by
       refine⟨ho2,hR1.2.1,hres.1 (by simpa using hc5),?_⟩
       omega
      exact ln (⟨i+1,met2,u52,ord2,bh.2⟩:Nat × (List Bool) × Value × (List Int) × HA) hN0 dO ⟨id,id,id,id,id,id,tV⟩ ⟨rI,rI,rI,rI,rI,rI,tV⟩
  ·try simp at hc1
   refine ex (xt_ (xt_ (xb ?_)))
   exact r0 hh rfl (fun _=>andp_any7 (.inl (by have he:=bq_end hs (i:=i) (by rw[←hI0.1];exact hc1) O;rw[leftL_len h00,←he,←hI0.1,show ord.length=i by omega];exact hI0.2.2.1))) ⟨rI,tV⟩ (.inl rfl)
end prog18
end
section
open ref01 ref03 ref04 ref06 prog prog2 prog3 prog4 prog6 prog7 prog8 prog18 Part Rungs LeftM TrimM
namespace prog19
theorem TrimN_ok (s:SS) (hs:oK s):
 AL.Fn Tryz.prog 80 [spec s] [] (ι:=Unit) (fun N _=>tup [nspec N (tR s).1,ints (tR s).2]) (fun _=> []):=by
 refine fnI Tryz.func80 rfl rfl (fun w0 F0=> ?_)
 have hf0:=hs.few0;have hf1:=hs.few1;have hn8:=hs.n8;have hoq:okQ s.sT.length (ordS s):=order_okQ hs;have hol:(ordS s).length≤s.sT.length:=hoq.le;have hnd:(ordS s).Nodup:=order_nodup _;have hop:=ordS_pos s
 refine fcC (inhS 0 J) (fun hS0=> ?_)
 obtain⟨hsa0,hss0,hse0⟩:=sLn hS0
 refine sq (rg (bx (key:=1) (cs:= [sl 1 rE_ s.aC,sl 2 sE s.sT]) J fun b1=>(al (key:=2) T.z25 (eC (eC eZ)) fun b2=>(ag (nl (th (sq (rg (fP J T.fld25_0 (lP J J J T.one22 (calW (φs:= [sl 1 rE_ s.aC]) (φ:=fre w0.heap.size (sl 1 rE_ s.aC)) ⟨J,tV⟩ (prog.sClonestrE_ok _ O) T.ent67 (fun N hN=>fun h=>nw_mono hN h) (bd (css:= [(0,_)]) T.st25 (eC (eC eZ)) ⟨J,J,p1 (φ:=fre w0.heap.size (sl 1 rE_ s.aC)) J,tV⟩ (al (key:=4) T.z25 (eC (eC eZ)) fun b4=>(sPA (cs':= [fre w0.heap.size (sl 1 rE_ s.aC),eqv (.slice none 0 0)]) J J J T.agg25 J J (nl (th (sq (rg (al (key:=5) T.z63 (eC eZ) fun b5=>(nl (th (sq (rg (fP J T.fld25_1 (lP J J J T.one23 (fc (slenI 21 J) fun hm21=>(lnF J T.sl23 (mk (key:=23) (m:=s.sT.length) (enc:=nE) (y:=(0:Int)) J J T.mk63 (eC eZ) mL mL fun v23=>(al (key:=6) T.z63 (eC eZ) fun b6=>(storePO J J J J T.one63 J (nl (th (sq (sq (rg (nw 50 3 1 nE (knc 5 0 (osl 50 (.slice none 0 0)) J J eq_osl (nw 40 72 2 (stateN w0.heap.size) (knc 4 1 (osl 40 (.slice none 0 0)) J J eq_osl (lPA J J T.agg25 J (cal0 (φs:= [agg [sl 1 rE_ s.aC,sl 2 sE s.sT]]) (φ:=clo 137 [fp [sl 1 rE_ s.aC,sl 2 sE s.sT]]) ⟨J,tV⟩ (prog7.Left_ok s) T.ent106 (nl (th (bk ?_))))))))))))))))))))))))))))))))))))))))))))
 have hR0:(List.replicate s.sT.length (0:Int))=atL s.sT.length ((ordS s).take 0)∧([]:List Int)=(if ix (hOl s) 0=true then [] else(ordS s).take 0)∧([]:List SA)=([]:List Int).map (half s):=by
  exact⟨atL_zero _,by split<;>rfl,rfl⟩
 refine rfN (κ:=(List Int) × Value × (List Int) × Value × (List SA)) noM 900 (fun p=> [(1,cell b1 [sl 1 rE_ s.aC,sl 2 sE s.sT]),(2,cell b2 [eqv (.slice none 0 0),eqv (.slice none 0 0)]),(4,cell b4 [fre w0.heap.size (sl 1 rE_ s.aC),osl 40 p.2.2.2.1]),(5,cell b5 [osl 50 p.2.1]),(6,cell b6 [osl 23 v23]),(23,own v23 3 1 nE p.1),(40,own p.2.2.2.1 72 2 (stateN w0.heap.size) p.2.2.2.2),(50,own p.2.1 3 1 nE p.2.2.1)]) (fun iR p=>p.1=atL s.sT.length ((ordS s).take iR)∧p.2.2.1=(if ix (hOl s) 0=true then [] else(ordS s).take iR)∧p.2.2.2.2=p.2.2.1.map (half s)) (fun c p=>False) rfl (LeftItN w0.heap.size s hs) T.ent137 rfl (fun _=>rfl) (fun _=>rfl) ⟨List.replicate s.sT.length (0:Int),(.slice none 0 0),([]:List Int),(.slice none 0 0),([]:List SA)⟩ hR0 ⟨rI,rI,rI,rI,rI,rI,rI,rI,tV⟩ ?_ ?_ (fun k h=>h.elim) (fun id k h=>h.elim) (fun c k h=>h.elim)
 ·intro m0 ⟨at_,u50,fr,u40,sts⟩ x0 hG0 hx0 l R w1 M1 F1 hRd
  have hR0:at_=atL s.sT.length ((ordS s).take m0)∧fr=(if ix (hOl s) 0=true then [] else(ordS s).take m0)∧sts=fr.map (half s):=hG0
  show Ct _ _ _ _ _ ((900,obj l (.loop R)):: [(1,cell b1 [sl 1 rE_ s.aC,sl 2 sE s.sT]),(2,cell b2 [eqv (.slice none 0 0),eqv (.slice none 0 0)]),(4,cell b4 [fre w0.heap.size (sl 1 rE_ s.aC),osl 40 u40]),(5,cell b5 [osl 50 u50]),(6,cell b6 [osl 23 v23]),(23,own v23 3 1 nE at_),(40,own u40 72 2 (stateN w0.heap.size) sts),(50,own u50 3 1 nE fr)]) _
  obtain⟨h00,hm0,hxa,hxb⟩:=leftL_get hx0
  have hob:=hoq.1 m0 hm0
  have hal:at_.length=s.sT.length:=by rw[hR0.1];exact atL_len _ _
  have hfl:fr.length=m0:=by rw[hR0.2.1,if_neg (by simp[h00])];simp;omega
  have hstl:sts.length=m0:=by rw[hR0.2.2];simp[hfl]
  refine sq (rg (ag (nl (th (rg (ag (nl (aq hRd J (bk (sq (rg (lP J J J T.one63 (mv (lP J J J T.one63 (lnO J J T.sl63 (iO J J J T.sl63 O O (sO (φ:=int (fr.length:Int)) J J J T.one3 gB J (y':=(fr.length:Int)) J (nl (th (sq (rg (lP J J J T.one63 (mv (bsE (enc:=nE) (xs:= [x0.1]) (css:= [[int x0.1]]) T.mk63 ⟨J,J,p1 (φ:=int x0.1) J,tV⟩ J J J J (ap (key:=50) (zs:= [x0.1]) osl_eq J J J T.mk63 (by unfold maxL at*;simp;omega) (by unfold maxL at*;simp;omega) fun v36=>(storePO J J J J T.one63 J (nl (th (rg (fP J T.fld25_1 (lP J J J T.one23 (mv (bd (css:= [(0,_)]) T.st72 (eC (eC eZ)) ⟨J,J,p1 (φ:=fre w0.heap.size (sl 1 nE x0.2)) J,tV⟩ (kn 40 (agg [fre w0.heap.size (sl 1 nE x0.2),fre w0.heap.size (sl 1 nE [])]) J (agg_le (cs:= [fre w0.heap.size (sl 1 nE x0.2),eqv (.slice none 0 0)]) (ds:= [fre w0.heap.size (sl 1 nE x0.2),fre w0.heap.size (sl 1 nE [])]) ⟨fun h=>h,fun h=>nw_nil h,tV⟩) (bsE (enc:=stateN w0.heap.size) (xs:= [(⟨x0.2,[]⟩)]) (css:= [[fre w0.heap.size (sl 1 nE x0.2),fre w0.heap.size (sl 1 nE [])]]) T.mk23 ⟨J,J,pA (cs:= [fre w0.heap.size (sl 1 nE x0.2),fre w0.heap.size (sl 1 nE [])]) J,tV⟩ J J J J (ap (key:=40) (zs:= [(⟨x0.2,[]⟩)]) osl_eq J J J T.mk23 (by unfold maxL at*;simp;omega) (by unfold maxL at*;simp;omega) fun v42=>(fP J T.fld25_1 (storePO J J J J T.one23 J (nl (eb ?_))))))))))))))))))))))))))))))))))))))))
  have hN0:(at_.set x0.1.toNat (fr.length:Int))=atL s.sT.length ((ordS s).take (m0+1))∧(fr++ [x0.1])=(if ix (hOl s) 0=true then [] else(ordS s).take (m0+1))∧(sts++ [(⟨x0.2,[]⟩)])=(fr++ [x0.1]).map (half s):=by
   have hfl2:fr.length=((ordS s).take m0).length:=by rw[hfl];simp;omega
   refine⟨?_,?_,?_⟩
   ·rw[hR0.1,hxa,hfl2,take_s hm0,atL_snoc (fresh hnd hm0) hob.1 hob.2]
   ·rw[if_neg (by simp[h00]),take_s hm0,hR0.2.1,if_neg (by simp[h00]),hxa]
   ·rw[List.map_append,←hR0.2.2,hxb,hxa];rfl
  exact rqN ⟨at_.set x0.1.toNat (fr.length:Int),v36,fr++ [x0.1],v42,sts++ [(⟨x0.2,[]⟩)]⟩ hN0 ⟨rI,rI,rI,rI,rI,rI,rI,rI,rI,tV⟩
 ·intro⟨at_,u50,fr,u40,sts⟩ hG0
  have hR0:at_=atL s.sT.length ((ordS s).take (leftL s).length)∧fr=(if ix (hOl s) 0=true then [] else(ordS s).take (leftL s).length)∧sts=fr.map (half s):=hG0
  show At _ _ _ _ [(1,cell b1 [sl 1 rE_ s.aC,sl 2 sE s.sT]),(2,cell b2 [eqv (.slice none 0 0),eqv (.slice none 0 0)]),(4,cell b4 [fre w0.heap.size (sl 1 rE_ s.aC),osl 40 u40]),(5,cell b5 [osl 50 u50]),(6,cell b6 [osl 23 v23]),(23,own v23 3 1 nE at_),(40,own u40 72 2 (stateN w0.heap.size) sts),(50,own u50 3 1 nE fr)]
  refine eb (th (sq (sq (rg (lP rfl rfl rfl T.one63 (lnO rfl rfl T.sl63 (bi rfl rfl b_eql (nl (th ?_)))))))))
  refine cd J (fun hc0=> ?_) (fun hc0=> ?_)
  ·try simp at hc0
   have hh0:ix (hOl s) 0=true:=by
    cases h:ix (hOl s) 0 with
    |true=>rfl
    |false=>
     exfalso
     have h2:=hR0.2.1
     rw[if_neg (by simp[h]),leftL_len h,List.take_length] at h2
     have h3:=hop
     rw[hc0] at h2
     rw[show ordS s= [] from h2.symm] at h3
     simp at h3
   refine sq (rg (fP J T.fld25_0 (lP J J J T.one22 (calW (φs:= [sl 1 rE_ s.aC]) (φ:=agg [fre w0.heap.size (sl 1 rE_ (nothing s.aC).aC),fre w0.heap.size (sl 2 sE (nothing s.aC).sT)]) ⟨J,tV⟩ (prog8.Nothing_ok s.aC O) T.ent107 (fun N hN=>fun h=>agg_le (cs:= [fre N (sl 1 rE_ (nothing s.aC).aC),fre N (sl 2 sE (nothing s.aC).sT)]) (ds:= [fre w0.heap.size (sl 1 rE_ (nothing s.aC).aC),fre w0.heap.size (sl 2 sE (nothing s.aC).sT)]) ⟨fun h=>nw_mono hN h,fun h=>nw_mono hN h,tV⟩ h) (sPA (cs':= [fre w0.heap.size (sl 1 rE_ (nothing s.aC).aC),fre w0.heap.size (sl 2 sE (nothing s.aC).sT)]) J J J T.agg25 J J (ag (nl (th (rt (rt_ ?_))))))))))
   refine knA 3 (sl 1 nE []) rfl slnil ?_
   have hr0:(nothing s.aC).aC=((tR s).1).aC:=by
    rw[trimmed_hol hh0]
   have hr1:(nothing s.aC).sT=((tR s).1).sT:=by
    rw[trimmed_hol hh0]
   have hr2: []=((tR s).2):=by
    rw[trimmed_hol hh0]
   exact rE () [.cell 2 25,.tmp 3] J [agg [fre w0.heap.size (sl 1 rE_ (nothing s.aC).aC),fre w0.heap.size (sl 2 sE (nothing s.aC).sT)],sl 1 nE []] ⟨.agg J J T.agg25 J J,.tmp J,tV⟩ (cA3 (fun x0 x1 x2=>rV [agg [fre w0.heap.size (sl 1 rE_ x0),fre w0.heap.size (sl 2 sE x1)],sl 1 nE x2]) hr0 hr1 hr2) trivial eX
  ·try simp at hc0
   have h00:ix (hOl s) 0=false:=by
    cases h:ix (hOl s) 0 with
    |false=>rfl
    |true=>exact absurd (by rw[hR0.2.1,if_pos h]) hc0
   have hfr:fr=ordS s:=by rw[hR0.2.1,if_neg (by simp[h00]),leftL_len h00,List.take_length]
   have hat:at_=atL s.sT.length (ordS s):=by rw[hR0.1,leftL_len h00,List.take_length]
   have hfl:fr.length=(ordS s).length:=by rw[hfr]
   have hal:at_.length=s.sT.length:=by rw[hat];exact atL_len _ _
   refine sk (th (sq (sq (rg (lP J J J T.one63 (lnO J J T.sl63 (mv (nl (th (bk ?_))))))))))
   have hI0_0:0≤fr.length:=by
    first|omega|simp
   have hI0_1:sts=outs s 0:=by
    rw[hR0.2.2,hfr,outs_zero]
   refine lp (κ:=Nat × (List SA)) (fun p=> [(1,ptr 1 b1 0),(2,ptr 2 b2 0),(3,eqv (.slice none 0 0)),(4,ptr 4 b4 0),(5,ptr 5 b5 0),(6,ptr 6 b6 0),(50,osl 50 u50),(51,int (fr.length:Int)),(52,int (p.1:Int))]) (fun p=> [(1,cell b1 [sl 1 rE_ s.aC,sl 2 sE s.sT]),(2,cell b2 [eqv (.slice none 0 0),eqv (.slice none 0 0)]),(4,cell b4 [fre w0.heap.size (sl 1 rE_ s.aC),osl 40 u40]),(5,cell b5 [osl 50 u50]),(6,cell b6 [osl 23 v23]),(23,own v23 3 1 nE at_),(40,own u40 72 2 (stateN w0.heap.size) p.2),(50,own u50 3 1 nE fr)]) (fun p=>(p.1≤fr.length)∧(p.2=outs s p.1)) (fun p=>fr.length- p.1) ⟨0,sts⟩ ⟨hI0_0,hI0_1⟩ ⟨id,id,id,id,id,id,id,id,id,tV⟩ ⟨rI,rI,rI,rI,rI,rI,rI,rI,tV⟩ ?_
   intro⟨k,sts2⟩ hG0
   obtain⟨hk0,hI0⟩:(k≤fr.length)∧(sts2=outs s k):=hG0
   show Ct _ _ _ _ [(1,ptr 1 b1 0),(2,ptr 2 b2 0),(3,eqv (.slice none 0 0)),(4,ptr 4 b4 0),(5,ptr 5 b5 0),(6,ptr 6 b6 0),(50,osl 50 u50),(51,int (fr.length:Int)),(52,int (k:Int))] [(1,cell b1 [sl 1 rE_ s.aC,sl 2 sE s.sT]),(2,cell b2 [eqv (.slice none 0 0),eqv (.slice none 0 0)]),(4,cell b4 [fre w0.heap.size (sl 1 rE_ s.aC),osl 40 u40]),(5,cell b5 [osl 50 u50]),(6,cell b6 [osl 23 v23]),(23,own v23 3 1 nE at_),(40,own u40 72 2 (stateN w0.heap.size) sts2),(50,own u50 3 1 nE fr)] _
   have hsl:sts2.length=(ordS s).length:=by rw[hI0];exact outs_len s k
   refine sq (rg (bi J J b_lss (nl (th (sq ?_)))))
   refine cd J (fun hc1=> ?_) (fun hc1=> ?_)
   ·try simp at hc1
    have hkl:k<(ordS s).length:=by omega
    have hob:=hoq.1 k hkl
    rw[←hfr] at hob
    have hxn:(ix fr k).toNat<s.sT.length:=by omega
    have hox:=hs.st _ hxn
    have hacl:=hox.acl
    have hxl:=hox.len
    have hhf:ix sts2 k=half s (ix fr k):=by rw[hI0,hfr];exact outs_ix hkl
    have hha:(ix sts2 k).aP=keep s (ix fr k).toNat:=by rw[hhf];rfl
    refine sk (th (sq (bk (sq (rg (mv (iO J J J T.sl63 O O (lO J J gB J T.one3 (al (key:=10) T.z3 (eC eZ) fun b10=>(ag (sP (φ:=int (ix fr k)) J J J T.one3 J (nl (th (sq (rg (ag (nl (th (sq (sq (rg (fP J T.fld25_1 (lP J J J T.one23 (mv (iO J J J T.sl23 O O (fO J T.fld72_0 (lO J J gB J T.one63 (kn 62 (sl 1 nE (ix sts2 k).aP) J (fun h=>nw_le h) (fc (slenI 62 J) fun hm62=>(lnF J T.sl63 (mv (nl (th (bk ?_))))))))))))))))))))))))))))))))))
    have hI1_0:0≤(ix sts2 k).aP.length:=by
     first|omega|simp
    have hI1_1:(0:Int)=orAll ((keep s (ix fr k).toNat).take 0)∧0≤(0:Int)∧(0:Int)<256:=by
     exact⟨rfl,O,O⟩
    refine lp (κ:=Nat × Int) (fun p=> [(1,ptr 1 b1 0),(2,ptr 2 b2 0),(3,eqv (.slice none 0 0)),(4,ptr 4 b4 0),(5,ptr 5 b5 0),(6,ptr 6 b6 0),(9,int (k:Int)),(10,ptr 10 b10 0),(11,int p.2),(50,osl 50 u50),(51,int (fr.length:Int)),(52,int (k:Int)),(62,sl 1 nE (ix sts2 k).aP),(63,int ((ix sts2 k).aP.length:Int)),(64,int (p.1:Int))]) (fun p=> [(1,cell b1 [sl 1 rE_ s.aC,sl 2 sE s.sT]),(2,cell b2 [eqv (.slice none 0 0),eqv (.slice none 0 0)]),(4,cell b4 [fre w0.heap.size (sl 1 rE_ s.aC),osl 40 u40]),(5,cell b5 [osl 50 u50]),(6,cell b6 [osl 23 v23]),(10,cell b10 [int (ix fr k)]),(23,own v23 3 1 nE at_),(40,own u40 72 2 (stateN w0.heap.size) sts2),(50,own u50 3 1 nE fr)]) (fun p=>(p.1≤(ix sts2 k).aP.length)∧(p.2=orAll ((keep s (ix fr k).toNat).take p.1)∧0≤p.2∧p.2<256)) (fun p=>(ix sts2 k).aP.length- p.1) ⟨0,(0:Int)⟩ ⟨hI1_0,hI1_1⟩ ⟨id,id,id,id,id,id,id,id,id,id,id,id,id,id,id,tV⟩ ⟨rI,rI,rI,rI,rI,rI,rI,rI,rI,tV⟩ ?_
    intro⟨k1,cn⟩ hG1
    obtain⟨hk1,hI1⟩:(k1≤(ix sts2 k).aP.length)∧(cn=orAll ((keep s (ix fr k).toNat).take k1)∧0≤cn∧cn<256):=hG1
    show Ct _ _ _ _ [(1,ptr 1 b1 0),(2,ptr 2 b2 0),(3,eqv (.slice none 0 0)),(4,ptr 4 b4 0),(5,ptr 5 b5 0),(6,ptr 6 b6 0),(9,int (k:Int)),(10,ptr 10 b10 0),(11,int cn),(50,osl 50 u50),(51,int (fr.length:Int)),(52,int (k:Int)),(62,sl 1 nE (ix sts2 k).aP),(63,int ((ix sts2 k).aP.length:Int)),(64,int (k1:Int))] [(1,cell b1 [sl 1 rE_ s.aC,sl 2 sE s.sT]),(2,cell b2 [eqv (.slice none 0 0),eqv (.slice none 0 0)]),(4,cell b4 [fre w0.heap.size (sl 1 rE_ s.aC),osl 40 u40]),(5,cell b5 [osl 50 u50]),(6,cell b6 [osl 23 v23]),(10,cell b10 [int (ix fr k)]),(23,own v23 3 1 nE at_),(40,own u40 72 2 (stateN w0.heap.size) sts2),(50,own u50 3 1 nE fr)] _
    refine sq (rg (bi J J b_lss (nl (th (sq ?_)))))
    refine cd J (fun hc2=> ?_) (fun hc2=> ?_)
    ·try simp at hc2
     have hkb:0≤ix (ix sts2 k).aP k1∧ix (ix sts2 k).aP k1<256:=by
         rw[hha] at hc2 ⊢
         exact acc_bd hox (keep_mem (ix_mem hc2)).1
     refine sk (th (sq (bk (sq (rg (iF J J T.sl63 O gB (lF J J T.one3 (ag (nl (th (rg (mv (mv (bi J J (b_orI O O O O) (ag (nl (eb (th (rg (bi J J (b_add i6) (mv (nl ?_))))))))))))))))))))))
     have hN0:(k1+1)≤((ix sts2 k).aP).length:=by
         first|omega|simp_all
     have hN1:((cn.toNat|||((ix ((ix sts2 k).aP) k1).toNat):Nat):Int)=orAll ((keep s (ix fr k).toNat).take (k1+1))∧0≤((cn.toNat|||((ix ((ix sts2 k).aP) k1).toNat):Nat):Int)∧((cn.toNat|||((ix ((ix sts2 k).aP) k1).toNat):Nat):Int)<256:=by
         refine⟨?_,O,or_lt256 hI1.2.2 hkb.2⟩
         rw[take_s (by rw[←hha];omega),orAll_snoc,←hI1.1,hha]
     exact ln (⟨k1+1,((cn.toNat|||(ix (ix sts2 k).aP k1).toNat:Nat):Int)⟩:Nat × Int) ⟨hN0,hN1⟩ dO ⟨id,id,id,id,id,id,id,id,id,id,id,id,id,id,id,tV⟩ ⟨rI,rI,rI,rI,rI,rI,rI,rI,rI,tV⟩
    ·try simp at hc2
     have hcn:cn=orAll (keep s (ix fr k).toNat):=by rw[hI1.1,show k1=(keep s (ix fr k).toNat).length by rw[←hha];omega,List.take_length]
     refine ex (xt_ (xt_ (xb (th (sq (rg (bsE (enc:=nE) (xs:= [(-1)]) (css:= [[int (-1)]]) T.mk63 ⟨J,J,p1 (φ:=int (-1)) J,tV⟩ J J J J (fP J T.fld25_0 (lP J J J T.one22 (fc (slenI 74 J) fun hm74=>(lnF J T.sl22 (cl (prog8.Repeat_ok s.aC.length O) T.ent82 trivial fun N76 v76=>(al (key:=14) T.z63 (eC eZ) fun b14=>(storePO J J J J T.one63 J (nl (th (sq (sq (rg (mv (cal0 (φs:= [int cn]) (φ:=clo 112 [fp [int cn]]) ⟨J,tV⟩ (prog3.In_ok cn) T.ent84 (nl (th (bk ?_))))))))))))))))))))))))
     have hR1:(List.replicate s.aC.length (-1))=nxL s (ix fr k) 0:=by
         exact nxL_zero _ _
     refine rf (κ:=(List Int)) 901 (fun p=> [(1,cell b1 [sl 1 rE_ s.aC,sl 2 sE s.sT]),(2,cell b2 [eqv (.slice none 0 0),eqv (.slice none 0 0)]),(4,cell b4 [fre w0.heap.size (sl 1 rE_ s.aC),osl 40 u40]),(5,cell b5 [osl 50 u50]),(6,cell b6 [osl 23 v23]),(10,cell b10 [int (ix fr k)]),(14,cell b14 [osl 30 v76]),(23,own v23 3 1 nE at_),(30,own v76 3 1 nE p),(40,own u40 72 2 (stateN w0.heap.size) sts2),(50,own u50 3 1 nE fr)]) (fun iR p=>p=nxL s (ix fr k) iR) (fun c p=>False) J (InIt cn O O) T.ent112 J (fun _=>J) (fun _=>J) (List.replicate s.aC.length (-1)) hR1 ⟨rI,rI,rI,rI,rI,rI,rI,rI,rI,rI,rI,tV⟩ ?_ ?_ (fun k h=>h.elim) (fun id k h=>h.elim) (fun c k h=>h.elim)
     ·intro m1 nx x1 hG1 hx1 l R w1 M1 F1 hRd
      have hR1:nx=nxL s (ix fr k) m1:=hG1
      obtain⟨a,rfl,ha63,hha2⟩:=listOf_get hx1
      rw[hcn] at hx1 hha2
      have hgo:=can_go hs hxn hha2
      have hnl:nx.length=s.aC.length:=by rw[hR1];simp[nxL]
      refine rg (ag (nl (aq hRd J (bk (dr (nh:=15) [0,0,0,0,8,0,56,120,248,0,1016,2040,4092,8188,16383,32767] T.mixed kR ?_)))))
      refine st_ J (fun _ _ _ gq kq=>lP (gq.1.trans J) J J T.one63 kq) ?_
      refine st_ J (fun _ _ _ gq kq=>mv' (gq.1.trans J) kq) ?_
      refine st_ J (fun _ _ _ gq kq=>lP (gq.1.trans J) J J T.one63 kq) ?_
      refine st_ J (fun _ _ _ gq kq=>fP (gq.1.trans J) T.fld25_1 kq) ?_
      refine st_ J (fun _ _ _ gq kq=>lP (gq.1.trans J) J J T.one23 kq) ?_
      refine st_ J (fun _ _ _ gq kq=>lP (gq.1.trans J) J J T.one3 kq) ?_
      refine st_ J (fun _ _ _ gq kq=>iF (gq.1.trans J) (gq.2.1.trans J) T.sl23 O gB kq) ?_
      refine st_ J (fun _ _ _ gq kq=>fF (gq.1.trans J) T.fld72_1 kq) ?_
      refine st_ J (fun _ _ _ gq kq=>lF (gq.1.trans J) J T.one63 kq) ?_
      refine st_ J (fun _ _ _ gq kq=>mv' (gq.1.trans J) kq) ?_
      refine st_ J (fun _ _ _ gq kq=>iF (gq.1.trans J) (gq.2.1.trans J) T.sl63 O gB kq) ?_
      refine st_ J (fun _ _ _ gq kq=>lF (gq.1.trans J) J T.one3 kq) ?_
      refine st_ J (fun _ _ _ gq kq=>iO (gq.1.trans J) J (gq.2.1.trans J) T.sl63 O O kq) ?_
      refine st_ J (fun _ _ _ gq kq=>lO (gq.1.trans J) J gB J T.one3 kq) ?_
      refine st_ J (fun _ _ _ gq kq=>iO (gq.1.trans J) J (gq.2.1.trans J) T.sl63 O O kq) ?_
      refine pn (sO (φ:=int (ix at_ (ix (ix s.sT (ix fr k).toNat).next a).toNat)) J J J T.one3 gB J (y':=(ix at_ (ix (ix s.sT (ix fr k).toNat).next a).toNat)) J (nl (eb ?_)))
      have hN0:(nx.set a (ix at_ ((ix ((ix s.sT ((ix fr k).toNat)).next) a).toNat)))=nxL s (ix fr k) (m1+1):=by
         rw[←nxL_succ hx1 O,←hR1,hat,atL_ix O,Int.toNat_of_nonneg hgo.2.1]
      exact rqN (nx.set a (ix at_ (ix (ix s.sT (ix fr k).toNat).next a).toNat)) hN0 ⟨rI,rI,rI,rI,rI,rI,rI,rI,rI,rI,rI,rI,tV⟩
     ·intro nx hG1
      have hR1:nx=nxL s (ix fr k) (listOf 63 cn).length:=hG1
      refine eb (th (rg (fP rfl T.fld25_1 (lP rfl rfl rfl T.one23 (mv (lP rfl rfl rfl T.one63 (iO rfl rfl rfl T.sl23 O O (fO rfl T.fld72_1 (fzN nE 30 98 noM flat rfl rfl (sO (φ:=fre w0.heap.size (sl 1 nE nx)) rfl rfl rfl T.one63 (gN O) rfl (y':=⟨(ix sts2 k).aP,nx⟩) rfl (nl (eb (th (rg (bi rfl rfl (b_add i6) (mv (nl ?_)))))))))))))))))
      have hN0:(k+1)≤fr.length:=by
         first|omega|simp_all
      have hN1:(sts2.set k (⟨(ix sts2 k).aP,nx⟩))=outs s (k+1):=by
         rw[hcn,nxL_end hs] at hR1
         rw[←outs_succ hkl,←hI0,hR1,hha]
         rw[show ix fr k=ix (ordS s) k by rw[hfr]]
         rfl
      exact ln (⟨k+1,sts2.set k (⟨(ix sts2 k).aP,nx⟩)⟩:Nat × (List SA)) ⟨hN0,hN1⟩ dO ⟨id,id,id,id,id,id,id,id,id,tV⟩ ⟨rI,rI,rI,rI,rI,rI,rI,rI,tV⟩
   ·try simp at hc1
    refine ex (xt_ (xt_ (xb (th (sq (fzcNC sE 4 40 1 noM (fun _=>J) J J J (by decide) (fzcNC nE 5 50 0 noM flat J J J (by decide) ?_)))))))
    refine drH (nh:=4) [0,0,1,7] [(none,[4]),(none,[5]),(some 2,[2]),(none,[])] T.mixed kR kR ?_
    refine stv (d:=102) (fun β0=>agg [fre w0.heap.size (sl 1 rE_ s.aC),fre w0.heap.size (sl 2 sE sts2)]) [4] J (fun β β' hb=>J) (fun β0 _ _ _ _ gq gh kq=>lPA (gq.1.trans J) (gh.1.trans J) T.agg25 J kq) ?_
    refine stv (d:=103) (fun β0=>fre w0.heap.size (sl 1 nE fr)) [5] J (fun β β' hb=>J) (fun β0 _ _ _ _ gq gh kq=>lP (gq.1.trans J) (gh.1.trans J) J T.one63 kq) ?_
    refine stw 2 (fun β0=>cell b2 [fre w0.heap.size (sl 1 rE_ s.aC),fre w0.heap.size (sl 2 sE sts2)]) [2] J (fun β β' hb=>J) (fun β0 _ _ _ _ gq gh kq=>sPA (cs':= [fre w0.heap.size (sl 1 rE_ s.aC),fre w0.heap.size (sl 2 sE sts2)]) (gq.1.trans J) (gh.1.trans J) (gq.2.1.trans J) T.agg25 J J kq) ?_
    refine stv (d:=3) (fun β0=>fre w0.heap.size (sl 1 nE fr)) [] J (fun β β' hb=>J) (fun β0 _ _ _ _ gq gh kq=>ag' (gq.1.trans J) kq) ?_
    refine pnH fun β0=>(nl (th (rt ?_)))
    refine knA 3 (sl 1 nE fr) rfl (fun h=>nw_le h) ?_
    have hr0:s.aC=((tR s).1).aC:=by
     rw[trimmed_not h00]
    have hr1:sts2=((tR s).1).sT:=by
     rw[trimmed_not h00,hI0,show k=(ordS s).length by omega,outs_end]
    have hr2:fr=((tR s).2):=by
     rw[trimmed_not h00,hfr]
    exact rE () [.cell 2 25,.tmp 3] J [agg [fre w0.heap.size (sl 1 rE_ s.aC),fre w0.heap.size (sl 2 sE sts2)],sl 1 nE fr] ⟨.agg J J T.agg25 J J,.tmp J,tV⟩ (cA3 (fun x0 x1 x2=>rV [agg [fre w0.heap.size (sl 1 rE_ x0),fre w0.heap.size (sl 2 sE x1)],sl 1 nE x2]) hr0 hr1 hr2) trivial eX
end prog19
end
section
open ref01 ref03 ref04 ref06 prog prog2 prog3 prog6 prog13 Part Rungs LeftM TrimM divr divs divd dive divg divw divv
namespace prog20
theorem EveryN_ok (l:List ByteArray) (hl:l.length≤8):
 AL.Fn Tryz.prog 81 [strs l] [] (ι:=Unit) (fun N _=>nspec N (everyS l)) (fun _=> []):=by
 refine fnI Tryz.func81 rfl rfl (fun w0 F0=> ?_)
 have h2n:2^l.length≤2^8:=Nat.pow_le_pow_right O hl
 refine fcC (slenI 0 J) (fun hm0=> ?_)
 refine sq (rg (al (key:=2) T.z25 (eC (eC eZ)) fun b2=>(nl (th (sq (rg (mv (lnF J T.sl22 (mk (key:=7) (m:=l.length) (enc:=nE) (y:=(0:Int)) J J T.mk63 (eC eZ) (by unfold maxL at*;omega) (by unfold maxL at*;omega) fun v7=>(fzN nE 7 7 noM flat J J (bd (css:= [(1,_)]) T.st72 (eC (eC eZ)) ⟨J,J,p1 (φ:=fre w0.heap.size (sl 1 nE (List.replicate l.length (0:Int)))) J,tV⟩ (al (key:=3) T.z72 (eC (eC eZ)) fun b3=>(sPA (cs':= [eqv (.slice none 0 0),fre w0.heap.size (sl 1 nE (List.replicate l.length (0:Int)))]) J J J T.agg72 J J (nl (th (sq (sq (rg (mv (lnF J T.sl22 (bi J J (b_shlI O O) (mv (nl (th (bk ?_)))))))))))))))))))))))))
 refine nwC 30 3 1 nE (kncC 3 0 (osl 30 (.slice none 0 0)) rfl rfl eq_osl ?_)
 have hI0_0:0≤2^l.length:=by
  first|omega|simp
 have hI0_1:([]:List Int)=(List.range 0).map fun(x:Nat)=>(x:Int):=by
  rfl
 refine lp (κ:=Nat × Value × (List Int)) (fun p=> [(0,sl 1 rE_ l),(2,ptr 2 b2 0),(3,ptr 3 b3 0),(11,int ((2^l.length:Nat):Int)),(12,int (p.1:Int))]) (fun p=> [(2,cell b2 [eqv (.slice none 0 0),eqv (.slice none 0 0)]),(3,cell b3 [osl 30 p.2.1,fre w0.heap.size (sl 1 nE (List.replicate l.length 0))]),(30,own p.2.1 3 1 nE p.2.2)]) (fun p=>(p.1≤2^l.length)∧(p.2.2=(List.range p.1).map fun(x:Nat)=>(x:Int))) (fun p=>2^l.length- p.1) ⟨0,(.slice none 0 0),([]:List Int)⟩ ⟨hI0_0,hI0_1⟩ ⟨id,id,id,id,id,tV⟩ ⟨rI,rI,rI,tV⟩ ?_
 intro⟨k,v,acc⟩ hG0
 obtain⟨hk0,hI0⟩:(k≤2^l.length)∧(acc=(List.range k).map fun(x:Nat)=>(x:Int)):=hG0
 show Ct _ _ _ _ [(0,sl 1 rE_ l),(2,ptr 2 b2 0),(3,ptr 3 b3 0),(11,int ((2^l.length:Nat):Int)),(12,int (k:Int))] [(2,cell b2 [eqv (.slice none 0 0),eqv (.slice none 0 0)]),(3,cell b3 [osl 30 v,fre w0.heap.size (sl 1 nE (List.replicate l.length 0))]),(30,own v 3 1 nE acc)] _
 have hlen:acc.length=k:=by rw[hI0];simp
 refine sq (rg (bi J J b_lss (nl (th (sq ?_)))))
 refine cd J (fun hc0=> ?_) (fun hc0=> ?_)
 ·try simp at hc0
  have hkk:k<2^l.length:=by exact_mod_cast hc0
  refine sk (th (sq (bk (sq (rg (mv (ag (nl (th (rg (fP J T.fld72_0 (lP J J J T.one63 (mv (bsE (enc:=nE) (xs:= [(k:Int)]) (css:= [[int (k:Int)]]) T.mk63 ⟨J,J,p1 (φ:=int (k:Int)) J,tV⟩ J J J J (ap (key:=30) (zs:= [(k:Int)]) osl_eq J J J T.mk63 (by unfold maxL at*;simp;omega) (by unfold maxL at*;simp;omega) fun v19=>(fP J T.fld72_0 (storePO J J J J T.one63 J (nl (eb (th (rg (bi J J (b_add i6) (mv (nl ?_))))))))))))))))))))))))
  have hN0:(k+1)≤2^l.length:=by
   first|omega|simp_all
  have hN1:(acc++ [(k:Int)])=(List.range (k+1)).map fun(x:Nat)=>(x:Int):=by
   rw[hI0,List.range_succ,List.map_append];rfl
  exact ln (⟨k+1,v19,acc++ [(k:Int)]⟩:Nat × Value × (List Int)) ⟨hN0,hN1⟩ dO ⟨id,id,id,id,id,tV⟩ ⟨rI,rI,rI,tV⟩
 ·try simp at hc0
  have hkk:2^l.length≤k:=by first|exact_mod_cast hc0|exact Nat.le_of_not_lt (by exact_mod_cast hc0)
  refine ex (xt_ (xt_ (xb (th (sq (fzcNC nE 3 30 0 noM flat J J J (by decide) ?_))))))
  refine drH (nh:=6) [0,1,0,4,15,31] [(none,[]),(none,[]),(none,[3]),(some 25,[]),(none,[]),(some 2,[2])] T.mixed kR kR ?_
  refine stv (d:=22) (fun β0=>sl 1 rE_ l) [] J (fun β β' hb=>J) (fun β0 _ _ _ _ gq gh kq=>mv' (gq.1.trans J) kq) ?_
  refine stv (d:=23) (fun β0=>fre w0.heap.size (sl 1 rE_ l)) [] J (fun β β' hb=>J) (fun β0 _ _ _ _ gq gh kq=>calW (φs:= [sl 1 rE_ l]) (φ:=fre w0.heap.size (sl 1 rE_ l)) ⟨(gq.1.trans J),tV⟩ (prog.sClonestrE_ok _ O) T.ent67 (fun N hN=>fun h=>nw_mono hN h) kq) ?_
  refine stv (d:=24) (fun β0=>agg [fre w0.heap.size (sl 1 nE acc),fre w0.heap.size (sl 1 nE (List.replicate l.length 0))]) [3] J (fun β β' hb=>J) (fun β0 _ _ _ _ gq gh kq=>lPA (gq.1.trans J) (gh.1.trans J) T.agg72 J kq) ?_
  refine stc (d:=25) (e:=72) (n:=2) (enc:=stateN w0.heap.size) (xs:= [(⟨acc,List.replicate l.length 0⟩)]) 25 [] rfl (fun β0 _ _ _ _ gq gh kq=>bsO 25 (enc:=stateN w0.heap.size) (xs:= [(⟨acc,List.replicate l.length 0⟩)]) (css:= [[fre w0.heap.size (sl 1 nE acc),fre w0.heap.size (sl 1 nE (List.replicate l.length 0))]]) T.mk23 ⟨rfl,rfl,pA (cs:= [fre w0.heap.size (sl 1 nE acc),fre w0.heap.size (sl 1 nE (List.replicate l.length 0))]) (by exact(gq.1.trans rfl)),tV⟩ rfl rfl rfl rfl fun v=>kq v) ?_
  refine stv (d:=26) (fun β0=>agg [fre w0.heap.size (sl 1 rE_ l),osl 25 (sv (β0 3))]) [] J (fun β β' hb=>by first|rw[hb 3 J]|(dsimp only;rw[hb 3 J])) (fun β0 _ _ _ _ gq gh kq=>bd (css:= [(0,_),(1,_)]) T.st25 (eC (eC eZ)) ⟨J,J,p1 (φ:=fre w0.heap.size (sl 1 rE_ l)) (by exact(gq.1.trans J)),⟨J,J,p1 (φ:=osl 25 (sv (β0 3))) (by exact(gq.2.1.trans J)),tV⟩⟩ kq) ?_
  refine stw 2 (fun β0=>cell b2 [fre w0.heap.size (sl 1 rE_ l),osl 25 (sv (β0 3))]) [2] J (fun β β' hb=>by first|rw[hb 3 J]|(dsimp only;rw[hb 3 J])) (fun β0 _ _ _ _ gq gh kq=>sPA (cs':= [fre w0.heap.size (sl 1 rE_ l),osl 25 (sv (β0 3))]) (gq.1.trans J) (gh.1.trans J) (gq.2.1.trans J) T.agg25 J J kq) ?_
  refine pnH fun β0=>(nl (th (rt ?_)))
  refine fzcNA sE 2 25 1 noM (fun _=>rfl) rfl rfl rfl (by decide) ?_
  have hr0:l=(everyS l).aC:=by
   rfl
  have hr1: [(⟨acc,List.replicate l.length 0⟩)]=(everyS l).sT:=by
   unfold everyS;rw[hI0,show k=2^l.length by omega]
  exact rE () [.cell 2 25] J [agg [fre w0.heap.size (sl 1 rE_ l),fre w0.heap.size (sl 2 sE [(⟨acc,List.replicate l.length 0⟩)])]] ⟨.agg J J T.agg25 J J,tV⟩ (cA2 (fun x0 x1=>rV [agg [fre w0.heap.size (sl 1 rE_ x0),fre w0.heap.size (sl 2 sE x1)]]) hr0 hr1) trivial eX
end prog20
end
section
open ref01 ref03 ref04 ref06 prog prog2 prog3 prog4 prog6 prog13 Part Rungs LeftM TrimM RoundM MergeM BisM BisM4 BisM5 WalkM StepM WitM JudgM JudgM2 refw judg wit refj sysw divr divs divd dive divg divw divv divf divc LevM LevM2 ChsM QuoM FailM DivM QuoW divq prog18 prog19 prog20
namespace divn
theorem QuotN_ok (t s:SS) (ht:oK t) (hs:oK s) (hts:t.aC=s.aC):
 AL.Fn Tryz.prog 51 [spec t,spec s] [] (ι:=Unit) (fun N _=>tup [nspec N (quoS t s).1,bl (quoS t s).2]) (fun _=> []):=by
 refine fnI Tryz.func51 rfl rfl (fun w0 F0=> ?_)
 have hop:=ordS_pos s;have f1:=ht.few1;have f2:=ht.few0;have hn8:=ht.n8
 refine fcC (inhS 0 J) (fun hS0=> ?_)
 obtain⟨hsa0,hss0,hse0⟩:=sLn hS0
 refine fcC (inhS 1 J) (fun hS1=> ?_)
 obtain⟨hsa1,hss1,hse1⟩:=sLn hS1
 refine sq (rg (bx (key:=2) (cs:= [sl 1 rE_ t.aC,sl 2 sE t.sT]) J fun b2=>(bx (key:=3) (cs:= [sl 1 rE_ s.aC,sl 2 sE s.sT]) J fun b3=>(al (key:=4) T.z25 (eC (eC eZ)) fun b4=>(al (key:=5) T.z4 (eC eZ) fun b5=>(nl (th (sq (rg (lPA J J T.agg25 J (calW (φs:= [agg [sl 1 rE_ s.aC,sl 2 sE s.sT]]) (φ:=tup [agg [sl 1 rE_ ((tR s).1.aC),sl 2 sE ((tR s).1.sT)],sl 1 nE ((tR s).2)]) ⟨J,tV⟩ (prog9.Trimmed_ok s aS) T.ent80 (fun N hN=>fun h=>tup_le (cs:= [agg [fre N (sl 1 rE_ ((tR s).1.aC)),frb (ix (hOl s) 0) N (sl 2 sE ((tR s).1.sT))],sl 1 nE ((tR s).2)]) (ds:= [agg [sl 1 rE_ ((tR s).1.aC),sl 2 sE ((tR s).1.sT)],sl 1 nE ((tR s).2)]) ⟨fun h=>agg_le (cs:= [fre N (sl 1 rE_ ((tR s).1.aC)),frb (ix (hOl s) 0) N (sl 2 sE ((tR s).1.sT))]) (ds:= [sl 1 rE_ ((tR s).1.aC),sl 2 sE ((tR s).1.sT)]) ⟨fun h=>nw_le h,fun h=>frb_le h,tV⟩ h,fun h=>h,tV⟩ h) (mv (xt J J (xt J J (sPA (cs':= [sl 1 rE_ ((tR s).1.aC),sl 2 sE ((tR s).1.sT)]) J J J T.agg25 J J (ag (nl (th (sq (sq (rg (mv (fc (slenI 26 J) fun hm26=>(lnF J T.sl63 (bi J J b_eql (nl (th ?_)))))))))))))))))))))))))))
 refine cd J (fun hc0=> ?_) (fun hc0=> ?_)
 ·try simp at hc0
  have hh0:ix (hOl s) 0=true:=by
   cases h:ix (hOl s) 0 with
   |true=>rfl
   |false=>
    exfalso
    rw[trimmed_not h] at hc0
    have h3:=hop
    rw[show ordS s= [] from hc0] at h3
    simp at h3
  have hq0:=quoS_hol (t:=t) hh0
  refine sq (rg (fP J T.fld25_0 (lP J J J T.one22 (calW (φs:= [sl 1 rE_ t.aC]) (φ:=agg [fre w0.heap.size (sl 1 rE_ (everyS t.aC).aC),fre w0.heap.size (sl 2 sE (everyS t.aC).sT)]) ⟨J,tV⟩ (prog20.EveryN_ok t.aC O) T.ent81 (fun N hN=>fun h=>agg_le (cs:= [fre N (sl 1 rE_ (everyS t.aC).aC),fre N (sl 2 sE (everyS t.aC).sT)]) (ds:= [fre w0.heap.size (sl 1 rE_ (everyS t.aC).aC),fre w0.heap.size (sl 2 sE (everyS t.aC).sT)]) ⟨fun h=>nw_mono hN h,fun h=>nw_mono hN h,tV⟩ h) (sPA (cs':= [fre w0.heap.size (sl 1 rE_ (everyS t.aC).aC),fre w0.heap.size (sl 2 sE (everyS t.aC).sT)]) J J J T.agg25 J J (sP (φ:=bl true) J J J T.one4 J (nl (th (rt (rt_ ?_))))))))))
  have hr0:(everyS t.aC).aC=((quoS t s).1).aC:=by
   rw[hq0]
  have hr1:(everyS t.aC).sT=((quoS t s).1).sT:=by
   rw[hq0]
  have hr2:true=((quoS t s).2):=by
   rw[hq0]
  exact rE () [.cell 4 25,.cell 5 4] J [agg [fre w0.heap.size (sl 1 rE_ (everyS t.aC).aC),fre w0.heap.size (sl 2 sE (everyS t.aC).sT)],bl true] ⟨.agg J J T.agg25 J J,.one J J T.one4 J,tV⟩ (cA3 (fun x0 x1 x2=>rV [agg [fre w0.heap.size (sl 1 rE_ x0),fre w0.heap.size (sl 2 sE x1)],bl x2]) hr0 hr1 hr2) trivial eX
 ·try simp at hc0
  have h00:ix (hOl s) 0=false:=by
   cases h:ix (hOl s) 0 with
   |false=>rfl
   |true=>exact absurd (by rw[trimmed_hol h]) hc0
  have hT:=trim_ok hs
  have hU:=trim_used hs
  have hTa:(tR s).1.aC.length=t.aC.length:=by rw[trim_acts,←hts]
  have hT8:=hT.n8
  have f4:=hT.few1
  have f5:=hT.few0
  refine sk (th (sq (rg (fP J T.fld25_0 (lP J J J T.one22 (cal0 (φs:= [sl 1 rE_ t.aC]) (φ:=agg [sl 1 rE_ (everyS t.aC).aC,sl 2 sE (everyS t.aC).sT]) ⟨J,tV⟩ (divv.Every_ok t.aC O) T.ent81 (fld1 J T.flv25_1 T.one23 J (iF J J T.sl23 O (gK (k:=0) (by show 0<1;omega)) (fF J T.fld72_0 (lF J J T.one63 (ag (nl (th (sq (rg (mkm (key:=39) (kE:=triV) (dom:=triD) (vE:=intV) fun b39=>(bd (css:= []) T.st109 (eC (eC (eC eZ))) trivial (AL.insert (q:=(0,0,0)) (u:=0) J J agg_tri J T.map110 (tri_dom ⟨O,O⟩ ⟨O,O⟩ ⟨O,O⟩) (mv (al (key:=8) T.z110 (eC eZ) fun b8=>(sP (φ:=mpv 39 b39) J J J T.one110 J (nl (th (sq (rg (bd (css:= []) T.st109 (eC (eC (eC eZ))) trivial (bsO 43 (enc:=spotE) (xs:= [(0,0)]) (css:= [[int 0,int 0,int 0]]) T.mk111 ⟨J,J,pA (cs:= [int 0,int 0,int 0]) J,tV⟩ J J J J fun v43=>(al (key:=9) T.z111 (eC eZ) fun b9=>(storePO J J J J T.one111 J (nl (th (sq (rg (fP J T.fld25_0 (lP J J J T.one22 (calW (φs:= [sl 1 rE_ t.aC]) (φ:=sl 1 rE_ t.aC) ⟨J,tV⟩ (prog.sClonestrE_ok _ O) T.ent67 (fun N hN=>fun h=>nw_le h) (bd (css:= [(0,_)]) T.st25 (eC (eC eZ)) ⟨J,J,p1 (φ:=sl 1 rE_ t.aC) J,tV⟩ (al (key:=10) T.z25 (eC (eC eZ)) fun b10=>(sPA (cs':= [sl 1 rE_ t.aC,eqv (.slice none 0 0)]) J J J T.agg25 J J (nl (th (sq (sq (rg (ag (nl (th (bk ?_))))))))))))))))))))))))))))))))))))))))))))))))
  refine nwC 100 72 2 sE (kncC 10 1 (osl 100 (.slice none 0 0)) rfl rfl eq_osl ?_)
  have hI0_0:QW t (tR s).1 0 ([(0,0)]:List (Int × Int)) (mset ([]:List ((Int × Int × Int) × Int)) (0,0,0) 0) ([]:List SA):=by
   exact qw_zero ht hT
  refine lp (κ:=Nat × Value × (List (Int × Int)) × (List ((Int × Int × Int) × Int)) × Value × (List SA)) (fun p=> [(2,ptr 2 b2 0),(3,ptr 3 b3 0),(4,ptr 4 b4 0),(5,ptr 5 b5 0),(7,sl 1 nE (ix (everyS t.aC).sT 0).aP),(8,ptr 8 b8 0),(9,ptr 9 b9 0),(10,ptr 10 b10 0),(11,int (p.1:Int))]) (fun p=> [(2,cell b2 [sl 1 rE_ t.aC,sl 2 sE t.sT]),(3,cell b3 [sl 1 rE_ ((tR s).1.aC),sl 2 sE ((tR s).1.sT)]),(4,cell b4 [eqv (.slice none 0 0),eqv (.slice none 0 0)]),(5,cell b5 [bl false]),(8,cell b8 [mpv 39 b39]),(9,cell b9 [osl 43 p.2.1]),(10,cell b10 [sl 1 rE_ t.aC,osl 100 p.2.2.2.2.1]),(39,mp b39 triV triD intV p.2.2.2.1),(43,own p.2.1 109 3 spotE p.2.2.1),(100,own p.2.2.2.2.1 72 2 sE p.2.2.2.2.2)]) (fun p=>QW t (tR s).1 p.1 p.2.2.1 p.2.2.2.1 p.2.2.2.2.2) (fun p=>501- p.1) ⟨0,v43,([(0,0)]:List (Int × Int)),mset ([]:List ((Int × Int × Int) × Int)) (0,0,0) 0,(.slice none 0 0),([]:List SA)⟩ hI0_0 ⟨id,id,id,id,id,id,id,id,id,tV⟩ ⟨rI,rI,rI,rI,rI,rI,rI,rI,rI,rI,tV⟩ ?_
  intro⟨i,v,ql,mm,v10,outs⟩ hG0
  have hQW:QW t (tR s).1 i ql mm outs:=hG0
  show Ct _ _ _ _ [(2,ptr 2 b2 0),(3,ptr 3 b3 0),(4,ptr 4 b4 0),(5,ptr 5 b5 0),(7,sl 1 nE (ix (everyS t.aC).sT 0).aP),(8,ptr 8 b8 0),(9,ptr 9 b9 0),(10,ptr 10 b10 0),(11,int (i:Int))] [(2,cell b2 [sl 1 rE_ t.aC,sl 2 sE t.sT]),(3,cell b3 [sl 1 rE_ ((tR s).1.aC),sl 2 sE ((tR s).1.sT)]),(4,cell b4 [eqv (.slice none 0 0),eqv (.slice none 0 0)]),(5,cell b5 [bl false]),(8,cell b8 [mpv 39 b39]),(9,cell b9 [osl 43 v]),(10,cell b10 [sl 1 rE_ t.aC,osl 100 v10]),(39,mp b39 triV triD intV mm),(43,own v 109 3 spotE ql),(100,own v10 72 2 sE outs)] _
  have hlf:=hQW.few
  have hil:=hQW.il
  have hol:outs.length≤i:=by rw[hQW.out];simp;omega
  refine sq (sq (rg (mv (lP J J J T.one111 (lnO J J T.sl111 (bi J J b_lss (nl (th ?_))))))))
  refine cd J (fun hc1=> ?_) (fun hc1=> ?_)
  ·try simp at hc1
   refine sk (th (sq (bk (sq (rg (lP J J J T.one111 (mv (iO J J J T.sl111 O O (lOA J J gB T.agg109 (by decide) (al (key:=12) T.z109 (eC (eC (eC eZ))) fun b12=>(sPA (cs':= [int ((k3 (ix ql i)).1),int ((k3 (ix ql i)).2.1),int ((k3 (ix ql i)).2.2)]) J J J T.agg109 J J (nl (th (sq (rg (mv (bsE (enc:=nE) (xs:= [(-1)]) (css:= [[int (-1)]]) T.mk63 ⟨J,J,p1 (φ:=int (-1)) J,tV⟩ J J J J (fP J T.fld25_0 (lP J J J T.one22 (fc (slenI 61 J) fun hm61=>(lnF J T.sl22 (cl (prog8.Repeat_ok t.aC.length O) T.ent82 trivial fun N63 v63=>(fc (svI 30 J) fun hsv30=> ?_)))))))))))))))))))))))
   rw[←hsv30]
   refine kn 63 (eqv (sv v63)) rfl osl_raw (bd (css:= [(0,_),(1,_)]) T.st72 (eC (eC eZ)) ⟨rfl,rfl,p1 (φ:=sl 1 nE (ix (everyS t.aC).sT 0).aP) rfl,⟨rfl,rfl,p1 (φ:=eqv (sv v63)) rfl,tV⟩⟩ (al (key:=13) T.z72 (eC (eC eZ)) fun b13=>(sPA (cs':= [sl 1 nE (ix (everyS t.aC).sT 0).aP,eqv (sv v63)]) rfl rfl rfl T.agg72 rfl rfl (knc 13 1 (osl 30 (sv v63)) rfl rfl eq_osl (nl (th (sq (sq (rg (fP rfl T.fld109_0 (lP rfl rfl rfl T.one107 (bi rfl rfl b_eql (nl (th ?_))))))))))))))
   refine jn (κ:=(List Int)) (fun p=> [(2,ptr 2 b2 0),(3,ptr 3 b3 0),(4,ptr 4 b4 0),(5,ptr 5 b5 0),(7,sl 1 nE (ix (everyS t.aC).sT 0).aP),(8,ptr 8 b8 0),(9,ptr 9 b9 0),(10,ptr 10 b10 0),(11,int (i:Int)),(12,ptr 12 b12 0),(13,ptr 13 b13 0)]) (fun p=> [(2,cell b2 [sl 1 rE_ t.aC,sl 2 sE t.sT]),(3,cell b3 [sl 1 rE_ ((tR s).1.aC),sl 2 sE ((tR s).1.sT)]),(4,cell b4 [eqv (.slice none 0 0),eqv (.slice none 0 0)]),(5,cell b5 [bl false]),(8,cell b8 [mpv 39 b39]),(9,cell b9 [osl 43 v]),(10,cell b10 [sl 1 rE_ t.aC,osl 100 v10]),(12,cell b12 [int ((k3 (ix ql i)).1),int ((k3 (ix ql i)).2.1),int ((k3 (ix ql i)).2.2)]),(13,cell b13 [sl 1 nE p,osl 30 (sv v63)]),(30,own (sv v63) 3 1 nE (List.replicate t.aC.length (-1))),(39,mp b39 triV triD intV mm),(43,own v 109 3 spotE ql),(100,own v10 72 2 sE outs)]) (fun p=>p=qA t (tR s).1 (ix ql i)) ?_ ?_
   ·
    refine cd J (fun hc2=> ?_) (fun hc2=> ?_)
    ·try simp at hc2
     have hp0:(k3 (ix ql i)).1=0:=hc2
     have hnb:=k3_ne hp0
     have hk3:=k3_at hnb
     have hpb:=(hQW.ok _ (ix_memS hc1)).resolve_left hnb
     obtain⟨hp1,hp2,hp3,hp4⟩:=hpb
     have hk1:(k3 (ix ql i)).2.1=(ix ql i).1:=by rw[hk3]
     have hk2:(k3 (ix ql i)).2.2=(ix ql i).2:=by rw[hk3]
     have hst:=ht.st ((k3 (ix ql i)).2.1).toNat O
     have hss:=hT.st ((k3 (ix ql i)).2.2).toNat O
     have htl:=hst.len
     have hsl:=hss.len
     have hri:=hst.rise
     have hac:=hss.ac
     refine dr (nh:=17) [0,1,3,0,8,0,32,120,248,0,512,0,2048,7680,15872,32767,65535,131071] T.mixed kR ?_
     refine st_ J (fun _ _ _ gq kq=>fP (gq.1.trans J) T.fld25_0 kq) ?_
     refine st_ J (fun _ _ _ gq kq=>lP (gq.1.trans J) J J T.one22 kq) ?_
     refine st_ J (fun _ _ _ gq kq=>lnF (gq.1.trans J) T.sl22 kq) ?_
     refine st_ J (fun _ _ _ gq kq=>fP (gq.1.trans J) T.fld25_1 kq) ?_
     refine st_ J (fun _ _ _ gq kq=>lP (gq.1.trans J) J J T.one23 kq) ?_
     refine st_ J (fun _ _ _ gq kq=>fP (gq.1.trans J) T.fld109_1 kq) ?_
     refine st_ J (fun _ _ _ gq kq=>lP (gq.1.trans J) J J T.one3 kq) ?_
     refine st_ J (fun _ _ _ gq kq=>iF (gq.1.trans J) (gq.2.1.trans J) T.sl23 O gB kq) ?_
     refine st_ J (fun _ _ _ gq kq=>lFA (gq.1.trans J) T.agg72 (Nat.le_of_ble_eq_true J) kq) ?_
     refine st_ J (fun _ _ _ gq kq=>fP (gq.1.trans J) T.fld25_1 kq) ?_
     refine st_ J (fun _ _ _ gq kq=>lP (gq.1.trans J) J J T.one23 kq) ?_
     refine st_ J (fun _ _ _ gq kq=>fP (gq.1.trans J) T.fld109_2 kq) ?_
     refine st_ J (fun _ _ _ gq kq=>lP (gq.1.trans J) J J T.one3 kq) ?_
     refine st_ J (fun _ _ _ gq kq=>iF (gq.1.trans J) (gq.2.1.trans J) T.sl23 O gB kq) ?_
     refine st_ J (fun _ _ _ gq kq=>lFA (gq.1.trans J) T.agg72 (Nat.le_of_ble_eq_true J) kq) ?_
     refine st_ J (fun _ _ _ gq kq=>cal0 (φs:= [int (t.aC.length:Int),agg [sl 1 nE (ix t.sT ((k3 (ix ql i)).2.1).toNat).aP,sl 1 nE (ix t.sT ((k3 (ix ql i)).2.1).toNat).next],agg [sl 1 nE (ix ((tR s).1.sT) ((k3 (ix ql i)).2.2).toNat).aP,sl 1 nE (ix ((tR s).1.sT) ((k3 (ix ql i)).2.2).toNat).next]]) (φ:=sl 1 nE (chs (ix t.sT ((k3 (ix ql i)).2.1).toNat) (ix ((tR s).1.sT) ((k3 (ix ql i)).2.2).toNat) t.aC.length 0)) ⟨(gq.1.trans J),(gq.2.1.trans J),(gq.2.2.1.trans J),tV⟩ (divq.fit_ok (ix t.sT ((k3 (ix ql i)).2.1).toNat) (ix ((tR s).1.sT) ((k3 (ix ql i)).2.2).toNat) t.aC.length O aS aS) T.ent83 kq) ?_
     refine st_ J (fun _ _ _ gq kq=>fP (gq.1.trans J) T.fld72_0 kq) ?_
     refine pn (sP (φ:=sl 1 nE (chs (ix t.sT ((k3 (ix ql i)).2.1).toNat) (ix ((tR s).1.sT) ((k3 (ix ql i)).2.2).toNat) t.aC.length 0)) J J J T.one63 J (nl ?_))
     have hN0:(chs (ix t.sT ((k3 (ix ql i)).2.1).toNat) (ix ((tR s).1.sT) ((k3 (ix ql i)).2.2).toNat) t.aC.length 0)=qA t (tR s).1 (ix ql i):=by
      exact fit_qA hnb
     exact jx (chs (ix t.sT ((k3 (ix ql i)).2.1).toNat) (ix ((tR s).1.sT) ((k3 (ix ql i)).2.2).toNat) t.aC.length 0) hN0 ⟨id,id,id,id,id,id,id,id,id,id,id,tV⟩ ⟨rI,rI,rI,rI,rI,rI,rI,rI,rI,rI,rI,rI,rI,tV⟩
    ·try simp at hc2
     have hpb:(ix ql i)=bes:=k3_eq hc2
     refine sk ?_
     have hN0:(ix (everyS t.aC).sT 0).aP=qA t (tR s).1 (ix ql i):=by
      unfold qA;rw[if_pos hpb];rfl
     exact jx (ix (everyS t.aC).sT 0).aP hN0 ⟨id,id,id,id,id,id,id,id,id,id,id,tV⟩ ⟨rI,rI,rI,rI,rI,rI,rI,rI,rI,rI,rI,rI,rI,tV⟩
   ·intro ac hG
    have hJ2:ac=qA t (tR s).1 (ix ql i):=hG
    have hal:ac.length≤256:=by rw[hJ2];exact qA_len hn8 _
    have hab:∀u∈ac,0≤u∧u<256:=fun u hu=>by rw[hJ2] at hu;exact qA_bd hn8 hu
    skip
    show At _ _ _ [(2,ptr 2 b2 0),(3,ptr 3 b3 0),(4,ptr 4 b4 0),(5,ptr 5 b5 0),(7,sl 1 nE (ix (everyS t.aC).sT 0).aP),(8,ptr 8 b8 0),(9,ptr 9 b9 0),(10,ptr 10 b10 0),(11,int (i:Int)),(12,ptr 12 b12 0),(13,ptr 13 b13 0)] [(2,cell b2 [sl 1 rE_ t.aC,sl 2 sE t.sT]),(3,cell b3 [sl 1 rE_ ((tR s).1.aC),sl 2 sE ((tR s).1.sT)]),(4,cell b4 [eqv (.slice none 0 0),eqv (.slice none 0 0)]),(5,cell b5 [bl false]),(8,cell b8 [mpv 39 b39]),(9,cell b9 [osl 43 v]),(10,cell b10 [sl 1 rE_ t.aC,osl 100 v10]),(12,cell b12 [int ((k3 (ix ql i)).1),int ((k3 (ix ql i)).2.1),int ((k3 (ix ql i)).2.2)]),(13,cell b13 [sl 1 nE ac,osl 30 (sv v63)]),(30,own (sv v63) 3 1 nE (List.replicate t.aC.length (-1))),(39,mp b39 triV triD intV mm),(43,own v 109 3 spotE ql),(100,own v10 72 2 sE outs)]
    refine th (sq (rg (ag (nl (th (sq (sq (rg (fP rfl T.fld72_0 (lP rfl rfl rfl T.one63 (fc (slenI 86 rfl) fun hm86=>(lnF rfl T.sl63 (mv (nl (th (bk ?_))))))))))))))))
    have hI1_0:0≤ac.length:=by
     first|omega|simp
    have hI1_1:(0:Int)=orAll (ac.take 0)∧0≤(0:Int)∧(0:Int)<256:=by
     exact⟨rfl,O,O⟩
    refine lp (κ:=Nat × Int) (fun p=> [(2,ptr 2 b2 0),(3,ptr 3 b3 0),(4,ptr 4 b4 0),(5,ptr 5 b5 0),(7,sl 1 nE (ix (everyS t.aC).sT 0).aP),(8,ptr 8 b8 0),(9,ptr 9 b9 0),(10,ptr 10 b10 0),(11,int (i:Int)),(12,ptr 12 b12 0),(13,ptr 13 b13 0),(14,int p.2),(86,sl 1 nE ac),(87,int (ac.length:Int)),(88,int (p.1:Int))]) (fun p=> [(2,cell b2 [sl 1 rE_ t.aC,sl 2 sE t.sT]),(3,cell b3 [sl 1 rE_ ((tR s).1.aC),sl 2 sE ((tR s).1.sT)]),(4,cell b4 [eqv (.slice none 0 0),eqv (.slice none 0 0)]),(5,cell b5 [bl false]),(8,cell b8 [mpv 39 b39]),(9,cell b9 [osl 43 v]),(10,cell b10 [sl 1 rE_ t.aC,osl 100 v10]),(12,cell b12 [int ((k3 (ix ql i)).1),int ((k3 (ix ql i)).2.1),int ((k3 (ix ql i)).2.2)]),(13,cell b13 [sl 1 nE ac,osl 30 (sv v63)]),(30,own (sv v63) 3 1 nE (List.replicate t.aC.length (-1))),(39,mp b39 triV triD intV mm),(43,own v 109 3 spotE ql),(100,own v10 72 2 sE outs)]) (fun p=>(p.1≤ac.length)∧(p.2=orAll (ac.take p.1)∧0≤p.2∧p.2<256)) (fun p=>ac.length- p.1) ⟨0,(0:Int)⟩ ⟨hI1_0,hI1_1⟩ ⟨id,id,id,id,id,id,id,id,id,id,id,id,id,id,id,tV⟩ ⟨rI,rI,rI,rI,rI,rI,rI,rI,rI,rI,rI,rI,rI,tV⟩ ?_
    intro⟨k1,cn⟩ hG1
    obtain⟨hk1,hI1⟩:(k1≤ac.length)∧(cn=orAll (ac.take k1)∧0≤cn∧cn<256):=hG1
    show Ct _ _ _ _ [(2,ptr 2 b2 0),(3,ptr 3 b3 0),(4,ptr 4 b4 0),(5,ptr 5 b5 0),(7,sl 1 nE (ix (everyS t.aC).sT 0).aP),(8,ptr 8 b8 0),(9,ptr 9 b9 0),(10,ptr 10 b10 0),(11,int (i:Int)),(12,ptr 12 b12 0),(13,ptr 13 b13 0),(14,int cn),(86,sl 1 nE ac),(87,int (ac.length:Int)),(88,int (k1:Int))] [(2,cell b2 [sl 1 rE_ t.aC,sl 2 sE t.sT]),(3,cell b3 [sl 1 rE_ ((tR s).1.aC),sl 2 sE ((tR s).1.sT)]),(4,cell b4 [eqv (.slice none 0 0),eqv (.slice none 0 0)]),(5,cell b5 [bl false]),(8,cell b8 [mpv 39 b39]),(9,cell b9 [osl 43 v]),(10,cell b10 [sl 1 rE_ t.aC,osl 100 v10]),(12,cell b12 [int ((k3 (ix ql i)).1),int ((k3 (ix ql i)).2.1),int ((k3 (ix ql i)).2.2)]),(13,cell b13 [sl 1 nE ac,osl 30 (sv v63)]),(30,own (sv v63) 3 1 nE (List.replicate t.aC.length (-1))),(39,mp b39 triV triD intV mm),(43,own v 109 3 spotE ql),(100,own v10 72 2 sE outs)] _
    refine sq (rg (bi J J b_lss (nl (th (sq ?_)))))
    refine cd J (fun hc3=> ?_) (fun hc3=> ?_)
    ·try simp at hc3
     have hkb:=hab _ (ix_memS (l:=ac) (i:=k1) O)
     refine sk (th (sq (bk (sq (rg (iF J J T.sl63 O gB (lF J J T.one3 (ag (nl (th (rg (mv (mv (bi J J (b_orI O O O O) (ag (nl (eb (th (rg (bi J J (b_add i6) (mv (nl ?_))))))))))))))))))))))
     have hN0:(k1+1)≤ac.length:=by
      first|omega|simp_all
     have hN1:((cn.toNat|||(ix ac k1).toNat:Nat):Int)=orAll (ac.take (k1+1))∧0≤((cn.toNat|||(ix ac k1).toNat:Nat):Int)∧((cn.toNat|||(ix ac k1).toNat:Nat):Int)<256:=by
      refine⟨?_,O,or_lt256 hI1.2.2 hkb.2⟩
      rw[take_s O,orAll_snoc,←hI1.1]
     exact ln (⟨k1+1,((cn.toNat|||(ix ac k1).toNat:Nat):Int)⟩:Nat × Int) ⟨hN0,hN1⟩ dO ⟨id,id,id,id,id,id,id,id,id,id,id,id,id,id,id,tV⟩ ⟨rI,rI,rI,rI,rI,rI,rI,rI,rI,rI,rI,rI,rI,tV⟩
    ·try simp at hc3
     refine ex (xt_ (xt_ (xb (th (sq (sq (rg (mv (cal0 (φs:= [int cn]) (φ:=clo 112 [fp [int cn]]) ⟨J,tV⟩ (prog3.In_ok cn) T.ent84 (nl (th (bk ?_))))))))))))
     have hR0:QN t (tR s).1 i ql 0 ql mm (List.replicate t.aC.length (-1)):=by
      exact qn_zero hQW
     refine rf (κ:=Value × (List (Int × Int)) × (List ((Int × Int × Int) × Int)) × (List Int)) 900 (fun p=> [(2,cell b2 [sl 1 rE_ t.aC,sl 2 sE t.sT]),(3,cell b3 [sl 1 rE_ ((tR s).1.aC),sl 2 sE ((tR s).1.sT)]),(4,cell b4 [eqv (.slice none 0 0),eqv (.slice none 0 0)]),(5,cell b5 [bl false]),(8,cell b8 [mpv 39 b39]),(9,cell b9 [osl 43 p.1]),(10,cell b10 [sl 1 rE_ t.aC,osl 100 v10]),(12,cell b12 [int ((k3 (ix ql i)).1),int ((k3 (ix ql i)).2.1),int ((k3 (ix ql i)).2.2)]),(13,cell b13 [sl 1 nE ac,osl 30 (sv v63)]),(30,own (sv v63) 3 1 nE p.2.2.2),(39,mp b39 triV triD intV p.2.2.1),(43,own p.1 109 3 spotE p.2.1),(100,own v10 72 2 sE outs)]) (fun iR p=>QN t (tR s).1 i ql iR p.2.1 p.2.2.1 p.2.2.2) (fun c p=>c= .ret∧(500<(qL t (tR s).1).length)) J (InIt cn O O) T.ent112 J (fun _=>J) (fun _=>J) ⟨v,ql,mm,List.replicate t.aC.length (-1)⟩ hR0 ⟨rI,rI,rI,rI,rI,rI,rI,rI,rI,rI,rI,rI,rI,tV⟩ ?_ ?_ ?_ (fun id k h=>nomatch h.1) (fun c k h=> .inl h.1)
     ·intro m0 ⟨v2,l2,mm2,nx⟩ x0 hG0 hx0 l R w1 M1 F1 hRd
      have hR0:QN t (tR s).1 i ql m0 l2 mm2 nx:=hG0
      show Ct _ _ _ _ _ ((900,obj l (.loop R)):: [(2,cell b2 [sl 1 rE_ t.aC,sl 2 sE t.sT]),(3,cell b3 [sl 1 rE_ ((tR s).1.aC),sl 2 sE ((tR s).1.sT)]),(4,cell b4 [eqv (.slice none 0 0),eqv (.slice none 0 0)]),(5,cell b5 [bl false]),(8,cell b8 [mpv 39 b39]),(9,cell b9 [osl 43 v2]),(10,cell b10 [sl 1 rE_ t.aC,osl 100 v10]),(12,cell b12 [int ((k3 (ix ql i)).1),int ((k3 (ix ql i)).2.1),int ((k3 (ix ql i)).2.2)]),(13,cell b13 [sl 1 nE ac,osl 30 (sv v63)]),(30,own (sv v63) 3 1 nE nx),(39,mp b39 triV triD intV mm2),(43,own v2 109 3 spotE l2),(100,own v10 72 2 sE outs)]) _
      have hcn2:cn=orAll (qA t (tR s).1 (ix ql i)):=by rw[←hJ2,hI1.1,show k1=ac.length by omega,List.take_length]
      have hx2:(actsL (qA t (tR s).1) (ix ql i))[m0]?=some x0:=by unfold actsL;rw[←hcn2];exact hx0
      obtain⟨a,rfl,ha63,hha⟩:=listOf_get hx0
      have hha2:has (orAll (qA t (tR s).1 (ix ql i))) (a:Int)=true:=by rw[←hcn2];exact hha
      have hal8:=qA_has hha2
      have hqok1:=qN_ok ht hT hU hTa (hQW.ok _ (ix_memS hc1)) hha2
      have hnl:nx.length=t.aC.length:=by rw[hR0.nx];simp
      have hl2f:=hR0.few
      refine rg (ag (nl (aq hRd J (bk (sq (rg (bd (css:= [(0,_)]) T.st109 (eC (eC (eC eZ))) ⟨J,J,p1 (φ:=int 1) J,tV⟩ (al (key:=18) T.z109 (eC (eC (eC eZ))) fun b18=>(sPA (cs':= [int 1,int 0,int 0]) J J J T.agg109 J J (nl (th (sq (sq (rg (fP J T.fld109_0 (lP J J J T.one107 (bi J J b_eql (mv ?_))))))))))))))))))
      apply gAnd (t:=103) (pd:=115) rfl
      rotate_left
      ·intro hg0 fin
       have hg0':=hg0
       try simp at hg0'
       have hp0:(k3 (ix ql i)).1=0:=by simpa using hg0
       have hnb:=k3_ne hp0
       have hk3:=k3_at hnb
       have hpb:=(hQW.ok _ (ix_memS hc1)).resolve_left hnb
       obtain⟨hp1,hp2,hp3,hp4⟩:=hpb
       have hk1:(k3 (ix ql i)).2.1=(ix ql i).1:=by rw[hk3]
       have hk2:(k3 (ix ql i)).2.2=(ix ql i).2:=by rw[hk3]
       have hst:=ht.st ((k3 (ix ql i)).2.1).toNat O
       have hss:=hT.st ((k3 (ix ql i)).2.2).toNat O
       have htl:=hst.len
       have hsl:=hss.len
       exact gy J J J hg0 (fP J T.fld25_1 (gy J J J hg0 (lP J J J T.one23 (gy J J J hg0 (fP J T.fld109_2 (gy J J J hg0 (lP J J J T.one3 (gy J J J hg0 (iF J J T.sl23 O gB (gy J J J hg0 (fF J T.fld72_1 (gy J J J hg0 (lF J J T.one63 (gy J J J hg0 (mv (gy J J J hg0 (iF J J T.sl63 O gB (gy J J J hg0 (lF J J T.one3 (gy J J J hg0 (bi J J b_geq (pkT J hg0 J (drp (X:= [(114,_),(113,_),(112,_),(111,_),(110,_),(109,_),(108,_),(107,_),(106,_),(105,_),(104,_)]) ⟨J,J,J,J,J,J,J,J,J,J,J,tV⟩ fin)))))))))))))))))))))))
      ·intro hg0 fin
       exact gn J J J hg0 J J (gn J J J hg0 J J (gn J J J hg0 J J (gn J J J hg0 J J (gn J J J hg0 J J (gn J J J hg0 J J (gn J J J hg0 J J (gn J J J hg0 J J (gn J J J hg0 J J (gn J J J hg0 J J (gn J J J hg0 J J (pkF J hg0 J (drp (X:= [(114,_),(113,_),(112,_),(111,_),(110,_),(109,_),(108,_),(107,_),(106,_),(105,_),(104,_)]) ⟨J,J,J,J,J,J,J,J,J,J,J,tV⟩ fin))))))))))))
      refine nl (th ?_)
      refine jn (κ:=Int × Int × Int) (fun p=> [(4,ptr 4 b4 0),(5,ptr 5 b5 0),(8,ptr 8 b8 0),(9,ptr 9 b9 0),(13,ptr 13 b13 0),(17,int (a:Int)),(18,ptr 18 b18 0)]) (fun p=> [(2,cell b2 [sl 1 rE_ t.aC,sl 2 sE t.sT]),(3,cell b3 [sl 1 rE_ ((tR s).1.aC),sl 2 sE ((tR s).1.sT)]),(4,cell b4 [eqv (.slice none 0 0),eqv (.slice none 0 0)]),(5,cell b5 [bl false]),(8,cell b8 [mpv 39 b39]),(9,cell b9 [osl 43 v2]),(10,cell b10 [sl 1 rE_ t.aC,osl 100 v10]),(12,cell b12 [int ((k3 (ix ql i)).1),int ((k3 (ix ql i)).2.1),int ((k3 (ix ql i)).2.2)]),(13,cell b13 [sl 1 nE ac,osl 30 (sv v63)]),(18,cell b18 [int p.1,int p.2.1,int p.2.2]),(30,own (sv v63) 3 1 nE nx),(39,mp b39 triV triD intV mm2),(43,own v2 109 3 spotE l2),(100,own v10 72 2 sE outs),(900,obj l (.loop { R with state:= .busy }))]) (fun p=>(p.1,p.2.1,p.2.2)=k3 (qN t (tR s).1 (ix ql i) a)) ?_ ?_
      ·
       refine cd J (fun hc4=> ?_) (fun hc4=> ?_)
       ·try simp at hc4
        have hp0:(k3 (ix ql i)).1=0:=hc4.1
        have hnb:=k3_ne hp0
        have hk3:=k3_at hnb
        have hpb:=(hQW.ok _ (ix_memS hc1)).resolve_left hnb
        obtain⟨hp1,hp2,hp3,hp4⟩:=hpb
        have hk1:(k3 (ix ql i)).2.1=(ix ql i).1:=by rw[hk3]
        have hk2:(k3 (ix ql i)).2.2=(ix ql i).2:=by rw[hk3]
        have hst:=ht.st ((k3 (ix ql i)).2.1).toNat O
        have hss:=hT.st ((k3 (ix ql i)).2.2).toNat O
        have htl:=hst.len
        have hsl:=hss.len
        have hgo:=qN_go ht hT hU hTa (hQW.ok _ (ix_memS hc1)) hnb hha2 (by show 0≤ix (ix (tR s).1.sT (ix ql i).2.toNat).next a;have h:=hc4.2;rw[hk2] at h;exact h)
        refine dr (nh:=21) [0,1,0,4,15,31,63,0,255,511,0,1024,0,4096,15360,31744,64512,0,261120,523264,1048575,2097151] T.mixed kR ?_
        refine st_ J (fun _ _ _ gq kq=>fP (gq.1.trans J) T.fld25_1 kq) ?_
        refine st_ J (fun _ _ _ gq kq=>lP (gq.1.trans J) J J T.one23 kq) ?_
        refine st_ J (fun _ _ _ gq kq=>fP (gq.1.trans J) T.fld109_1 kq) ?_
        refine st_ J (fun _ _ _ gq kq=>lP (gq.1.trans J) J J T.one3 kq) ?_
        refine st_ J (fun _ _ _ gq kq=>iF (gq.1.trans J) (gq.2.1.trans J) T.sl23 O gB kq) ?_
        refine st_ J (fun _ _ _ gq kq=>fF (gq.1.trans J) T.fld72_1 kq) ?_
        refine st_ J (fun _ _ _ gq kq=>lF (gq.1.trans J) J T.one63 kq) ?_
        refine st_ J (fun _ _ _ gq kq=>mv' (gq.1.trans J) kq) ?_
        refine st_ J (fun _ _ _ gq kq=>iF (gq.1.trans J) (gq.2.1.trans J) T.sl63 O gB kq) ?_
        refine st_ J (fun _ _ _ gq kq=>lF (gq.1.trans J) J T.one3 kq) ?_
        refine st_ J (fun _ _ _ gq kq=>fP (gq.1.trans J) T.fld25_1 kq) ?_
        refine st_ J (fun _ _ _ gq kq=>lP (gq.1.trans J) J J T.one23 kq) ?_
        refine st_ J (fun _ _ _ gq kq=>fP (gq.1.trans J) T.fld109_2 kq) ?_
        refine st_ J (fun _ _ _ gq kq=>lP (gq.1.trans J) J J T.one3 kq) ?_
        refine st_ J (fun _ _ _ gq kq=>iF (gq.1.trans J) (gq.2.1.trans J) T.sl23 O gB kq) ?_
        refine st_ J (fun _ _ _ gq kq=>fF (gq.1.trans J) T.fld72_1 kq) ?_
        refine st_ J (fun _ _ _ gq kq=>lF (gq.1.trans J) J T.one63 kq) ?_
        refine st_ J (fun _ _ _ gq kq=>mv' (gq.1.trans J) kq) ?_
        refine st_ J (fun _ _ _ gq kq=>iF (gq.1.trans J) (gq.2.1.trans J) T.sl63 O gB kq) ?_
        refine st_ J (fun _ _ _ gq kq=>lF (gq.1.trans J) J T.one3 kq) ?_
        refine st_ J (fun _ _ _ gq kq=>bd (css:= [(0,_),(1,_),(2,_)]) T.st109 (eC (eC (eC eZ))) ⟨J,J,p1 (φ:=int 0) J,⟨J,J,p1 (φ:=int (ix (ix t.sT ((k3 (ix ql i)).2.1).toNat).next a)) (by exact(gq.1.trans J)),⟨J,J,p1 (φ:=int (ix (ix ((tR s).1.sT) ((k3 (ix ql i)).2.2).toNat).next a)) (by exact(gq.2.1.trans J)),tV⟩⟩⟩ kq) ?_
        refine pn (sPA (cs':= [int 0,int (ix (ix t.sT ((k3 (ix ql i)).2.1).toNat).next a),int (ix (ix ((tR s).1.sT) ((k3 (ix ql i)).2.2).toNat).next a)]) J J J T.agg109 J J (nl ?_))
        have hN0:((0:Int),(ix ((ix t.sT (((k3 (ix ql i)).2.1).toNat)).next) a),(ix ((ix ((tR s).1.sT) (((k3 (ix ql i)).2.2).toNat)).next) a))=k3 (qN t (tR s).1 (ix ql i) a):=by
                  have e:qN t (tR s).1 (ix ql i) a=(ix (ix t.sT (ix ql i).1.toNat).next a,ix (ix (tR s).1.sT (ix ql i).2.toNat).next a):=by
                   unfold qN
                   rw[if_pos ⟨hnb,by have h:=hc4.2;rw[hk2] at h;exact h⟩]
                  rw[e,hk1,hk2]
                  exact(k3_at (p:=(ix (ix t.sT (ix ql i).1.toNat).next a,ix (ix (tR s).1.sT (ix ql i).2.toNat).next a)) (fun g=>by have g:=congrArg Prod.fst g;have g:ix (ix t.sT (ix ql i).1.toNat).next a= -1:=g;have:=hgo.1;dsimp only [nxt] at this;omega)).symm
        exact jx ⟨(0:Int),ix (ix t.sT ((k3 (ix ql i)).2.1).toNat).next a,ix (ix ((tR s).1.sT) ((k3 (ix ql i)).2.2).toNat).next a⟩ hN0 ⟨id,id,id,id,id,id,id,tV⟩ ⟨rI,rI,rI,rI,rI,rI,rI,rI,rI,rI,rI,rI,rI,rI,rI,tV⟩
       ·try simp at hc4
        refine sk ?_
        have hN0:((1:Int),(0:Int),(0:Int))=k3 (qN t (tR s).1 (ix ql i) a):=by
                  have e:qN t (tR s).1 (ix ql i) a=bes:=by
                   unfold qN
                   rw[if_neg]
                   rintro⟨h1,h2⟩
                   have h3:=k3_at h1
                   have h4:(k3 (ix ql i)).1=0:=by rw[h3]
                   have h5:(k3 (ix ql i)).2.2=(ix ql i).2:=by rw[h3]
                   rw[←h5] at h2
                   dsimp only [nxt] at h2
                   exact absurd h2 (by have:=hc4 h4;omega)
                  rw[e,k3_bes]
        exact jx ⟨(1:Int),(0:Int),(0:Int)⟩ hN0 ⟨id,id,id,id,id,id,id,tV⟩ ⟨rI,rI,rI,rI,rI,rI,rI,rI,rI,rI,rI,rI,rI,rI,rI,tV⟩
      ·intro⟨px,py,pz⟩ hG
       have hJ4:(px,py,pz)=k3 (qN t (tR s).1 (ix ql i) a):=hG
       skip
       show At _ _ _ [(4,ptr 4 b4 0),(5,ptr 5 b5 0),(8,ptr 8 b8 0),(9,ptr 9 b9 0),(13,ptr 13 b13 0),(17,int (a:Int)),(18,ptr 18 b18 0)] [(2,cell b2 [sl 1 rE_ t.aC,sl 2 sE t.sT]),(3,cell b3 [sl 1 rE_ ((tR s).1.aC),sl 2 sE ((tR s).1.sT)]),(4,cell b4 [eqv (.slice none 0 0),eqv (.slice none 0 0)]),(5,cell b5 [bl false]),(8,cell b8 [mpv 39 b39]),(9,cell b9 [osl 43 v2]),(10,cell b10 [sl 1 rE_ t.aC,osl 100 v10]),(12,cell b12 [int ((k3 (ix ql i)).1),int ((k3 (ix ql i)).2.1),int ((k3 (ix ql i)).2.2)]),(13,cell b13 [sl 1 nE ac,osl 30 (sv v63)]),(18,cell b18 [int px,int py,int pz]),(30,own (sv v63) 3 1 nE nx),(39,mp b39 triV triD intV mm2),(43,own v2 109 3 spotE l2),(100,own v10 72 2 sE outs),(900,obj l (.loop { R with state:= .busy }))]
       refine th (sq (rg (lP rfl rfl rfl T.one110 (lPA rfl rfl T.agg109 rfl (lookup2 (z:=(0:Int)) (q:=(px,py,pz)) rfl rfl agg_tri T.map110 (by rw[hJ4];exact k3_dom f1 f4 hqok1) T.zvi3 (mv (xt rfl rfl (xt rfl rfl (ag (ag (nl (th (sq (sq (rg (mv (no rfl (nl (th ?_)))))))))))))))))))
       refine cd J (fun hc5=> ?_) (fun hc5=> ?_)
       ·skip
        have h5:(mget mm2 (px,py,pz)).isSome=false:=by
                  revert hc5
                  cases(mget mm2 (px,py,pz)).isSome<;>simp
        refine sq (sq (rg (lP J J J T.one111 (lnO J J T.sl111 (bi J J b_eql (nl (th ?_)))))))
        refine cd J (fun hc6=> ?_) (fun hc6=> ?_)
        ·try simp at hc6
         refine sq (rg (bd (css:= []) T.st25 (eC (eC eZ)) trivial (sPA (cs':= [eqv (.slice none 0 0),eqv (.slice none 0 0)]) J J J T.agg25 J J (sP (φ:=bl false) J J J T.one4 J (nl (th (rt (rt_ (rt_ (rb ?_))))))))))
         have hRr:500<(qL t (tR s).1).length:=by
                   exact qn_fail hQW hR0 hc1 hx2 hJ4 h5 hc6
         exact rqR ⟨v2,l2,mm2,nx⟩ ⟨rfl,hRr⟩ ⟨rI,rI,rI,rI,rI,rI,rI,rI,rI,rI,rI,rI,rI,rI,tV⟩
        ·try simp at hc6
         refine sk (th (sq (rg (lP J J J T.one111 (lnO J J T.sl111 (ag (nl (th (sq (rg (lP J J J T.one110 (lPA J J T.agg109 J (mv (mapUpdate (q:=(px,py,pz)) (u:=(l2.length:Int)) J J agg_tri J T.map110 (by rw[hJ4];exact k3_dom f1 f4 hqok1) (nl (th (rg (lP J J J T.one111 (lPA J J T.agg109 J (bs (css:= [[int px,int py,int pz]]) T.mk111 ⟨J,J,pA (cs:= [int px,int py,int pz]) J,tV⟩ J J J (ap (key:=43) (zs:= [qN t (tR s).1 (ix ql i) a]) osl_eq J J (spot_le hJ4) T.mk111 (by unfold maxL at*;simp;omega) (by unfold maxL at*;simp;omega) fun v157=>(storePO J J J J T.one111 J (nl (th (rg (fP J T.fld72_1 (lP J J J T.one63 (mv (mv (iO J J J T.sl63 O O (sO (φ:=int (l2.length:Int)) J J J T.one3 gB J (y':=(l2.length:Int)) J (nl (eb ?_)))))))))))))))))))))))))))))))))
         have hN0:QN t (tR s).1 i ql (m0+1) (l2++ [qN t (tR s).1 (ix ql i) a]) (mset mm2 (px,py,pz) (l2.length:Int)) (nx.set a (l2.length:Int)):=by
                   exact qn_new hQW hR0 hc1 hqok1 hx2 hal8 hJ4 h5 O
         exact rqN ⟨v157,l2++ [qN t (tR s).1 (ix ql i) a],mset mm2 (px,py,pz) (l2.length:Int),nx.set a (l2.length:Int)⟩ hN0 ⟨rI,rI,rI,rI,rI,rI,rI,rI,rI,rI,rI,rI,rI,rI,tV⟩
       ·skip
        have h5:(mget mm2 (px,py,pz)).isSome=true:=by
                  revert hc5
                  cases(mget mm2 (px,py,pz)).isSome<;>simp
        refine sk (th (rg (fP J T.fld72_1 (lP J J J T.one63 (mv (mv (iO J J J T.sl63 O O (sO (φ:=int ((mget mm2 (px,py,pz)).getD (0:Int))) J J J T.one3 gB J (y':=((mget mm2 (px,py,pz)).getD (0:Int))) J (nl (eb ?_))))))))))
        have hN0:QN t (tR s).1 i ql (m0+1) l2 mm2 (nx.set a ((mget mm2 (px,py,pz)).getD (0:Int))):=by
                  exact qn_old hQW hR0 hc1 hx2 hal8 hJ4 h5
        exact rqN ⟨v2,l2,mm2,nx.set a ((mget mm2 (px,py,pz)).getD (0:Int))⟩ hN0 ⟨rI,rI,rI,rI,rI,rI,rI,rI,rI,rI,rI,rI,rI,rI,tV⟩
     ·intro⟨v2,l2,mm2,nx⟩ hG0
      have hR0:QN t (tR s).1 i ql (listOf 63 cn).length l2 mm2 nx:=hG0
      show At _ _ _ _ [(2,cell b2 [sl 1 rE_ t.aC,sl 2 sE t.sT]),(3,cell b3 [sl 1 rE_ ((tR s).1.aC),sl 2 sE ((tR s).1.sT)]),(4,cell b4 [eqv (.slice none 0 0),eqv (.slice none 0 0)]),(5,cell b5 [bl false]),(8,cell b8 [mpv 39 b39]),(9,cell b9 [osl 43 v2]),(10,cell b10 [sl 1 rE_ t.aC,osl 100 v10]),(12,cell b12 [int ((k3 (ix ql i)).1),int ((k3 (ix ql i)).2.1),int ((k3 (ix ql i)).2.2)]),(13,cell b13 [sl 1 nE ac,osl 30 (sv v63)]),(30,own (sv v63) 3 1 nE nx),(39,mp b39 triV triD intV mm2),(43,own v2 109 3 spotE l2),(100,own v10 72 2 sE outs)]
      refine eb (th (rg (fP rfl T.fld25_1 (lP rfl rfl rfl T.one23 (fzc 13 30 1 rfl rfl rfl rfl (lPA rfl rfl T.agg72 rfl (bsE (enc:=sE) (xs:= [(⟨ac,nx⟩)]) (css:= [[sl 1 nE ac,sl 1 nE nx]]) T.mk23 ⟨rfl,rfl,pA (cs:= [sl 1 nE ac,sl 1 nE nx]) rfl,tV⟩ rfl rfl rfl rfl (ap (key:=100) (zs:= [(⟨ac,nx⟩)]) osl_eq rfl rfl rfl T.mk23 (by unfold maxL at*;simp;omega) (by unfold maxL at*;simp;omega) fun v167=>(fP rfl T.fld25_1 (storePO rfl rfl rfl rfl T.one23 rfl (nl (eb (th (rg (mv (bi rfl rfl (b_add i6) (ag (nl ?_))))))))))))))))))
      have hN0:QW t (tR s).1 (i+1) l2 mm2 (outs++ [(⟨ac,nx⟩)]):=by
       have hcl:listOf 63 cn=actsL (qA t (tR s).1) (ix ql i):=by
        unfold actsL
        rw[←hJ2,hI1.1,show k1=ac.length by omega,List.take_length]
       rw[hcl] at hR0
       rw[hJ2]
       exact qn_end hn8 hQW hR0 hc1
      exact ln (⟨i+1,v2,l2,mm2,v167,outs++ [(⟨ac,nx⟩)]⟩:Nat × Value × (List (Int × Int)) × (List ((Int × Int × Int) × Int)) × Value × (List SA)) hN0 (by have:=hQW.few;show 501- (i+1)<501- i;omega) ⟨id,id,id,id,id,id,id,id,id,tV⟩ ⟨rI,rI,rI,rI,rI,rI,rI,rI,rI,rI,tV⟩
     ·intro⟨v2,l2,mm2,nx⟩ hS0
      have hRt0:500<(qL t (tR s).1).length:=hS0.2
      show At _ _ _ _ [(2,cell b2 [sl 1 rE_ t.aC,sl 2 sE t.sT]),(3,cell b3 [sl 1 rE_ ((tR s).1.aC),sl 2 sE ((tR s).1.sT)]),(4,cell b4 [eqv (.slice none 0 0),eqv (.slice none 0 0)]),(5,cell b5 [bl false]),(8,cell b8 [mpv 39 b39]),(9,cell b9 [osl 43 v2]),(10,cell b10 [sl 1 rE_ t.aC,osl 100 v10]),(12,cell b12 [int ((k3 (ix ql i)).1),int ((k3 (ix ql i)).2.1),int ((k3 (ix ql i)).2.2)]),(13,cell b13 [sl 1 nE ac,osl 30 (sv v63)]),(30,own (sv v63) 3 1 nE nx),(39,mp b39 triV triD intV mm2),(43,own v2 109 3 spotE l2),(100,own v10 72 2 sE outs)]
      refine rb (rt_ (rb (rt_ (rt_ (rb (rt_ ?_))))))
      refine kncA 4 0 (fre w0.heap.size (sl 1 rE_ [])) rfl rfl nw_nil ?_
      refine kncA 4 1 (fre w0.heap.size (sl 2 sE [])) rfl rfl nw_nil ?_
      have hr0: []=((quoS t s).1).aC:=by
       rw[quoS_no h00 hRt0]
      have hr1: []=((quoS t s).1).sT:=by
       rw[quoS_no h00 hRt0]
      have hr2:false=((quoS t s).2):=by
       rw[quoS_no h00 hRt0]
      exact rE () [.cell 4 25,.cell 5 4] J [agg [fre w0.heap.size (sl 1 rE_ []),fre w0.heap.size (sl 2 sE [])],bl false] ⟨.agg J J T.agg25 J J,.one J J T.one4 J,tV⟩ (cA3 (fun x0 x1 x2=>rV [agg [fre w0.heap.size (sl 1 rE_ x0),fre w0.heap.size (sl 2 sE x1)],bl x2]) hr0 hr1 hr2) trivial eX
  ·try simp at hc1
   have hdn:=qw_done hQW O
   have hq5:(qL t (tR s).1).length≤500:=by rw[←hdn.1];exact hQW.few
   have hq1:=quoS_yes (t:=t) h00 hq5
   have hqok:oK (quoD t (tR s).1):=q_ok ht (q_numb ht hT hU hTa) rfl O
   refine fzcC 10 100 1 rfl rfl rfl rfl (ex (xt_ (xt_ (xb (th (sq (rg (lPA rfl rfl T.agg25 rfl (kn 170 (spec (quoD t (tR s).1)) rfl (by rw[show outs=(quoD t (tR s).1).sT from hdn.2];exact fun h=>h) (calW (φs:= [agg [sl 1 rE_ (quoD t (tR s).1).aC,sl 2 sE (quoD t (tR s).1).sT]]) (φ:=tup [agg [fre w0.heap.size (sl 1 rE_ ((tR (quoD t (tR s).1)).1).aC),fre w0.heap.size (sl 2 sE ((tR (quoD t (tR s).1)).1).sT)],sl 1 nE ((tR (quoD t (tR s).1)).2)]) ⟨rfl,tV⟩ (prog19.TrimN_ok (quoD t (tR s).1) aS) T.ent80 (fun N hN=>fun h=>tup_le (cs:= [agg [fre N (sl 1 rE_ ((tR (quoD t (tR s).1)).1).aC),fre N (sl 2 sE ((tR (quoD t (tR s).1)).1).sT)],sl 1 nE ((tR (quoD t (tR s).1)).2)]) (ds:= [agg [fre w0.heap.size (sl 1 rE_ ((tR (quoD t (tR s).1)).1).aC),fre w0.heap.size (sl 2 sE ((tR (quoD t (tR s).1)).1).sT)],sl 1 nE ((tR (quoD t (tR s).1)).2)]) ⟨fun h=>agg_le (cs:= [fre N (sl 1 rE_ ((tR (quoD t (tR s).1)).1).aC),fre N (sl 2 sE ((tR (quoD t (tR s).1)).1).sT)]) (ds:= [fre w0.heap.size (sl 1 rE_ ((tR (quoD t (tR s).1)).1).aC),fre w0.heap.size (sl 2 sE ((tR (quoD t (tR s).1)).1).sT)]) ⟨fun h=>nw_mono hN h,fun h=>nw_mono hN h,tV⟩ h,fun h=>h,tV⟩ h) (mv (xt rfl rfl (xt rfl rfl (sPA (cs':= [fre w0.heap.size (sl 1 rE_ ((tR (quoD t (tR s).1)).1).aC),fre w0.heap.size (sl 2 sE ((tR (quoD t (tR s).1)).1).sT)]) rfl rfl rfl T.agg25 rfl rfl (nl (th (sq (rg (lPA rfl rfl T.agg25 rfl (sPA (cs':= [fre w0.heap.size (sl 1 rE_ ((tR (quoD t (tR s).1)).1).aC),fre w0.heap.size (sl 2 sE ((tR (quoD t (tR s).1)).1).sT)]) rfl rfl rfl T.agg25 rfl rfl (sP (φ:=bl true) rfl rfl rfl T.one4 rfl (nl (th (rt ?_))))))))))))))))))))))))
   have hr0:((tR (quoD t (tR s).1)).1).aC=((quoS t s).1).aC:=by
    rw[hq1]
   have hr1:((tR (quoD t (tR s).1)).1).sT=((quoS t s).1).sT:=by
    rw[hq1]
   have hr2:true=((quoS t s).2):=by
    rw[hq1]
   exact rE () [.cell 4 25,.cell 5 4] J [agg [fre w0.heap.size (sl 1 rE_ ((tR (quoD t (tR s).1)).1).aC),fre w0.heap.size (sl 2 sE ((tR (quoD t (tR s).1)).1).sT)],bl true] ⟨.agg J J T.agg25 J J,.one J J T.one4 J,tV⟩ (cA3 (fun x0 x1 x2=>rV [agg [fre w0.heap.size (sl 1 rE_ x0),fre w0.heap.size (sl 2 sE x1)],bl x2]) hr0 hr1 hr2) trivial eX
theorem DivN_ok (t s:SS) (htm:smallSpec t) (hsm:smallSpec s):
 AL.Fn Tryz.prog 14 [spec t,spec s] [] (ι:=Unit) (fun N _=>tup [nspec N (divS t s).1,int (divS t s).2]) (fun _=> []):=by
 refine fnI Tryz.func14 rfl rfl (fun w0 F0=> ?_)
 refine fcC (inhS 0 J) (fun hS0=> ?_)
 obtain⟨hsa0,hss0,hse0⟩:=sLn hS0
 refine fcC (inhS 1 J) (fun hS1=> ?_)
 obtain⟨hsa1,hss1,hse1⟩:=sLn hS1
 refine sq (rg (bx (key:=2) (cs:= [sl 1 rE_ t.aC,sl 2 sE t.sT]) J fun b2=>(bx (key:=3) (cs:= [sl 1 rE_ s.aC,sl 2 sE s.sT]) J fun b3=>(al (key:=4) T.z25 (eC (eC eZ)) fun b4=>(ag (nl (th (sq (sq (rg (lPA J J T.agg25 J (lPA J J T.agg25 J (cal0 (φs:= [agg [sl 1 rE_ t.aC,sl 2 sE t.sT],agg [sl 1 rE_ s.aC,sl 2 sE s.sT]]) (φ:=int (fineE t s)) ⟨J,J,tV⟩ (judg.Fine_ok t s aS aS) T.ent50 (ag (nl (th (sq (rg (mv (bi J J b_neq (nl (th ?_))))))))))))))))))))))
 refine cd J (fun hc0=> ?_) (fun hc0=> ?_)
 ·try simp at hc0
  have hd:divS t s=(⟨[],[]⟩,fineE t s):=by unfold divS;rw[if_neg hc0]
  refine sq (rg (bd (css:= []) T.st25 (eC (eC eZ)) trivial (mv (sPA (cs':= [eqv (.slice none 0 0),eqv (.slice none 0 0)]) J J J T.agg25 J J (ag (nl (th (rt (rt_ ?_)))))))))
  refine kncA 4 0 (fre w0.heap.size (sl 1 rE_ [])) rfl rfl nw_nil ?_
  refine kncA 4 1 (fre w0.heap.size (sl 2 sE [])) rfl rfl nw_nil ?_
  have hr0: []=((divS t s).1).aC:=by
   rw[hd]
  have hr1: []=((divS t s).1).sT:=by
   rw[hd]
  have hr2:((fineE t s):Int)=((divS t s).2):=by
   rw[hd]
  exact rE () [.cell 4 25,.tmp 5] J [agg [fre w0.heap.size (sl 1 rE_ []),fre w0.heap.size (sl 2 sE [])],int (fineE t s)] ⟨.agg J J T.agg25 J J,.tmp J,tV⟩ (cA3 (fun x0 x1 x2=>rV [agg [fre w0.heap.size (sl 1 rE_ x0),fre w0.heap.size (sl 2 sE x1)],int x2]) hr0 hr1 hr2) trivial eX
 ·try simp at hc0
  obtain⟨htv,hsv,hts⟩:=Go.Proofs.YtcjemmihcplgdaaGreat.fine_ok hc0
  have ht:=okSpec_of htv
  have hs:=okSpec_of hsv
  refine sk (th (sq (rg (lPA J J T.agg25 J (lPA J J T.agg25 J (calW (φs:= [agg [sl 1 rE_ t.aC,sl 2 sE t.sT],agg [sl 1 rE_ s.aC,sl 2 sE s.sT]]) (φ:=tup [agg [fre w0.heap.size (sl 1 rE_ ((quoS t s).1).aC),fre w0.heap.size (sl 2 sE ((quoS t s).1).sT)],bl ((quoS t s).2)]) ⟨J,J,tV⟩ (divn.QuotN_ok t s aS aS aS) T.ent51 (fun N hN=>fun h=>tup_le (cs:= [agg [fre N (sl 1 rE_ ((quoS t s).1).aC),fre N (sl 2 sE ((quoS t s).1).sT)],bl ((quoS t s).2)]) (ds:= [agg [fre w0.heap.size (sl 1 rE_ ((quoS t s).1).aC),fre w0.heap.size (sl 2 sE ((quoS t s).1).sT)],bl ((quoS t s).2)]) ⟨fun h=>agg_le (cs:= [fre N (sl 1 rE_ ((quoS t s).1).aC),fre N (sl 2 sE ((quoS t s).1).sT)]) (ds:= [fre w0.heap.size (sl 1 rE_ ((quoS t s).1).aC),fre w0.heap.size (sl 2 sE ((quoS t s).1).sT)]) ⟨fun h=>nw_mono hN h,fun h=>nw_mono hN h,tV⟩ h,fun h=>h,tV⟩ h) (mv (xt J J (xt J J (al (key:=7) T.z25 (eC (eC eZ)) fun b7=>(sPA (cs':= [fre w0.heap.size (sl 1 rE_ ((quoS t s).1).aC),fre w0.heap.size (sl 2 sE ((quoS t s).1).sT)]) J J J T.agg25 J J (ag (nl (th (sq (sq (rg (mv (no J (nl (th ?_)))))))))))))))))))))
  refine cd J (fun hc1=> ?_) (fun hc1=> ?_)
  ·try simp at hc1
   have hd:divS t s=(⟨[],[]⟩,2):=by unfold divS;rw[if_pos hc0,if_neg (by simpa using hc1)]
   refine sq (rg (bd (css:= []) T.st25 (eC (eC eZ)) trivial (sPA (cs':= [eqv (.slice none 0 0),eqv (.slice none 0 0)]) J J J T.agg25 J J (ag (nl (th (rt (rt_ ?_))))))))
   refine kncA 4 0 (fre w0.heap.size (sl 1 rE_ [])) rfl rfl nw_nil ?_
   refine kncA 4 1 (fre w0.heap.size (sl 2 sE [])) rfl rfl nw_nil ?_
   have hr0: []=((divS t s).1).aC:=by
    rw[hd]
   have hr1: []=((divS t s).1).sT:=by
    rw[hd]
   have hr2:(2:Int)=((divS t s).2):=by
    rw[hd]
   exact rE () [.cell 4 25,.tmp 5] J [agg [fre w0.heap.size (sl 1 rE_ []),fre w0.heap.size (sl 2 sE [])],int 2] ⟨.agg J J T.agg25 J J,.tmp J,tV⟩ (cA3 (fun x0 x1 x2=>rV [agg [fre w0.heap.size (sl 1 rE_ x0),fre w0.heap.size (sl 2 sE x1)],int x2]) hr0 hr1 hr2) trivial eX
  ·try simp at hc1
   have hd:divS t s=((quoS t s).1,0):=by unfold divS;rw[if_pos hc0,if_pos (by simpa using hc1)]
   refine sk (th (sq (rg (lPA J J T.agg25 J (sPA (cs':= [fre w0.heap.size (sl 1 rE_ ((quoS t s).1).aC),fre w0.heap.size (sl 2 sE ((quoS t s).1).sT)]) J J J T.agg25 J J (ag (nl (th (rt ?_)))))))))
   have hr0:((quoS t s).1).aC=((divS t s).1).aC:=by
    rw[hd]
   have hr1:((quoS t s).1).sT=((divS t s).1).sT:=by
    rw[hd]
   have hr2:(0:Int)=((divS t s).2):=by
    rw[hd]
   exact rE () [.cell 4 25,.tmp 5] J [agg [fre w0.heap.size (sl 1 rE_ ((quoS t s).1).aC),fre w0.heap.size (sl 2 sE ((quoS t s).1).sT)],int 0] ⟨.agg J J T.agg25 J J,.tmp J,tV⟩ (cA3 (fun x0 x1 x2=>rV [agg [fre w0.heap.size (sl 1 rE_ x0),fre w0.heap.size (sl 2 sE x1)],int x2]) hr0 hr1 hr2) trivial eX
end divn
end
section
open ref01 ref03 ref04 ref06 prog prog2 prog3 prog6 prog13 starts Part Rungs LeftM TrimM RoundM MergeM BisM BisM4 BisM5 WalkM StepM WitM JudgM JudgM2 refw judg wit refj sysw divr divs divd dive divg divw divv divf divc divj divq divp divm diva LevM LevM2 ChsM QuoM FailM DivM QuoW RefM FitM PartM EncM OtherM divo divn
namespace divn2
theorem OthN_ok (t s:SS) (htm:smallSpec t) (hsm:smallSpec s):
 AL.Fn Tryz.prog 29 [spec t,spec s] [] (ι:=Unit) (fun N _=>tup [nspec N (othS t s).1,int (othS t s).2]) (fun _=> []):=by
 refine fnI Tryz.func29 rfl rfl (fun w0 F0=> ?_)
 refine fcC (inhS 0 J) (fun hS0=> ?_)
 obtain⟨hsa0,hss0,hse0⟩:=sLn hS0
 refine fcC (inhS 1 J) (fun hS1=> ?_)
 obtain⟨hsa1,hss1,hse1⟩:=sLn hS1
 refine sq (rg (bx (key:=2) (cs:= [sl 1 rE_ t.aC,sl 2 sE t.sT]) J fun b2=>(bx (key:=3) (cs:= [sl 1 rE_ s.aC,sl 2 sE s.sT]) J fun b3=>(al (key:=4) T.z25 (eC (eC eZ)) fun b4=>(ag (nl (th (sq (rg (lPA J J T.agg25 J (lPA J J T.agg25 J (cal0 (φs:= [agg [sl 1 rE_ t.aC,sl 2 sE t.sT],agg [sl 1 rE_ s.aC,sl 2 sE s.sT]]) (φ:=tup [agg [sl 1 rE_ ((divS t s).1).aC,sl 2 sE ((divS t s).1).sT],int ((divS t s).2)]) ⟨J,J,tV⟩ (divq.Divide_ok t s aS aS) T.ent14 (mv (xt J J (xt J J (al (key:=6) T.z25 (eC (eC eZ)) fun b6=>(sPA (cs':= [sl 1 rE_ ((divS t s).1).aC,sl 2 sE ((divS t s).1).sT]) J J J T.agg25 J J (ag (nl (th (sq (sq (rg (mv (bi J J b_neq (nl (th ?_)))))))))))))))))))))))))))
 refine cd J (fun hc0=> ?_) (fun hc0=> ?_)
 ·try simp at hc0
  have ho:othS t s=(⟨[],[]⟩,(divS t s).2):=by unfold othS;rw[if_neg hc0]
  refine sq (rg (bd (css:= []) T.st25 (eC (eC eZ)) trivial (mv (sPA (cs':= [eqv (.slice none 0 0),eqv (.slice none 0 0)]) J J J T.agg25 J J (ag (nl (th (rt (rt_ ?_)))))))))
  refine kncA 4 0 (fre w0.heap.size (sl 1 rE_ [])) rfl rfl nw_nil ?_
  refine kncA 4 1 (fre w0.heap.size (sl 2 sE [])) rfl rfl nw_nil ?_
  have hr0: []=((othS t s).1).aC:=by
   rw[ho]
  have hr1: []=((othS t s).1).sT:=by
   rw[ho]
  have hr2:(((divS t s).2):Int)=((othS t s).2):=by
   rw[ho]
  exact rE () [.cell 4 25,.tmp 5] J [agg [fre w0.heap.size (sl 1 rE_ []),fre w0.heap.size (sl 2 sE [])],int ((divS t s).2)] ⟨.agg J J T.agg25 J J,.tmp J,tV⟩ (cA3 (fun x0 x1 x2=>rV [agg [fre w0.heap.size (sl 1 rE_ x0),fre w0.heap.size (sl 2 sE x1)],int x2]) hr0 hr1 hr2) trivial eX
 ·try simp at hc0
  have ho:othS t s=divS t (divS t s).1:=by unfold othS;rw[if_pos hc0]
  have hdm:smallSpec (divS t s).1:=DivM.div_small htm hc0
  refine sk (th (sq (rg (lPA J J T.agg25 J (lPA J J T.agg25 J (calW (φs:= [agg [sl 1 rE_ t.aC,sl 2 sE t.sT],agg [sl 1 rE_ ((divS t s).1).aC,sl 2 sE ((divS t s).1).sT]]) (φ:=tup [agg [fre w0.heap.size (sl 1 rE_ ((divS t ((divS t s).1)).1).aC),fre w0.heap.size (sl 2 sE ((divS t ((divS t s).1)).1).sT)],int ((divS t ((divS t s).1)).2)]) ⟨J,J,tV⟩ (divn.DivN_ok t ((divS t s).1) aS aS) T.ent14 (fun N hN=>fun h=>tup_le (cs:= [agg [fre N (sl 1 rE_ ((divS t ((divS t s).1)).1).aC),fre N (sl 2 sE ((divS t ((divS t s).1)).1).sT)],int ((divS t ((divS t s).1)).2)]) (ds:= [agg [fre w0.heap.size (sl 1 rE_ ((divS t ((divS t s).1)).1).aC),fre w0.heap.size (sl 2 sE ((divS t ((divS t s).1)).1).sT)],int ((divS t ((divS t s).1)).2)]) ⟨fun h=>agg_le (cs:= [fre N (sl 1 rE_ ((divS t ((divS t s).1)).1).aC),fre N (sl 2 sE ((divS t ((divS t s).1)).1).sT)]) (ds:= [fre w0.heap.size (sl 1 rE_ ((divS t ((divS t s).1)).1).aC),fre w0.heap.size (sl 2 sE ((divS t ((divS t s).1)).1).sT)]) ⟨fun h=>nw_mono hN h,fun h=>nw_mono hN h,tV⟩ h,fun h=>h,tV⟩ h) (xt J J (xt J J (sPA (cs':= [fre w0.heap.size (sl 1 rE_ ((divS t ((divS t s).1)).1).aC),fre w0.heap.size (sl 2 sE ((divS t ((divS t s).1)).1).sT)]) J J J T.agg25 J J (ag (nl (th (rt ?_)))))))))))))
  have hr0:((divS t ((divS t s).1)).1).aC=((othS t s).1).aC:=by
   rw[ho]
  have hr1:((divS t ((divS t s).1)).1).sT=((othS t s).1).sT:=by
   rw[ho]
  have hr2:(((divS t ((divS t s).1)).2):Int)=((othS t s).2):=by
   rw[ho]
  exact rE () [.cell 4 25,.tmp 5] J [agg [fre w0.heap.size (sl 1 rE_ ((divS t ((divS t s).1)).1).aC),fre w0.heap.size (sl 2 sE ((divS t ((divS t s).1)).1).sT)],int ((divS t ((divS t s).1)).2)] ⟨.agg J J T.agg25 J J,.tmp J,tV⟩ (cA3 (fun x0 x1 x2=>rV [agg [fre w0.heap.size (sl 1 rE_ x0),fre w0.heap.size (sl 2 sE x1)],int x2]) hr0 hr1 hr2) trivial eX
theorem SomeN_ok (s:SS) (hsm:smallSpec s):
 AL.Fn Tryz.prog 52 [spec s] [] (ι:= { z:SSys × Int//SomeOK s z }) (fun N i=>tup [nsys N i.1.1,int i.1.2]) (fun _=> []):=by
 refine fnI Tryz.func52 rfl rfl (fun w0 F0=> ?_)
 refine fcC (inhS 0 J) (fun hS0=> ?_)
 obtain⟨hsa0,hss0,hse0⟩:=sLn hS0
 refine sq (rg (bx (key:=1) (cs:= [sl 1 rE_ s.aC,sl 2 sE s.sT]) J fun b1=>(al (key:=2) T.z38 (eC (eC eZ)) fun b2=>(ag (nl (th (sq (sq (rg (lPA J J T.agg25 J (cal0 (φs:= [agg [sl 1 rE_ s.aC,sl 2 sE s.sT]]) (φ:=bl (specOK s)) ⟨J,tV⟩ (prog2.Valid_ok s aS) T.ent79 (no J (nl (th ?_))))))))))))))
 refine cd J (fun hc0=> ?_) (fun hc0=> ?_)
 ·try simp at hc0
  have hno:specOK s=false:=by simpa using hc0
  refine sq (rg (bd (css:= []) T.st38 (eC (eC eZ)) trivial (sPA (cs':= [eqv (.slice none 0 0),eqv (.slice none 0 0)]) J J J T.agg38 J J (ag (nl (th (rt (rt_ ?_))))))))
  refine kncA 2 0 (fre w0.heap.size (sl 1 rE_ [])) rfl rfl nw_nil ?_
  refine kncA 2 1 (fre w0.heap.size (sl 1 gE [])) rfl rfl nw_nil ?_
  exact rE ⟨(⟨[],[]⟩,30),⟨fun _=>J,fun h=>(by rw[hno] at h;cases h),fun h=>(by rw[hno] at h;cases h)⟩⟩ [.cell 2 38,.tmp 3] J [agg [fre w0.heap.size (sl 1 rE_ []),fre w0.heap.size (sl 1 gE [])],int 30] ⟨.agg J J T.agg38 J J,.tmp J,tV⟩ J trivial eX
 ·try simp at hc0
  have hyes:specOK s=true:=by simpa using hc0
  have hs:=okSpec_of hyes
  have hop:=ordS_pos s
  refine sk (th (sq (rg (lPA J J T.agg25 J (calW (φs:= [agg [sl 1 rE_ s.aC,sl 2 sE s.sT]]) (φ:=tup [agg [sl 1 rE_ ((tR s).1.aC),sl 2 sE ((tR s).1.sT)],sl 1 nE ((tR s).2)]) ⟨J,tV⟩ (prog9.Trimmed_ok s aS) T.ent80 (fun N hN=>fun h=>tup_le (cs:= [agg [fre N (sl 1 rE_ ((tR s).1.aC)),frb (ix (hOl s) 0) N (sl 2 sE ((tR s).1.sT))],sl 1 nE ((tR s).2)]) (ds:= [agg [sl 1 rE_ ((tR s).1.aC),sl 2 sE ((tR s).1.sT)],sl 1 nE ((tR s).2)]) ⟨fun h=>agg_le (cs:= [fre N (sl 1 rE_ ((tR s).1.aC)),frb (ix (hOl s) 0) N (sl 2 sE ((tR s).1.sT))]) (ds:= [sl 1 rE_ ((tR s).1.aC),sl 2 sE ((tR s).1.sT)]) ⟨fun h=>nw_le h,fun h=>frb_le h,tV⟩ h,fun h=>h,tV⟩ h) (mv (xt J J (xt J J (al (key:=4) T.z25 (eC (eC eZ)) fun b4=>(sPA (cs':= [sl 1 rE_ ((tR s).1.aC),sl 2 sE ((tR s).1.sT)]) J J J T.agg25 J J (ag (nl (th (sq (sq (rg (mv (fc (slenI 15 J) fun hm15=>(lnF J T.sl63 (bi J J b_eql (nl (th ?_))))))))))))))))))))))
  refine cd J (fun hc1=> ?_) (fun hc1=> ?_)
  ·try simp at hc1
   have hh0:ix (hOl s) 0=true:=by
    cases h:ix (hOl s) 0 with
    |true=>rfl
    |false=>
     exfalso
     rw[trimmed_not h] at hc1
     have h3:=hop
     rw[show ordS s= [] from hc1] at h3
     simp at h3
   refine sq (rg (bd (css:= []) T.st38 (eC (eC eZ)) trivial (sPA (cs':= [eqv (.slice none 0 0),eqv (.slice none 0 0)]) J J J T.agg38 J J (ag (nl (th (rt (rt_ ?_))))))))
   refine kncA 2 0 (fre w0.heap.size (sl 1 rE_ [])) rfl rfl nw_nil ?_
   refine kncA 2 1 (fre w0.heap.size (sl 1 gE [])) rfl rfl nw_nil ?_
   exact rE ⟨(⟨[],[]⟩,3),⟨fun h=>(by rw[hyes] at h;cases h),fun _ _=>J,fun _ h=>(by rw[hh0] at h;cases h)⟩⟩ [.cell 2 38,.tmp 3] J [agg [fre w0.heap.size (sl 1 rE_ []),fre w0.heap.size (sl 1 gE [])],int 3] ⟨.agg J J T.agg38 J J,.tmp J,tV⟩ J trivial eX
  ·try simp at hc1
   have h00:ix (hOl s) 0=false:=by
    cases h:ix (hOl s) 0 with
    |false=>rfl
    |true=>exact absurd (by rw[trimmed_hol h]) hc1
   have hts:(tR s).1=tS s:=by rw[trimmed_not h00]
   have hto:oK (tR s).1:=by rw[hts];exact tS_ok hs
   have hwants:Wants (tR s).1 []:=by rw[hts];exact wants_nil hs h00
   refine sk (th (sq (rg (lPA J J T.agg25 J (calN (φs:= [agg [sl 1 rE_ ((tR s).1.aC),sl 2 sE ((tR s).1.sT)],eqv (.slice none 0 0)]) ⟨J,J,tV⟩ (divw.WitNil_ok ((tR s).1) aS aS) T.ent85 trivial fun N20 i20 hN20=>(kd (φ':=agg [fre w0.heap.size (sl 1 rE_ i20.1.aC),fre w0.heap.size (sl 1 gE i20.1.sT)]) (fun h=>agg_le (cs:= [fre N20 (sl 1 rE_ i20.1.aC),fre N20 (sl 1 gE i20.1.sT)]) (ds:= [fre w0.heap.size (sl 1 rE_ i20.1.aC),fre w0.heap.size (sl 1 gE i20.1.sT)]) ⟨fun h=>nw_mono hN20 h,fun h=>nw_mono hN20 h,tV⟩ h) (sPA (cs':= [fre w0.heap.size (sl 1 rE_ i20.1.aC),fre w0.heap.size (sl 1 gE i20.1.sT)]) J J J T.agg38 J J (ag (nl (th (rt ?_)))))))))))
   exact rE ⟨(i20.1,0),⟨fun h=>(by rw[hyes] at h;cases h),fun _ h=>(by rw[h00] at h;cases h),fun _ _=>⟨J,by obtain⟨w,hw⟩:=i20;show WitOK (tS s) [] w;rw[←hts];exact hw⟩⟩⟩ [.cell 2 38,.tmp 3] J [agg [fre w0.heap.size (sl 1 rE_ i20.1.aC),fre w0.heap.size (sl 1 gE i20.1.sT)],int 0] ⟨.agg J J T.agg38 J J,.tmp J,tV⟩ J trivial eX
theorem MissN_ok (t s:SS) (htm:smallSpec t) (hsm:smallSpec s):
 AL.Fn Tryz.prog 16 [spec t,spec s] [] (ι:= { z:SSys × Int//MissOK t s z }) (fun N i=>tup [nsys N i.1.1,int i.1.2]) (fun _=> []):=by
 refine fnI Tryz.func16 rfl rfl (fun w0 F0=> ?_)
 refine fcC (inhS 0 J) (fun hS0=> ?_)
 obtain⟨hsa0,hss0,hse0⟩:=sLn hS0
 refine fcC (inhS 1 J) (fun hS1=> ?_)
 obtain⟨hsa1,hss1,hse1⟩:=sLn hS1
 refine sq (rg (bx (key:=2) (cs:= [sl 1 rE_ t.aC,sl 2 sE t.sT]) J fun b2=>(bx (key:=3) (cs:= [sl 1 rE_ s.aC,sl 2 sE s.sT]) J fun b3=>(al (key:=4) T.z38 (eC (eC eZ)) fun b4=>(ag (nl (th (sq (rg (lPA J J T.agg25 J (lPA J J T.agg25 J (cal0 (φs:= [agg [sl 1 rE_ t.aC,sl 2 sE t.sT],agg [sl 1 rE_ s.aC,sl 2 sE s.sT]]) (φ:=tup [agg [sl 1 rE_ ((divS t s).1).aC,sl 2 sE ((divS t s).1).sT],int ((divS t s).2)]) ⟨J,J,tV⟩ (divq.Divide_ok t s aS aS) T.ent14 (mv (xt J J (xt J J (al (key:=6) T.z25 (eC (eC eZ)) fun b6=>(sPA (cs':= [sl 1 rE_ ((divS t s).1).aC,sl 2 sE ((divS t s).1).sT]) J J J T.agg25 J J (ag (nl (th (sq (sq (rg (mv (bi J J b_neq (nl (th ?_)))))))))))))))))))))))))))
 refine cd J (fun hc0=> ?_) (fun hc0=> ?_)
 ·try simp at hc0
  refine sq (rg (bd (css:= []) T.st38 (eC (eC eZ)) trivial (mv (sPA (cs':= [eqv (.slice none 0 0),eqv (.slice none 0 0)]) J J J T.agg38 J J (ag (nl (th (rt (rt_ ?_)))))))))
  refine kncA 4 0 (fre w0.heap.size (sl 1 rE_ [])) rfl rfl nw_nil ?_
  refine kncA 4 1 (fre w0.heap.size (sl 1 gE [])) rfl rfl nw_nil ?_
  exact rE ⟨(⟨[],[]⟩,(divS t s).2),⟨fun _=>J,fun h=>absurd h hc0⟩⟩ [.cell 4 38,.tmp 5] J [agg [fre w0.heap.size (sl 1 rE_ []),fre w0.heap.size (sl 1 gE [])],int ((divS t s).2)] ⟨.agg J J T.agg38 J J,.tmp J,tV⟩ J trivial eX
 ·try simp at hc0
  have hdm:smallSpec (divS t s).1:=DivM.div_small htm hc0
  refine sk (th (sq (rg (lPA J J T.agg25 J (calN (φs:= [agg [sl 1 rE_ ((divS t s).1).aC,sl 2 sE ((divS t s).1).sT]]) ⟨J,tV⟩ (divn2.SomeN_ok ((divS t s).1) aS) T.ent52 trivial fun N19 i19 hN19=>(kd (φ':=tup [agg [fre w0.heap.size (sl 1 rE_ i19.1.1.aC),fre w0.heap.size (sl 1 gE i19.1.1.sT)],int i19.1.2]) (fun h=>tup_le (cs:= [agg [fre N19 (sl 1 rE_ i19.1.1.aC),fre N19 (sl 1 gE i19.1.1.sT)],int i19.1.2]) (ds:= [agg [fre w0.heap.size (sl 1 rE_ i19.1.1.aC),fre w0.heap.size (sl 1 gE i19.1.1.sT)],int i19.1.2]) ⟨fun h=>agg_le (cs:= [fre N19 (sl 1 rE_ i19.1.1.aC),fre N19 (sl 1 gE i19.1.1.sT)]) (ds:= [fre w0.heap.size (sl 1 rE_ i19.1.1.aC),fre w0.heap.size (sl 1 gE i19.1.1.sT)]) ⟨fun h=>nw_mono hN19 h,fun h=>nw_mono hN19 h,tV⟩ h,fun h=>h,tV⟩ h) (xt J J (xt J J (sPA (cs':= [fre w0.heap.size (sl 1 rE_ i19.1.1.aC),fre w0.heap.size (sl 1 gE i19.1.1.sT)]) J J J T.agg38 J J (ag (nl (th (rt ?_)))))))))))))
  exact rE ⟨i19.1,⟨fun h=>absurd hc0 h,fun _=>i19.2⟩⟩ [.cell 4 38,.tmp 5] J [agg [fre w0.heap.size (sl 1 rE_ i19.1.1.aC),fre w0.heap.size (sl 1 gE i19.1.1.sT)],int i19.1.2] ⟨.agg J J T.agg38 J J,.tmp J,tV⟩ J trivial eX
end divn2
end
section
open ref01 ref03 ref04 ref06 prog prog2 prog3 prog6 prog13 starts Part Rungs LeftM TrimM RoundM MergeM BisM BisM4 BisM5 WalkM StepM WitM JudgM JudgM2 refw judg wit refj sysw divr divs divd dive divg divw divv divf divc divj divq divp divm diva LevM LevM2 ChsM QuoM FailM DivM QuoW RefM FitM PartM EncM OtherM divo divn divn2
namespace divn3
theorem JudgeN_ok (x:SSys) (t s:SS) (hx:okSys x) (ht:oK t) (hs:oK s) (hts:t.aC=s.aC) (hxt:x.aC=t.aC) (hz:x.sT.length*(t.sT.length*s.sT.length)≤1000000000):
 AL.Fn Tryz.prog 57 [sys x,spec t,spec s] [] (ι:= { v:Bool × SSys//JdgOK x t s v }) (fun N i=>agg [bl i.1.1,fre N (strs i.1.2.aC),fre N (sl 1 gE i.1.2.sT)]) (fun _=> []):=by
 refine fnI Tryz.func57 rfl rfl (fun w0 F0=> ?_)
 have hop:=ordS_pos s
 refine fcC (inhS 0 J) (fun hS0=> ?_)
 obtain⟨hma0,hms0,hme0⟩:=sys_lens hS0
 refine fcC (inhS 1 J) (fun hS1=> ?_)
 obtain⟨hsa1,hss1,hse1⟩:=sLn hS1
 refine fcC (inhS 2 J) (fun hS2=> ?_)
 obtain⟨hsa2,hss2,hse2⟩:=sLn hS2
 refine sq (rg (bx (key:=3) (cs:= [sl 1 rE_ x.aC,sl 1 gE x.sT]) J fun b3=>(bx (key:=4) (cs:= [sl 1 rE_ t.aC,sl 2 sE t.sT]) J fun b4=>(bx (key:=5) (cs:= [sl 1 rE_ s.aC,sl 2 sE s.sT]) J fun b5=>(al (key:=6) T.z49 (eC (eC (eC eZ))) fun b6=>(nl (th (sq (rg (lPA J J T.agg25 J (calW (φs:= [agg [sl 1 rE_ s.aC,sl 2 sE s.sT]]) (φ:=tup [agg [sl 1 rE_ ((tR s).1.aC),sl 2 sE ((tR s).1.sT)],sl 1 nE ((tR s).2)]) ⟨J,tV⟩ (prog9.Trimmed_ok s aS) T.ent80 (fun N hN=>fun h=>tup_le (cs:= [agg [fre N (sl 1 rE_ ((tR s).1.aC)),frb (ix (hOl s) 0) N (sl 2 sE ((tR s).1.sT))],sl 1 nE ((tR s).2)]) (ds:= [agg [sl 1 rE_ ((tR s).1.aC),sl 2 sE ((tR s).1.sT)],sl 1 nE ((tR s).2)]) ⟨fun h=>agg_le (cs:= [fre N (sl 1 rE_ ((tR s).1.aC)),frb (ix (hOl s) 0) N (sl 2 sE ((tR s).1.sT))]) (ds:= [sl 1 rE_ ((tR s).1.aC),sl 2 sE ((tR s).1.sT)]) ⟨fun h=>nw_le h,fun h=>frb_le h,tV⟩ h,fun h=>h,tV⟩ h) (mv (xt J J (xt J J (sPA (cs':= [sl 1 rE_ ((tR s).1.aC),sl 2 sE ((tR s).1.sT)]) J J J T.agg25 J J (ag (nl (th (sq (sq (rg (mv (fc (slenI 18 J) fun hm18=>(lnF J T.sl63 (bi J J b_eql (nl (th ?_)))))))))))))))))))))))))))
 refine cd J (fun hc0=> ?_) (fun hc0=> ?_)
 ·try simp at hc0
  have hh0:ix (hOl s) 0=true:=by
   cases h:ix (hOl s) 0 with
   |true=>rfl
   |false=>
    exfalso
    rw[trimmed_not h] at hc0
    have h3:=hop
    rw[show ordS s= [] from hc0] at h3
    simp at h3
  refine sq (rg (bd (css:= [(0,_)]) T.st49 (eC (eC (eC eZ))) ⟨J,J,p1 (φ:=bl true) J,tV⟩ (sPA (cs':= [bl true,eqv (.slice none 0 0),eqv (.slice none 0 0)]) J J J T.agg49 J J (nl (th (rt (rt_ ?_)))))))
  refine kncA 6 1 (fre w0.heap.size (sl 1 rE_ [])) rfl rfl nw_nil ?_
  refine kncA 6 2 (fre w0.heap.size (sl 1 gE [])) rfl rfl nw_nil ?_
  exact rE ⟨(true,⟨[],[]⟩),⟨fun _=>⟨J,.inl hh0⟩,fun h=>(nomatch (show true=false from h))⟩⟩ [.cell 6 49] J [agg [bl true,fre w0.heap.size (sl 1 rE_ []),fre w0.heap.size (sl 1 gE [])]] ⟨.agg J J T.agg49 J J,tV⟩ J trivial eX
 ·try simp at hc0
  have h00:ix (hOl s) 0=false:=by
   cases h:ix (hOl s) 0 with
   |false=>rfl
   |true=>exact absurd (by rw[trimmed_hol h]) hc0
  have hts2:(tR s).1=tS s:=by rw[trimmed_not h00]
  have hto:=trim_ok hs
  have htu:=trim_used hs
  have hta:=trim_acts s
  have hxa:x.aC.length=(tR s).1.aC.length:=by rw[hta,hxt,hts]
  have hya:t.aC.length=(tR s).1.aC.length:=by rw[hta,hts]
  have htl:=TrimI.trim_len hs
  have hz2:x.sT.length*(t.sT.length*(tR s).1.sT.length)≤1000000000:=Nat.le_trans (Nat.mul_le_mul_left _ (Nat.mul_le_mul_left _ htl)) hz
  refine sk (th (sq (rg (lPA J J T.agg38 J (lPA J J T.agg25 J (lPA J J T.agg25 J (cl (divj.failure_ok x t ((tR s).1) aS aS aS aS aS aS aS) T.ent88 trivial fun N26 i26=>(mv (xt J J (xt J J (xt J J (ag (ag (ag (nl (th (sq (sq (rg (mv (no J (nl (th ?_)))))))))))))))))))))))
  refine cd J (fun hc1=> ?_) (fun hc1=> ?_)
  ·try simp at hc1
   have hno:i26.1.2.2=false:=by simpa using hc1
   refine sq (rg (bd (css:= [(0,_)]) T.st49 (eC (eC (eC eZ))) ⟨J,J,p1 (φ:=bl true) J,tV⟩ (sPA (cs':= [bl true,eqv (.slice none 0 0),eqv (.slice none 0 0)]) J J J T.agg49 J J (nl (th (rt (rt_ ?_)))))))
   refine kncA 6 1 (fre w0.heap.size (sl 1 rE_ [])) rfl rfl nw_nil ?_
   refine kncA 6 2 (fre w0.heap.size (sl 1 gE [])) rfl rfl nw_nil ?_
   exact rE ⟨(true,⟨[],[]⟩),⟨fun _=>⟨J,.inr (i26.2.none hno).2.2⟩,fun h=>(nomatch (show true=false from h))⟩⟩ [.cell 6 49] J [agg [bl true,fre w0.heap.size (sl 1 rE_ []),fre w0.heap.size (sl 1 gE [])]] ⟨.agg J J T.agg49 J J,tV⟩ J trivial eX
  ·try simp at hc1
   have hyes:i26.1.2.2=true:=by simpa using hc1
   obtain⟨q,i,hqf,hi,hw,hacc,hbad⟩:=i26.2.some hyes
   have hruns:=qf_runs hx ht hto htu hxa hqf i hi
   have halive:=hruns.1.alive hto
   have hgo:=hruns.1.go hto
   have hql:=qf_len hx ht hto htu hxa hqf
   have hwl:=wordTo_len (qf_back hqf) i (by simpa using hi)
   have hal2:Alive (tR s).1 i26.1.1:=by rw[hw];exact halive
   have hwl2:i26.1.1.length≤1000000000:=by rw[hw];show(wordTo (q.map toMt) i).length≤_;omega
   have hwants:Wants (tR s).1 (pathL (tR s).1 i26.1.1 i26.1.2.1):=by
    rw[hw]
    exact⟨pathL_mem hto halive (by rw[hgo,Int.toNat_natCast];exact hacc),fun y hy=>by rw[hts2] at hy ⊢;exact tS_ne hs h00 hy,by rw[pathL_len];show(wordTo (q.map toMt) i).length+1≤_;omega⟩
   refine sk (th (sq (rg (lPA J J T.agg25 J (mv (mv (cal0 (φs:= [agg [sl 1 rE_ ((tR s).1.aC),sl 2 sE ((tR s).1.sT)],sl 1 nE i26.1.1,int i26.1.2.1]) (φ:=tup [sl 2 pE (pathL ((tR s).1) i26.1.1 i26.1.2.1),bl (decide (i26.1.2.1∈acc ((tR s).1) (goS ((tR s).1) i26.1.1).toNat))]) ⟨J,J,J,tV⟩ (judg.Path_ok ((tR s).1) aS i26.1.1 aS i26.1.2.1 O) T.ent89 (mv (xt J J (xt J J (ag (ag (nl (th (sq (rg (lPA J J T.agg25 J (mv (calN (φs:= [agg [sl 1 rE_ ((tR s).1.aC),sl 2 sE ((tR s).1.sT)],sl 2 pE (pathL ((tR s).1) i26.1.1 i26.1.2.1)]) ⟨J,J,tV⟩ (wit.Witness_ok ((tR s).1) aS (pathL ((tR s).1) i26.1.1 i26.1.2.1) aS) T.ent85 trivial fun N42 i42 hN42=>(kd (φ':=agg [fre w0.heap.size (sl 1 rE_ i42.1.aC),fre w0.heap.size (sl 1 gE i42.1.sT)]) (fun h=>agg_le (cs:= [fre N42 (sl 1 rE_ i42.1.aC),fre N42 (sl 1 gE i42.1.sT)]) (ds:= [fre w0.heap.size (sl 1 rE_ i42.1.aC),fre w0.heap.size (sl 1 gE i42.1.sT)]) ⟨fun h=>nw_mono hN42 h,fun h=>nw_mono hN42 h,tV⟩ h) (bd (css:= [(1,_)]) T.st49 (eC (eC (eC eZ))) ⟨J,J,pA (cs:= [fre w0.heap.size (sl 1 rE_ i42.1.aC),fre w0.heap.size (sl 1 gE i42.1.sT)]) J,tV⟩ (sPA (cs':= [bl false,fre w0.heap.size (sl 1 rE_ i42.1.aC),fre w0.heap.size (sl 1 gE i42.1.sT)]) J J J T.agg49 J J (nl (th (rt ?_)))))))))))))))))))))))))
   exact rE ⟨(false,i42.1),⟨fun h=>(nomatch (show false=true from h)),fun _=>⟨h00,q,i,i26.1.2.1,by rw[←hts2];exact hqf,hi,by rw[←hts2];exact hacc,hbad,by rw[←hts2,←hw];exact i42.2⟩⟩⟩ [.cell 6 49] J [agg [bl false,fre w0.heap.size (sl 1 rE_ i42.1.aC),fre w0.heap.size (sl 1 gE i42.1.sT)]] ⟨.agg J J T.agg49 J J,tV⟩ J trivial eX
theorem FitsN_ok (x:SSys) (t s:SS) (htm:smallSpec t) (hsm:smallSpec s) (hz:x.sT.length*(t.sT.length*s.sT.length)≤1000000000):
 AL.Fn Tryz.prog 25 [sys x,spec t,spec s] [] (ι:= { v:Bool × SSys//(fineX x t s≠0→v=(false,⟨[],[]⟩))∧(fineX x t s=0→JdgOK x t s v) }) (fun N i=>tup [agg [bl i.1.1,fre N (strs i.1.2.aC),fre N (sl 1 gE i.1.2.sT)],int (fineX x t s)]) (fun _=> []):=by
 refine fnI Tryz.func25 rfl rfl (fun w0 F0=> ?_)
 refine fcC (inhS 0 J) (fun hS0=> ?_)
 obtain⟨hma0,hms0,hme0⟩:=sys_lens hS0
 refine fcC (inhS 1 J) (fun hS1=> ?_)
 obtain⟨hsa1,hss1,hse1⟩:=sLn hS1
 refine fcC (inhS 2 J) (fun hS2=> ?_)
 obtain⟨hsa2,hss2,hse2⟩:=sLn hS2
 refine sq (rg (bx (key:=3) (cs:= [sl 1 rE_ x.aC,sl 1 gE x.sT]) J fun b3=>(bx (key:=4) (cs:= [sl 1 rE_ t.aC,sl 2 sE t.sT]) J fun b4=>(bx (key:=5) (cs:= [sl 1 rE_ s.aC,sl 2 sE s.sT]) J fun b5=>(al (key:=6) T.z49 (eC (eC (eC eZ))) fun b6=>(ag (nl (th (sq (sq (rg (lPA J J T.agg38 J (lPA J J T.agg25 J (lPA J J T.agg25 J (cal0 (φs:= [agg [sl 1 rE_ x.aC,sl 1 gE x.sT],agg [sl 1 rE_ t.aC,sl 2 sE t.sT],agg [sl 1 rE_ s.aC,sl 2 sE s.sT]]) (φ:=int (fineX x t s)) ⟨J,J,J,tV⟩ (divv.fine_ok x t s aS aS) T.ent56 (ag (nl (th (sq (rg (mv (bi J J b_neq (nl (th ?_))))))))))))))))))))))))
 refine cd J (fun hc0=> ?_) (fun hc0=> ?_)
 ·try simp at hc0
  refine sq (rg (bd (css:= []) T.st49 (eC (eC (eC eZ))) trivial (mv (sPA (cs':= [bl false,eqv (.slice none 0 0),eqv (.slice none 0 0)]) J J J T.agg49 J J (ag (nl (th (rt (rt_ ?_)))))))))
  refine kncA 6 1 (fre w0.heap.size (sl 1 rE_ [])) rfl rfl nw_nil ?_
  refine kncA 6 2 (fre w0.heap.size (sl 1 gE [])) rfl rfl nw_nil ?_
  exact rE ⟨(false,⟨[],[]⟩),⟨fun _=>J,fun h=>absurd h hc0⟩⟩ [.cell 6 49,.tmp 7] J [agg [bl false,fre w0.heap.size (sl 1 rE_ []),fre w0.heap.size (sl 1 gE [])],int (fineX x t s)] ⟨.agg J J T.agg49 J J,.tmp J,tV⟩ J trivial eX
 ·try simp at hc0
  obtain⟨hxv,htv,hsv,hxt,hts⟩:=fineX_ok hc0
  have hx:=sysOK_ok hxv
  have ht:=okSpec_of htv
  have hs:=okSpec_of hsv
  refine sk (th (sq (rg (lPA J J T.agg38 J (lPA J J T.agg25 J (lPA J J T.agg25 J (calN (φs:= [agg [sl 1 rE_ x.aC,sl 1 gE x.sT],agg [sl 1 rE_ t.aC,sl 2 sE t.sT],agg [sl 1 rE_ s.aC,sl 2 sE s.sT]]) ⟨J,J,J,tV⟩ (divn3.JudgeN_ok x t s aS aS aS aS aS aS) T.ent57 trivial fun N20 i20 hN20=>(kd (φ':=agg [bl i20.1.1,fre w0.heap.size (sl 1 rE_ i20.1.2.aC),fre w0.heap.size (sl 1 gE i20.1.2.sT)]) (fun h=>agg_le (cs:= [bl i20.1.1,fre N20 (sl 1 rE_ i20.1.2.aC),fre N20 (sl 1 gE i20.1.2.sT)]) (ds:= [bl i20.1.1,fre w0.heap.size (sl 1 rE_ i20.1.2.aC),fre w0.heap.size (sl 1 gE i20.1.2.sT)]) ⟨fun h=>h,fun h=>nw_mono hN20 h,fun h=>nw_mono hN20 h,tV⟩ h) (sPA (cs':= [bl i20.1.1,fre w0.heap.size (sl 1 rE_ i20.1.2.aC),fre w0.heap.size (sl 1 gE i20.1.2.sT)]) J J J T.agg49 J J (ag (nl (th (rt ?_)))))))))))))
  have hr0:(0:Int)=(fineX x t s):=by
   exact hc0.symm
  exact rE ⟨i20.1,⟨fun h=>absurd hc0 h,fun _=>i20.2⟩⟩ [.cell 6 49,.tmp 7] J [agg [bl i20.1.1,fre w0.heap.size (sl 1 rE_ i20.1.2.aC),fre w0.heap.size (sl 1 gE i20.1.2.sT)],int 0] ⟨.agg J J T.agg49 J J,.tmp J,tV⟩ (cA1 (fun x0=>rV [agg [bl i20.1.1,fre w0.heap.size (sl 1 rE_ i20.1.2.aC),fre w0.heap.size (sl 1 gE i20.1.2.sT)],int x0]) hr0) trivial eX
end divn3
end
section
open ref01 ref03
instance:Kinds nE 1 (fun _=>Sh.i):=kinds1 (fun _=>⟨_,_,rfl⟩)
instance:Kinds rE_ 1 (fun _=>Sh.s):=kinds1 (fun _=>⟨_,rfl⟩)
theorem sl_is {α:Type} {n:Nat} {enc:α→List AV} {xs:List α} {w:World} {F:Fz} {v:Value} (h:(sl n enc xs).p w F v):∃A m c,v= .slice A m c:=by
 have h2:=sl_sv h
 rw[←h2];cases v<;>exact⟨_,_,_,rfl⟩
theorem state_sl (y:SA) {w:World} {F:Fz} {us:List Value} (h:All2 w F (sE y) us) (j:Nat) (u:Value) (hj:us[j]?=some u):∃A m c,u= .slice A m c:=by
 match us,h with
 | [a,b],⟨h0,h1,_⟩=>
   match j with
   |0=>simp at hj;subst hj;exact sl_is h0
   |1=>simp at hj;subst hj;exact sl_is h1
   |j+2=>simp at hj
namespace spoil
theorem Spoil_ok (al:List ByteArray) (sts:List SA) (W:World) (D:Fz) (vA vS:Value) (hA:(strs al).p W D (sv vA)) (hS:(sl 2 sE sts).p W D (sv vS)):
 AL.Fn Tryz.prog 34 [agg [eqv (sv vA),eqv (sv vS)]] [(100,rgz D W (firstZ (sv vS) 2 0))] (ι:=Unit) (fun _ _=>tup []) (fun _=> [(100,rgz D W (firstZ (sv vS) 2 sts.length))]):=by
 refine fnI Tryz.func34 rfl rfl (fun w0 F0=> ?_)
 have hal:al.length≤140737488355328:=sl_len hA
 have hsl:sts.length≤140737488355328:=sl_len hS
 refine sq (rg (bx (key:=1) (cs:= [eqv (sv vA),eqv (sv vS)]) J fun b1=>(nl (th (sq (sq (rg (fP J T.fld25_0 (lP J J J T.one22 (kn 7 (wv W D (sl 1 rE_ al)) J (eq_wv hA) (lenW (e:=9) J T.sl22 (mv (nl (th (bk ?_)))))))))))))))
 have hI0_0:0≤al.length:=by
  first|omega|simp
 refine lp (κ:=Nat) (fun p=> [(1,ptr 1 b1 0),(8,int (al.length:Int)),(9,int (p:Int))]) (fun p=> [(1,cell b1 [eqv (sv vA),eqv (sv vS)]),(100,rgz D W (firstZ (sv vS) 2 0))]) (fun p=>p≤al.length) (fun p=>al.length- p) 0 hI0_0 ⟨id,id,id,tV⟩ ⟨rI,rI,tV⟩ ?_
 intro k hG0
 have hk0:k≤al.length:=hG0
 refine sq (rg (bi J J b_lss (nl (th (sq ?_)))))
 refine cd J (fun hc0=> ?_) (fun hc0=> ?_)
 ·try simp at hc0
  refine sk (th (sq (bk (sq (rg (mv (ag (nl (th (rg (fP J T.fld25_0 (lP J J J T.one22 (mv (kn 13 (wv W D (sl 1 rE_ al)) J (eq_wv hA) (idxW (fun _=>Sh.s) J J T.sl22 O O (stT (key:=100) (φ:=str ({ data:= #[115,112,111,105,108,116] })) J J J T.one9 J (nl (eb (th (rg (bi J J (b_add i6) (mv (nl ?_)))))))))))))))))))))))
  have hN0:(k+1)≤al.length:=by
   first|omega|simp_all
  exact ln (k+1) hN0 dO ⟨id,id,id,tV⟩ ⟨rI,rI,tV⟩
 ·try simp at hc0
  refine ex (xt_ (xt_ (xb (th (sq (rg (fP J T.fld25_1 (lP J J J T.one23 (kn 18 (wv W D (sl 2 sE sts)) J (eq_wv hS) (lenW (e:=72) J T.sl23 (mv (nl (th (bk ?_))))))))))))))
  have hI1_0:0≤sts.length:=by
   first|omega|simp
  refine lp (κ:=Nat) (fun p=> [(1,ptr 1 b1 0),(19,int (sts.length:Int)),(20,int (p:Int))]) (fun p=> [(1,cell b1 [eqv (sv vA),eqv (sv vS)]),(100,rgz D W (firstZ (sv vS) 2 p))]) (fun p=>p≤sts.length) (fun p=>sts.length- p) 0 hI1_0 ⟨id,id,id,tV⟩ ⟨rI,rI,tV⟩ ?_
  intro k1 hG1
  have hk1:k1≤sts.length:=hG1
  refine sq (rg (bi J J b_lss (nl (th (sq ?_)))))
  refine cd J (fun hc1=> ?_) (fun hc1=> ?_)
  ·try simp at hc1
   refine sk (th (sq (bk (sq (rg (mv (ag (nl (th (sq (sq (rg (fP J T.fld25_1 (lP J J J T.one23 (mv (idxX (xs:=sts) J hS J T.sl23 O O (fldX J T.fld72_0 (ldX (key:=100) (i:=k1) (xs:=sts) J J hS (gK O) J O T.one63 ?_))))))))))))))))))
   refine fc (wvI 28 rfl) (fun hl28=> ?_)
   have hl28b:(ix sts k1).aP.length≤140737488355328:=hl28
   refine lenW (e:=3) rfl T.sl63 (mv (nl (th (bk ?_))))
   have hI2_0:0≤(ix sts k1).aP.length:=by
    first|omega|simp
   refine lp (κ:=Nat) (fun p=> [(1,ptr 1 b1 0),(3,int (k1:Int)),(19,int (sts.length:Int)),(20,int (k1:Int)),(29,int ((ix sts k1).aP.length:Int)),(30,int (p:Int))]) (fun p=> [(1,cell b1 [eqv (sv vA),eqv (sv vS)]),(100,rgz D W (firstZ (sv vS) 2 k1))]) (fun p=>p≤(ix sts k1).aP.length) (fun p=>(ix sts k1).aP.length- p) 0 hI2_0 ⟨id,id,id,id,id,id,tV⟩ ⟨rI,rI,tV⟩ ?_
   intro k2 hG2
   have hk2:k2≤(ix sts k1).aP.length:=hG2
   refine sq (rg (bi J J b_lss (nl (th (sq ?_)))))
   refine cd J (fun hc2=> ?_) (fun hc2=> ?_)
   ·try simp at hc2
    refine sk (th (sq (bk (sq (rg (mv (ag (nl (th (rg (fP J T.fld25_1 (lP J J J T.one23 (mv (idxX (xs:=sts) J hS J T.sl23 O O (fldX J T.fld72_0 (ldX (key:=100) (i:=k1) (xs:=sts) J J hS (gK O) J O T.one63 (mv (idxW (fun _=>Sh.i) J J T.sl63 O O (stT (key:=100) (φ:=int (-7)) J J J T.one3 J (nl (eb (th (rg (bi J J (b_add i6) (mv (nl ?_))))))))))))))))))))))))))
    have hN0:(k2+1)≤(ix sts k1).aP.length:=by
     first|omega|simp_all
    exact ln (k2+1) hN0 dO ⟨id,id,id,id,id,id,tV⟩ ⟨rI,rI,tV⟩
   ·try simp at hc2
    refine ex (xt_ (xt_ (xb (th (sq (sq (rg (fP J T.fld25_1 (lP J J J T.one23 (mv (idxX (xs:=sts) J hS J T.sl23 O O (fldX J T.fld72_1 (ldX (key:=100) (i:=k1) (xs:=sts) J J hS (gK O) J O T.one63 ?_)))))))))))))
    refine fc (wvI 47 rfl) (fun hl47=> ?_)
    have hl47b:(ix sts k1).next.length≤140737488355328:=hl47
    refine lenW (e:=3) rfl T.sl63 (mv (nl (th (bk ?_))))
    have hI3_0:0≤(ix sts k1).next.length:=by
     first|omega|simp
    refine lp (κ:=Nat) (fun p=> [(1,ptr 1 b1 0),(3,int (k1:Int)),(19,int (sts.length:Int)),(20,int (k1:Int)),(48,int ((ix sts k1).next.length:Int)),(49,int (p:Int))]) (fun p=> [(1,cell b1 [eqv (sv vA),eqv (sv vS)]),(100,rgz D W (firstZ (sv vS) 2 k1))]) (fun p=>p≤(ix sts k1).next.length) (fun p=>(ix sts k1).next.length- p) 0 hI3_0 ⟨id,id,id,id,id,id,tV⟩ ⟨rI,rI,tV⟩ ?_
    intro k3 hG3
    have hk3:k3≤(ix sts k1).next.length:=hG3
    refine sq (rg (bi J J b_lss (nl (th (sq ?_)))))
    refine cd J (fun hc3=> ?_) (fun hc3=> ?_)
    ·try simp at hc3
     refine sk (th (sq (bk (sq (rg (mv (ag (nl (th (rg (fP J T.fld25_1 (lP J J J T.one23 (mv (idxX (xs:=sts) J hS J T.sl23 O O (fldX J T.fld72_1 (ldX (key:=100) (i:=k1) (xs:=sts) J J hS (gK O) J O T.one63 (mv (idxW (fun _=>Sh.i) J J T.sl63 O O (stT (key:=100) (φ:=int (-7)) J J J T.one3 J (nl (eb (th (rg (bi J J (b_add i6) (mv (nl ?_))))))))))))))))))))))))))
     have hN0:(k3+1)≤(ix sts k1).next.length:=by
      first|omega|simp_all
     exact ln (k3+1) hN0 dO ⟨id,id,id,id,id,id,tV⟩ ⟨rI,rI,tV⟩
    ·try simp at hc3
     refine ex (xt_ (xt_ (xb (th (rg (fP J T.fld25_1 (lP J J J T.one23 (mv (bd (css:= []) T.st72 (eC (eC eZ)) trivial (idxX (xs:=sts) J hS J T.sl23 O O (stZ (key:=100) (i:=k1) (xs:=sts) J J hS O state_sl T.agg72 J (nl (eb (th (rg (bi J J (b_add i6) (mv (nl ?_))))))))))))))))))
     have hN0:(k1+1)≤sts.length:=by
      first|omega|simp_all
     exact ln (k1+1) hN0 dO ⟨id,id,id,tV⟩ ⟨rI,rI,tV⟩
  ·try simp at hc1
   refine ex (xt_ (xt_ (xb ?_)))
   obtain rfl:k1=sts.length:=by omega
   exact rE () [] J [] trivial J ⟨rI,tV⟩ eX
end spoil
end
end Go.Proofs.YtcjemmihcplgdaaGreat
