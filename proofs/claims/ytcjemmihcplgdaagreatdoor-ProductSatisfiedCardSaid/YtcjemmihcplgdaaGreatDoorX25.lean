/- The walks of the functions and the plain laws. Own texts of this claim, packed: Zdprodb, Zdprodr, ZdTogM, ZdBrkM, ZdProdM, Zdprodw, ZdEncM2, ZdSatC. -/
import Derived.Test.YtcjemmihcplgdaaGreatDoorX24
import Derived.Test.YtcjemmihcplgdaaGreatDoorX21
import Derived.Test.YtcjemmihcplgdaaGreatDoorX15
import Derived.Test.YtcjemmihcplgdaaGreatDoorX16
set_option linter.all false
namespace Go.Proofs.YtcjemmihcplgdaaGreatDoor
open AL Go
set_option maxRecDepth 100000
section
open ref01 ref03 ref04 ref06 prog prog2 prog3 prog4 prog5 prog6 prog7 prog8 prog9 prog13 prog15 starts Part Rungs LeftM TrimM Itoa Keys RoundM MergeM BisM BisM4 BisM5 WalkM StepM WitM JudgM JudgM2 refw judg wit refj sysw satj divr divs divd dive divg divw divv LevM LevM2 ChsM TrimI QuoM FailM DivM RefM GenW CompM CrossM CompP EncM prodc divp prodm prodp BesM shelfI
def sdE (p:Sd):List AV:= [ints p.1,int p.2]
instance (p:Sd):OneAll (sdE p):=inferInstanceAs (OneAll [ints p.1,int p.2])
def thnE (m:SSys) (a:Int) (x:Int):List Int:=((edg m x.toNat).filter fun e=>decide (e.1=a)).map Prod.snd
def thnL (m:SSys) (l:List Int) (a:Int):List Int:=l.flatMap (thnE m a)
theorem thn_snoc {m:SSys} {l:List Int} {a:Int} {k:Nat} (h:k<l.length):thnL m (l.take (k+1)) a=thnL m (l.take k) a++thnE m a (ix l k):=by
 unfold thnL
 rw[take_s h,List.flatMap_append];simp
theorem thn_hit {m:SSys} {a x:Int} {j:Nat} (hj:j<(edg m x.toNat).length) (h:(ix (edg m x.toNat) j).1=a):(((edg m x.toNat).take (j+1)).filter fun e=>decide (e.1=a)).map Prod.snd=(((edg m x.toNat).take j).filter fun e=>decide (e.1=a)).map Prod.snd++ [(ix (edg m x.toNat) j).2]:=by
 rw[take_s hj,List.filter_append,List.map_append]
 simp[h]
theorem thn_miss {m:SSys} {a x:Int} {j:Nat} (hj:j<(edg m x.toNat).length) (h:(ix (edg m x.toNat) j).1≠a):(((edg m x.toNat).take (j+1)).filter fun e=>decide (e.1=a)).map Prod.snd=(((edg m x.toNat).take j).filter fun e=>decide (e.1=a)).map Prod.snd:=by
 rw[take_s hj,List.filter_append,List.map_append]
 simp[h]
theorem thn_mem {m:SSys} {l:List Int} {a u:Int}:u∈thnL m l a↔∃y∈l,∃e∈edg m y.toNat,e.1=a∧e.2=u:=by
 unfold thnL thnE
 rw[List.mem_flatMap]
 constructor
 ·rintro⟨y,hy,h⟩
  obtain⟨e,he,rfl⟩:=List.mem_map.1 h
  obtain⟨h1,h2⟩:=List.mem_filter.1 he
  exact⟨y,hy,e,h1,of_decide_eq_true h2,rfl⟩
 ·rintro⟨y,hy,e,he,h1,rfl⟩
  exact⟨y,hy,List.mem_map.2 ⟨e,List.mem_filter.2 ⟨he,decide_eq_true h1⟩,rfl⟩⟩
theorem thn_len {m:SSys} {a:Int} (hm:okSys m):∀(l:List Int),(∀x∈l,0≤x∧x<(m.sT.length:Int))→(thnL m l a).length≤l.length*400000
 | [],_=>by simp[thnL]
 |x::l,h=>by
  have ih:=thn_len hm l (fun y hy=>h y (List.mem_cons_of_mem _ hy)) (a:=a)
  have hx:=h x (by simp)
  have h1:(thnE m a x).length≤400000:=by
   unfold thnE
   rw[List.length_map]
   exact Nat.le_trans (List.length_filter_le _ _) (hm.many x.toNat O)
  have e:thnL m (x::l) a=thnE m a x++thnL m l a:=by unfold thnL;rw[List.flatMap_cons]
  rw[e,List.length_append,List.length_cons]
  omega
theorem thn_sorted {m:SSys} (hm:okSys m) {l:List Int} (hl:∀x∈l,0≤x∧x<(m.sT.length:Int)) {a:Int}:Lib.compact (srtI (thnL m l a))=nextM m l a:=
 inc_eq (comp_rise (srt_le _)) (next_rise m l a) fun u=>by
  rw[comp_mem]
  unfold srtI
  rw[List.mem_mergeSort,thn_mem,next_mem]
  constructor
  ·rintro⟨y,hy,e,he,h1,rfl⟩
   have hb:=hl y hy
   have:=hm.ed y.toNat O e he
   exact⟨e.2.toNat,O,O,y,hy,e,he,h1,O⟩
  ·rintro⟨k,rfl,_,y,hy,e,he,h1,h2⟩
   exact⟨y,hy,e,he,h1,h2⟩
theorem off_snoc {m:SSys} {l:List Int} {k:Nat} (h:k<l.length):offL m (l.take (k+1))=offL m (l.take k)++ [offM m (ix l k).toNat]:=by
 unfold offL
 rw[take_s h,List.map_append];rfl
theorem inc_le {n:Nat} {l:List Int} (h:l.Pairwise (· < ·)) (hb:∀x∈l,0≤x∧x<(n:Int)):l.length≤n:=by
 have hnd:l.Nodup:=h.imp (fun h=>by omega)
 have hs:l ⊆ (List.range n).map fun(x:Nat)=>(x:Int):=fun x hx=>by
  have:=hb x hx
  exact List.mem_map.2 ⟨x.toNat,List.mem_range.2 O,O⟩
 have:=List.Nodup.length_le_of_subset hnd hs
 simpa using this
structure KeyOK (p:Sd):Prop where
 x0:0≤p.2
 x1:p.2<10000
 bd:∀x∈p.1,0≤x∧x<10000
 len:p.1.length≤10000
theorem key_of {m:SSys} {t:SS} (hm:okSys m) (ht:oK t) {p:Sd} (h:sOk m t p):KeyOK p:=by
 have f1:=hm.few1
 have f2:=ht.few1
 have h1:=h.x1
 refine⟨h.x0,O,fun x hx=> ?_,Nat.le_trans (inc_le h.rise h.bd) f1⟩
 have:=h.bd x hx
 omega
theorem skey_size {p:Sd} (h:KeyOK p):(skey p).size≤maxL:=by
 have hx1:=h.x1
 have:=keyB_size p.2 p.1 ⟨h.x0,O⟩ (fun x hx=>by have:=h.bd x hx;omega)
 have hl:=h.len
 unfold skey maxL
 omega
theorem skey_take {p:Sd} {k:Nat} (hk:k<p.1.length):keyB p.2 (p.1.take k)++((⟨#[32]⟩:ByteArray)++itoaB (ix p.1 k))=keyB p.2 (p.1.take (k+1)):=by rw[keyB_snoc,take_s hk]
theorem key_len {p:Sd} (h:KeyOK p) (k:Nat):(keyB p.2 (p.1.take k)).size≤22+22*10000:=by
 have hx1:=h.x1
 have:=keyB_size p.2 (p.1.take k) ⟨h.x0,O⟩ (fun x hx=>by have:=h.bd x (List.mem_of_mem_take hx);omega)
 have hl:=h.len
 rw[List.length_take] at this
 omega
noncomputable def growT (m:SSys) (U:SS):SS × Bool:=if (sL m U).length≤500 then((tR (sD m U)).1,true) else(⟨[],[]⟩,false)
theorem growT_no {m:SSys} {U:SS} (h:500<(sL m U).length):growT m U=(⟨[],[]⟩,false):=by unfold growT;rw[if_neg O]
theorem bes_no {m:SSys} {t:SS} (h:¬fineSE m t=0):besS m t=(⟨[],[]⟩,fineSE m t):=by unfold besS;rw[if_neg h]
theorem bes_hol {m:SSys} {t:SS} (h:fineSE m t=0) (hl:(tR t).2.length=0):besS m t=((tR t).1,0):=by
 have hh:=hol_nil hl
 unfold besS
 rw[if_pos h,if_pos hh,trimmed_hol hh]
theorem bes_go {m:SSys} {t:SS} (h:fineSE m t=0) (hl:¬(tR t).2.length=0):besS m t=if (growT m (tR t).1).2=true then((growT m (tR t).1).1,0) else(⟨[],[]⟩,2):=by
 have hh:¬ix (hOl t) 0=true:=fun g=>hl (nil_hol g)
 unfold besS growT
 rw[if_pos h,if_neg hh]
 split
 ·rw[if_pos rfl]
 ·rw[if_neg (by simp)]
namespace T
theorem ent84:Ent Tryz.prog 84:=ent_of kR
theorem ent87:Ent Tryz.prog 87:=ent_of kR
theorem ent89:Ent Tryz.prog 89:=ent_of kR
theorem ent92:Ent Tryz.prog 92:=ent_of kR
theorem fld116_1:FieldAt Tryz.prog 116 1 1:=fieldAt_of kR
theorem fld116_0:FieldAt Tryz.prog 116 0 0:=fieldAt_of kR
theorem one113:IsOne Tryz.prog 113:=isOne_of kR
theorem z116:ZeroIs Tryz.prog 116 [.slice none 0 0,.int .i64 0]:=zeroIs_of kR
theorem ent93:Ent Tryz.prog 93:=ent_of kR
theorem st116:StructT Tryz.prog 116 [(0,1),(1,1)] [.slice none 0 0,.int .i64 0]:=structT_of kR kR
theorem agg116:IsAgg Tryz.prog 116 2:=isAgg_of kR
theorem one118:IsOne Tryz.prog 118:=isOne_of kR
theorem mk174:MakeT Tryz.prog 174 116 2 32 [.slice none 0 0,.int .i64 0]:=makeT_of kR kR
theorem z174:ZeroIs Tryz.prog 174 [.slice none 0 0]:=zeroIs_of kR
theorem one174:IsOne Tryz.prog 174:=isOne_of kR
theorem sl174:IsSlice Tryz.prog 174 116 2:=isSlice_of kR
theorem one122:IsOne Tryz.prog 122:=isOne_of kR
theorem z113:ZeroIs Tryz.prog 113 [.nilFunc]:=zeroIs_of kR
theorem ent86:Ent Tryz.prog 86:=ent_of kR
end T
namespace prodb
theorem Then_ok (m:SSys) (hm:okSys m) (l:List Int) (hl:∀x∈l,0≤x∧x<(m.sT.length:Int)) (hll:l.length≤10000) (a:Int):
 AL.Fn Tryz.prog 93 [sys m,ints l,int a] [] (ι:=Unit) (fun N _=>fre N (ints (nextM m l a))) (fun _=> []):=by
 refine fnI Tryz.func93 rfl rfl (fun w0 F0=> ?_)
 have f1:=hm.few1
 refine fcC (inhS 0 J) (fun hS0=> ?_)
 obtain⟨hma0,hms0,hme0⟩:=sys_lens hS0
 refine fcC (slenI 1 J) (fun hm1=> ?_)
 refine sq (rg (bx (key:=3) (cs:= [sl 1 rE_ m.aC,sl 1 gE m.sT]) J fun b3=>(ag (nl (th (sq (rg (nw 7 3 1 nE (ag (rtg (key:=7) 7 J (nl (th (sq (sq (rg (mv (lnF J T.sl36 (mv (nl (th (bk ?_)))))))))))))))))))))
 have hI0_0:0≤l.length:=by
  first|omega|simp
 have hI0_1:([]:List Int)=thnL m (l.take 0) a:=by
  rfl
 refine lp (κ:=Nat × Value × (List Int)) (fun p=> [(2,int a),(3,ptr 3 b3 0),(6,eqv (.slice none 0 0)),(7,osl 7 p.2.1),(12,sl 1 nE l),(13,int (l.length:Int)),(14,int (p.1:Int))]) (fun p=> [(3,cell b3 [sl 1 rE_ m.aC,sl 1 gE m.sT]),(7,own p.2.1 3 1 nE p.2.2)]) (fun p=>(p.1≤l.length)∧(p.2.2=thnL m (l.take p.1) a)) (fun p=>l.length- p.1) ⟨0,(.slice none 0 0),([]:List Int)⟩ ⟨hI0_0,hI0_1⟩ ⟨id,id,id,id,id,id,id,tV⟩ ⟨rI,rI,tV⟩ ?_
 intro⟨k,v7x,out⟩ hG0
 obtain⟨hk0,hI0⟩:(k≤l.length)∧(out=thnL m (l.take k) a):=hG0
 show Ct _ _ _ _ [(2,int a),(3,ptr 3 b3 0),(6,eqv (.slice none 0 0)),(7,osl 7 v7x),(12,sl 1 nE l),(13,int (l.length:Int)),(14,int (k:Int))] [(3,cell b3 [sl 1 rE_ m.aC,sl 1 gE m.sT]),(7,own v7x 3 1 nE out)] _
 refine sq (rg (bi J J b_lss (nl (th (sq ?_)))))
 refine cd J (fun hc0=> ?_) (fun hc0=> ?_)
 ·try simp at hc0
  have hlk:=hl _ (ix_memS hc0)
  have hes:=hm.ed (ix l k).toNat O
  have hmy:=hm.many (ix l k).toNat O
  have heq:(edg m (ix l k).toNat).length=(ix m.sT (ix l k).toNat).length:=rfl
  have hol:out.length≤10000*400000:=by
   rw[hI0]
   refine Nat.le_trans (thn_len hm (l.take k) (fun x hx=>hl x (List.mem_of_mem_take hx))) ?_
   rw[List.length_take];exact Nat.mul_le_mul O O
  refine sk (th (sq (bk (sq (rg (iF J J T.sl36 O gB (lF J J T.one3 (ag (nl (th (sq (rg (fP J T.fld43_1 (lP J J J T.one41 (mv (iF J J T.sl41 O gB (lF J J T.one103 (fc (slenI 22 J) fun hm22=>(lnF J T.sl103 (mv (nl (th (bk ?_)))))))))))))))))))))))
  have hI1_0:0≤(ix m.sT (ix l k).toNat).length:=by
   first|omega|simp
  have hI1_1:out=thnL m (l.take k) a++(((edg m (ix l k).toNat).take 0).filter fun e=>decide (e.1=a)).map Prod.snd:=by
   rw[hI0];simp
  refine lp (κ:=Nat × Value × (List Int)) (fun p=> [(2,int a),(3,ptr 3 b3 0),(6,eqv (.slice none 0 0)),(7,osl 7 p.2.1),(12,sl 1 nE l),(13,int (l.length:Int)),(14,int (k:Int)),(22,sl 2 pE (ix m.sT (ix l k).toNat)),(23,int ((ix m.sT (ix l k).toNat).length:Int)),(24,int (p.1:Int))]) (fun p=> [(3,cell b3 [sl 1 rE_ m.aC,sl 1 gE m.sT]),(7,own p.2.1 3 1 nE p.2.2)]) (fun p=>(p.1≤(ix m.sT (ix l k).toNat).length)∧(p.2.2=thnL m (l.take k) a++(((edg m (ix l k).toNat).take p.1).filter fun e=>decide (e.1=a)).map Prod.snd)) (fun p=>(ix m.sT (ix l k).toNat).length- p.1) ⟨0,v7x,out⟩ ⟨hI1_0,hI1_1⟩ ⟨id,id,id,id,id,id,id,id,id,id,tV⟩ ⟨rI,rI,tV⟩ ?_
  intro⟨k1,v7y,ou2⟩ hG1
  obtain⟨hk1,hI1⟩:(k1≤(ix m.sT (ix l k).toNat).length)∧(ou2=thnL m (l.take k) a++(((edg m (ix l k).toNat).take k1).filter fun e=>decide (e.1=a)).map Prod.snd):=hG1
  show Ct _ _ _ _ [(2,int a),(3,ptr 3 b3 0),(6,eqv (.slice none 0 0)),(7,osl 7 v7y),(12,sl 1 nE l),(13,int (l.length:Int)),(14,int (k:Int)),(22,sl 2 pE (ix m.sT (ix l k).toNat)),(23,int ((ix m.sT (ix l k).toNat).length:Int)),(24,int (k1:Int))] [(3,cell b3 [sl 1 rE_ m.aC,sl 1 gE m.sT]),(7,own v7y 3 1 nE ou2)] _
  refine sq (rg (bi J J b_lss (nl (th (sq ?_)))))
  refine cd J (fun hc1=> ?_) (fun hc1=> ?_)
  ·try simp at hc1
   have hol2:ou2.length≤10000*400000+400000:=by
    rw[hI1,List.length_append,←hI0,List.length_map]
    refine Nat.le_trans (Nat.add_le_add_left (List.length_filter_le _ _) _) ?_
    rw[List.length_take]
    omega
   refine sk (th (sq (bk (sq (rg (iF J J T.sl103 O gB (lFA J T.agg105 (Nat.le_of_ble_eq_true J) (al (key:=11) T.z105 (eC (eC eZ)) fun b11=>(sPA (cs':= [int ((ix (ix m.sT (ix l k).toNat) k1).1),int ((ix (ix m.sT (ix l k).toNat) k1).2)]) J J J T.agg105 J J (nl (th (sq (rg (fP J T.fld105_0 (lP J J J T.one3 (mv (bi J J b_eql (nl (th ?_)))))))))))))))))))
   refine cd J (fun hc2=> ?_) (fun hc2=> ?_)
   ·skip
    have ha2:(ix (edg m (ix l k).toNat) k1).1=a:=of_decide_eq_true hc2
    refine rg (mv (fP J T.fld105_1 (lP J J J T.one3 (bsE (enc:=nE) (xs:= [((ix (ix m.sT (ix l k).toNat) k1).2)]) (css:= [[int ((ix (ix m.sT (ix l k).toNat) k1).2)]]) T.mk36 ⟨J,J,p1 (φ:=int ((ix (ix m.sT (ix l k).toNat) k1).2)) J,tV⟩ J J J J (ap (key:=7) (zs:= [((ix (ix m.sT (ix l k).toNat) k1).2)]) osl_eq J J J T.mk36 (by unfold maxL at*;simp;omega) (by unfold maxL at*;simp;omega) fun v36=>(ag (nl (eb (th (rg (bi J J (b_add i6) (mv (nl ?_)))))))))))))
    have hN0:(k1+1)≤(ix m.sT (ix l k).toNat).length:=by
     first|omega|simp_all
    have hN1:(ou2++ [((ix (ix m.sT (ix l k).toNat) k1).2)])=thnL m (l.take k) a++(((edg m (ix l k).toNat).take (k1+1)).filter fun e=>decide (e.1=a)).map Prod.snd:=by
     rw[hI1,thn_hit O ha2,List.append_assoc]
    exact ln (⟨k1+1,v36,ou2++ [((ix (ix m.sT (ix l k).toNat) k1).2)]⟩:Nat × Value × (List Int)) ⟨hN0,hN1⟩ dO ⟨id,id,id,id,id,id,id,id,id,id,tV⟩ ⟨rI,rI,tV⟩
   ·skip
    have ha2:(ix (edg m (ix l k).toNat) k1).1≠a:=of_decide_eq_false hc2
    refine sk (eb (th (rg (bi J J (b_add i6) (mv (nl ?_))))))
    have hN0:(k1+1)≤(ix m.sT (ix l k).toNat).length:=by
     first|omega|simp_all
    have hN1:ou2=thnL m (l.take k) a++(((edg m (ix l k).toNat).take (k1+1)).filter fun e=>decide (e.1=a)).map Prod.snd:=by
     rw[hI1,thn_miss O ha2]
    exact ln (⟨k1+1,v7y,ou2⟩:Nat × Value × (List Int)) ⟨hN0,hN1⟩ dO ⟨id,id,id,id,id,id,id,id,id,id,tV⟩ ⟨rI,rI,tV⟩
  ·try simp at hc1
   refine ex (xt_ (xt_ (xb (eb (th (rg (bi J J (b_add i6) (mv (nl ?_)))))))))
   have hN0:(k+1)≤l.length:=by
    first|omega|simp_all
   have hN1:ou2=thnL m (l.take (k+1)) a:=by
    rw[hI1,thn_snoc O,show k1=(edg m (ix l k).toNat).length by omega,List.take_length];rfl
   exact ln (⟨k+1,v7y,ou2⟩:Nat × Value × (List Int)) ⟨hN0,hN1⟩ dO ⟨id,id,id,id,id,id,id,tV⟩ ⟨rI,rI,tV⟩
 ·try simp at hc0
  refine ex (xt_ (xt_ (xb (th (sq (rg (mv (cal (Hi:= [(7,own v7x 3 1 nE out)]) (φs:= [osl 7 v7x]) ⟨J,tV⟩ (rekeyIO 5 7 (shelfI.SortI_ok _ v7x out)) T.ent140 ⟨rI,tV⟩ fun _ _=>(nl (th (sq (rg (mv (cal (Hi:= [(7,own v7x 3 1 nE (srtI out))]) (φs:= [osl 7 v7x]) ⟨J,tV⟩ (rekeyIV 5 7 (shelfI.CompI_ok _ v7x (srtI out))) T.ent141 ⟨rI,tV⟩ fun _ v42=>(ag (nl (th (rt ?_))))))))))))))))))
  refine fzNA nE 7 6 noM flat rfl rfl ?_
  have hr0:(Lib.compact (srtI out))=(nextM m l a):=by
   rw[hI0,show k=l.length by omega,List.take_length];exact thn_sorted hm hl
  exact rE () [.tmp 6] J [fre w0.heap.size (sl 1 nE (Lib.compact (srtI out)))] ⟨.tmp J,tV⟩ (cA1 (fun x0=>rV [fre w0.heap.size (sl 1 nE x0)]) hr0) trivial eX
theorem offs_ok (m:SSys) (hm:okSys m) (l:List Int) (hl:∀x∈l,0≤x∧x<(m.sT.length:Int)) (hll:l.length≤10000):
 Fn0 Tryz.prog 84 [ints l,fp [strs m.aC,sl 1 gE m.sT]] (ints (offL m l)):=by
 refine fnI Tryz.func84 rfl rfl (fun w0 F0=> ?_)
 have f1:=hm.few1;have n8:=hm.n8
 refine fcC (slenI 0 J) (fun hm0=> ?_)
 refine sq (rg (ag (nl (th (sq (rg (nw 4 3 1 nE (ag (rtg (key:=4) 4 J (nl (th (sq (sq (rg (mv (lnF J T.sl36 (mv (nl (th (bk ?_))))))))))))))))))))
 have hI0_0:0≤l.length:=by
  first|omega|simp
 have hI0_1:([]:List Int)=offL m (l.take 0):=by
  rfl
 refine lp (κ:=Nat × Value × (List Int)) (fun p=> [(1,fp [sl 1 rE_ m.aC,sl 1 gE m.sT]),(3,eqv (.slice none 0 0)),(4,osl 4 p.2.1),(7,sl 1 nE l),(8,int (l.length:Int)),(9,int (p.1:Int))]) (fun p=> [(4,own p.2.1 3 1 nE p.2.2)]) (fun p=>(p.1≤l.length)∧(p.2.2=offL m (l.take p.1))) (fun p=>l.length- p.1) ⟨0,(.slice none 0 0),([]:List Int)⟩ ⟨hI0_0,hI0_1⟩ ⟨id,id,id,id,id,id,tV⟩ ⟨rI,tV⟩ ?_
 intro⟨k,v4,out⟩ hG0
 obtain⟨hk0,hI0⟩:(k≤l.length)∧(out=offL m (l.take k)):=hG0
 show Ct _ _ _ _ [(1,fp [sl 1 rE_ m.aC,sl 1 gE m.sT]),(3,eqv (.slice none 0 0)),(4,osl 4 v4),(7,sl 1 nE l),(8,int (l.length:Int)),(9,int (k:Int))] [(4,own v4 3 1 nE out)] _
 have hol:out.length≤k:=by rw[hI0];unfold offL;rw[List.length_map,List.length_take];omega
 refine sq (rg (bi J J b_lss (nl (th (sq ?_)))))
 refine cd J (fun hc0=> ?_) (fun hc0=> ?_)
 ·try simp at hc0
  have hlk:=hl _ (ix_memS hc0)
  have hoff:∀e∈edg m (ix l k).toNat,0≤e.1∧e.1<8:=fun e he=>by have:=hm.ed (ix l k).toNat O e he;omega
  refine sk (th (sq (bk (sq (rg (iF J J T.sl36 O gB (lF J J T.one3 (ag (nl (th (rg (mv (fF J T.fld43_1 (lF J J T.one41 (mv (iF J J T.sl41 O gB (lF J J T.one103 (cal0 (φs:= [sl 2 pE (ix m.sT (ix l k).toNat)]) (φ:=int (offE (ix m.sT (ix l k).toNat))) ⟨J,tV⟩ (sysw.Offers_ok (ix m.sT (ix l k).toNat) aS) T.ent85 (bsE (enc:=nE) (xs:= [(offE (ix m.sT (ix l k).toNat))]) (css:= [[int (offE (ix m.sT (ix l k).toNat))]]) T.mk36 ⟨J,J,p1 (φ:=int (offE (ix m.sT (ix l k).toNat))) J,tV⟩ J J J J (ap (key:=4) (zs:= [(offE (ix m.sT (ix l k).toNat))]) osl_eq J J J T.mk36 (by unfold maxL at*;simp;omega) (by unfold maxL at*;simp;omega) fun v21=>(ag (nl (eb (th (rg (bi J J (b_add i6) (mv (nl ?_))))))))))))))))))))))))))))
  have hN0:(k+1)≤l.length:=by
   first|omega|simp_all
  have hN1:(out++ [(offE (ix m.sT (ix l k).toNat))])=offL m (l.take (k+1)):=by
   rw[hI0,off_snoc O]
  exact ln (⟨k+1,v21,out++ [(offE (ix m.sT (ix l k).toNat))]⟩:Nat × Value × (List Int)) ⟨hN0,hN1⟩ dO ⟨id,id,id,id,id,id,tV⟩ ⟨rI,tV⟩
 ·try simp at hc0
  refine ex (xt_ (xt_ (xb (th (sq (rg (mv (ag (nl (th (rt ?_)))))))))))
  refine fzA 4 3 rfl rfl ?_
  have hr0:out=(offL m l):=by
   rw[hI0,show k=l.length by omega,List.take_length]
  exact rE () [.tmp 3] J [sl 1 nE out] ⟨.tmp J,tV⟩ (cA1 (fun x0=>rV [sl 1 nE x0]) hr0) trivial eX
theorem skey_ok (q:Sd) (hp:KeyOK q):
 Fn0 Tryz.prog 87 [tabbed (agg [ints q.1,int q.2])] (str (skey q)):=by
 refine fnI Tryz.func87 rfl rfl (fun w0 F0=> ?_)
 have hx0:=hp.x0;have hx1:=hp.x1;have hpl:=hp.len
 refine tbI 0 9999 rfl ?_
 refine tbJC (ψ:=tab) 9999 997 rfl ?_
 refine sq (rg (bx (key:=1) (cs:= [sl 1 nE q.1,int q.2]) J fun b1=>(ag (nl (th (sq (rg (fP J T.fld116_1 (lP J J J T.one3 (tbU (ψ:=tab) 7 9999 J J (cal0 (φs:= [both (int q.2) tab]) (φ:=str (itoaB q.2)) ⟨J,tV⟩ (Itoa.Itoa_ok q.2 O O) T.ent88 (ag (nl (th (sq (sq (rg (fP J T.fld116_0 (lP J J J T.one36 (fc (slenI 10 J) fun hm10=>(lnF J T.sl36 (mv (nl (th (bk ?_)))))))))))))))))))))))))
 have hI0_0:0≤q.1.length:=by
  first|omega|simp
 have hI0_1:(itoaB q.2)=keyB q.2 (q.1.take 0):=by
  exact keyB_nil q.2
 refine lp (κ:=Nat × ByteArray) (fun p=> [(2,str ({ data:= #[] })),(3,str p.2),(10,sl 1 nE q.1),(11,int (q.1.length:Int)),(12,int (p.1:Int)),(9999,tab)]) (fun p=> [(1,cell b1 [sl 1 nE q.1,int q.2]),(997,ambH tab)]) (fun p=>(p.1≤q.1.length)∧(p.2=keyB q.2 (q.1.take p.1))) (fun p=>q.1.length- p.1) ⟨0,itoaB q.2⟩ ⟨hI0_0,hI0_1⟩ ⟨id,id,id,id,id,id,tV⟩ ⟨rI,rI,tV⟩ ?_
 intro⟨k,s⟩ hG0
 obtain⟨hk0,hI0⟩:(k≤q.1.length)∧(s=keyB q.2 (q.1.take k)):=hG0
 show Ct _ _ _ _ [(2,str ({ data:= #[] })),(3,str s),(10,sl 1 nE q.1),(11,int (q.1.length:Int)),(12,int (k:Int)),(9999,tab)] [(1,cell b1 [sl 1 nE q.1,int q.2]),(997,ambH tab)] _
 have hsl:s.size≤22+22*10000:=by rw[hI0];exact key_len hp k
 refine sq (rg (bi J J b_lss (nl (th (sq ?_)))))
 refine cd J (fun hc0=> ?_) (fun hc0=> ?_)
 ·try simp at hc0
  have hbx:=hp.bd _ (ix_memS hc0)
  have z2:=itoa_size (n:=ix q.1 k) O O
  refine sk (th (sq (bk (sq (rg (iF J J T.sl36 O gB (lF J J T.one3 (ag (nl (th (rg (mv (mv (tbU (ψ:=tab) 17 9999 J J (cal0 (φs:= [both (int (ix q.1 k)) tab]) (φ:=str (itoaB (ix q.1 k))) ⟨J,tV⟩ (Itoa.Itoa_ok (ix q.1 k) O O) T.ent88 (bi J J (b_addS (by show 1+_≤maxL;unfold maxL;omega)) (bi J J (b_addS (by rw[ByteArray.size_append];show _+(1+_)≤maxL;unfold maxL;omega)) (ag (nl (eb (th (rg (bi J J (b_add i6) (mv (nl ?_)))))))))))))))))))))))))
  have hN0:(k+1)≤q.1.length:=by
   first|omega|simp_all
  have hN1:(s++(({ data:= #[32] })++(itoaB (ix q.1 k))))=keyB q.2 (q.1.take (k+1)):=by
   rw[hI0,skey_take O]
  exact ln (⟨k+1,s++(({ data:= #[32] })++(itoaB (ix q.1 k)))⟩:Nat × ByteArray) ⟨hN0,hN1⟩ dO ⟨id,id,id,id,id,id,tV⟩ ⟨rI,rI,tV⟩
 ·try simp at hc0
  refine ex (xt_ (xt_ (xb (th (sq (rg (mv (ag (nl (th (rt ?_)))))))))))
  have hr0:s=(skey q):=by
   rw[hI0,show k=q.1.length by omega,List.take_length];rfl
  exact rE () [.tmp 2] J [str s] ⟨.tmp J,tV⟩ (cA1 (fun x0=>rV [str x0]) hr0) trivial eX
theorem ssets_ok (m:SSys) (hm:okSys m) (U:SS) (hT:oK U) (p:Sd) (hp:sOk m U p):
 Fn0 Tryz.prog 89 [agg [ints p.1,int p.2],fp [clo 84 [fp [strs m.aC,sl 1 gE m.sT]]],fp [strs U.aC,sl 2 sE U.sT]] (ints (sA m U p)):=by
 refine fnI Tryz.func89 rfl rfl (fun w0 F0=> ?_)
 have f1:=hm.few1;have f2:=hT.few1;have hx0:=hp.x0;have hx1:=hp.x1
 have hpl:=inc_le hp.rise hp.bd
 have hbd:=hp.bd
 have hst:=hT.st p.2.toNat O
 have hta:=hst.ac
 have ht8:=hst.acl
 have hol:(offL m p.1).length≤10000:=by unfold offL;rw[List.length_map];omega
 have hsa:∀k,k<(offL m p.1).length→0≤ix (offL m p.1) k∧ix (offL m p.1) k<256:=fun k hk=>off_bd hm hp.bd _ (ix_memS hk)
 refine sq (rg (bx (key:=3) (cs:= [sl 1 nE p.1,int p.2]) J fun b3=>(ag (nl (th (sq (dr (nh:=13) [0,0,2,7,0,16,0,64,240,496,1008,2047,4095] T.mixed kR ?_)))))))
 refine st_ J (fun _ _ _ gq kq=>lF (gq.1.trans J) J T.one113 kq) ?_
 refine st_ J (fun _ _ _ gq kq=>fP (gq.1.trans J) T.fld116_0 kq) ?_
 refine st_ J (fun _ _ _ gq kq=>lP (gq.1.trans J) J J T.one36 kq) ?_
 refine st_ J (fun _ _ _ gq kq=>calC0 (φs:= [sl 1 nE p.1]) (φ:=sl 1 nE (offL m p.1)) (gq.1.trans J) ⟨(gq.2.1.trans J),tV⟩ (offs_ok m hm p.1 hbd O) T.ent84 kq) ?_
 refine st_ J (fun _ _ _ gq kq=>fF (gq.1.trans J) T.fld25_1 kq) ?_
 refine st_ J (fun _ _ _ gq kq=>lF (gq.1.trans J) J T.one23 kq) ?_
 refine st_ J (fun _ _ _ gq kq=>fP (gq.1.trans J) T.fld116_1 kq) ?_
 refine st_ J (fun _ _ _ gq kq=>lP (gq.1.trans J) J J T.one3 kq) ?_
 refine st_ J (fun _ _ _ gq kq=>iF (gq.1.trans J) (gq.2.1.trans J) T.sl23 O gB kq) ?_
 refine st_ J (fun _ _ _ gq kq=>fF (gq.1.trans J) T.fld81_0 kq) ?_
 refine st_ J (fun _ _ _ gq kq=>lF (gq.1.trans J) J T.one36 kq) ?_
 refine st_ J (fun _ _ _ gq kq=>calW (φs:= [sl 1 nE (offL m p.1),sl 1 nE (ix U.sT p.2.toNat).aP,eqv (.func (.func 91) #[] #[])]) (φ:=sl 1 nE (crossL (offL m p.1) (ix U.sT p.2.toNat).aP)) ⟨(gq.1.trans J),(gq.2.1.trans J),J,tV⟩ (crossC_ok (offL m p.1) (ix U.sT p.2.toNat).aP hsa hta hol ht8) T.ent90 (fun N hN=>fun h=>nw_le h) kq) ?_
 refine st_ J (fun _ _ _ gq kq=>ag' (gq.1.trans J) kq) ?_
 refine pn (nl (th (rt ?_)))
 have hr0:(crossL (offL m p.1) (ix U.sT p.2.toNat).aP)=(sA m U p):=by
  rfl
 exact rE () [.tmp 4] J [sl 1 nE (crossL (offL m p.1) (ix U.sT p.2.toNat).aP)] ⟨.tmp J,tV⟩ (cA1 (fun x0=>rV [sl 1 nE x0]) hr0) trivial eX
theorem snext_ok (m:SSys) (hm:okSys m) (U:SS) (hT:oK U) (p:Sd) (hp:sOk m U p) (a:Nat) (ha:a<U.aC.length):
 Fn0 Tryz.prog 92 [agg [ints p.1,int p.2],int (a:Int),fp [strs m.aC,sl 1 gE m.sT],fp [strs U.aC,sl 2 sE U.sT]] (agg [ints (sN m U p a).1,int (sN m U p a).2]):=by
 refine fnI Tryz.func92 rfl rfl (fun w0 F0=> ?_)
 have f1:=hm.few1;have f2:=hT.few1;have hx0:=hp.x0;have hx1:=hp.x1
 have hpl:=inc_le hp.rise hp.bd
 have hbd:=hp.bd
 have hst:=hT.st p.2.toNat O
 have htl:=hst.len
 refine sq (rg (bx (key:=4) (cs:= [sl 1 nE p.1,int p.2]) J fun b4=>(al (key:=6) T.z116 (eC (eC eZ)) fun b6=>(nl (th (sq (dr (nh:=16) [0,0,2,0,15,0,32,0,128,480,992,2016,0,8160,16352,32767,65535] T.mixed kR ?_)))))))
 refine st_ J (fun _ _ _ gq kq=>lFA (gq.1.trans J) T.agg43 (Nat.le_of_ble_eq_true J) kq) ?_
 refine st_ J (fun _ _ _ gq kq=>fP (gq.1.trans J) T.fld116_0 kq) ?_
 refine st_ J (fun _ _ _ gq kq=>lP (gq.1.trans J) J J T.one36 kq) ?_
 refine st_ J (fun _ _ _ gq kq=>mv' (gq.1.trans J) kq) ?_
 refine st_ J (fun _ _ _ gq kq=>calW (φs:= [agg [sl 1 rE_ m.aC,sl 1 gE m.sT],sl 1 nE p.1,int (a:Int)]) (φ:=sl 1 nE (nextM m p.1 (a:Int))) ⟨(gq.1.trans J),(gq.2.1.trans J),(gq.2.2.1.trans J),tV⟩ (prodb.Then_ok m aS p.1 aS O (a:Int)) T.ent93 (fun N hN=>fun h=>nw_le h) kq) ?_
 refine st_ J (fun _ _ _ gq kq=>fF (gq.1.trans J) T.fld25_1 kq) ?_
 refine st_ J (fun _ _ _ gq kq=>lF (gq.1.trans J) J T.one23 kq) ?_
 refine st_ J (fun _ _ _ gq kq=>fP (gq.1.trans J) T.fld116_1 kq) ?_
 refine st_ J (fun _ _ _ gq kq=>lP (gq.1.trans J) J J T.one3 kq) ?_
 refine st_ J (fun _ _ _ gq kq=>iF (gq.1.trans J) (gq.2.1.trans J) T.sl23 O gB kq) ?_
 refine st_ J (fun _ _ _ gq kq=>fF (gq.1.trans J) T.fld81_1 kq) ?_
 refine st_ J (fun _ _ _ gq kq=>lF (gq.1.trans J) J T.one36 kq) ?_
 refine st_ J (fun _ _ _ gq kq=>mv' (gq.1.trans J) kq) ?_
 refine st_ J (fun _ _ _ gq kq=>iF (gq.1.trans J) (gq.2.1.trans J) T.sl36 O gB kq) ?_
 refine st_ J (fun _ _ _ gq kq=>lF (gq.1.trans J) J T.one3 kq) ?_
 refine st_ J (fun _ _ _ gq kq=>bd (css:= [(0,_),(1,_)]) T.st116 (eC (eC eZ)) ⟨J,J,p1 (φ:=sl 1 nE (nextM m p.1 (a:Int))) (by exact(gq.1.trans J)),⟨J,J,p1 (φ:=int (ix (ix U.sT p.2.toNat).next a)) (by exact(gq.2.1.trans J)),tV⟩⟩ kq) ?_
 refine pn (sPA (cs':= [sl 1 nE (nextM m p.1 (a:Int)),int (ix (ix U.sT p.2.toNat).next a)]) J J J T.agg116 J J (nl (th (rt ?_))))
 have hr0:(nextM m p.1 (a:Int))=((sN m U p a).1):=by
  rfl
 have hr1:((ix (ix U.sT p.2.toNat).next a):Int)=((sN m U p a).2):=by
  rfl
 exact rE () [.cell 6 116] J [agg [sl 1 nE (nextM m p.1 (a:Int)),int (ix (ix U.sT p.2.toNat).next a)]] ⟨.agg J J T.agg116 J J,tV⟩ (cA2 (fun x0 x1=>rV [agg [sl 1 nE x0,int x1]]) hr0 hr1) trivial eX
theorem sgrow_ok (m:SSys) (hm:okSys m) (U:SS) (hT:oK U) (hMU:m.aC.length=U.aC.length):
 Fn0 Tryz.prog 86 [tabbed (strs m.aC),agg [ints [0],int 0],clo 87 [],clo 89 [fp [clo 84 [fp [strs m.aC,sl 1 gE m.sT]]],fp [strs U.aC,sl 2 sE U.sT]],clo 92 [fp [strs m.aC,sl 1 gE m.sT],fp [strs U.aC,sl 2 sE U.sT]]] (tup [spec (growT m U).1,bl (growT m U).2]):=by
 refine fnI Tryz.func86 rfl rfl (fun w0 F0=> ?_)
 have f1:=hm.few1;have f2:=hT.few1;have f3:=hm.few0;have f4:=hT.few0;have hn8:=hm.n8;have hG:=s_GS hm hT hMU
 have hk0:KeyOK ([0],0):=key_of hm hT (s_zero hm hT)
 have hks0:(skey ([0],0)).size≤maxL:=skey_size hk0
 refine tbI 0 9999 rfl ?_
 refine tbJC (ψ:=tab) 9999 997 rfl ?_
 refine fcC (slenI 0 J) (fun hm0=> ?_)
 refine sq (rg (bx (key:=6) (cs:= [sl 1 nE [0],int 0]) J fun b6=>(bx1 (key:=7) (φ:=clo 87 []) J fun b7=>(bx1 (key:=9) (φ:=clo 92 [fp [sl 1 rE_ m.aC,sl 1 gE m.sT],fp [sl 1 rE_ U.aC,sl 2 sE U.sT]]) J fun b9=>(al (key:=10) T.z25 (eC (eC eZ)) fun b10=>(al (key:=11) T.z4 (eC eZ) fun b11=>(nl (th (sq (rg (mkm (key:=24) (kE:=smE) (dom:=smD) (vE:=smV) fun b24=>(lP J J J T.one118 (lPA J J T.agg116 J (tbU (ψ:=tab) 26 9999 J J (calC0 (φs:= [both (agg [sl 1 nE [0],int 0]) tab]) (φ:=str (skey ([0],0))) J ⟨J,tV⟩ (skey_ok ([0],0) hk0) T.ent87 (AL.insert (q:=skey ([0],0)) (u:=0) J J eqv_eq J T.map173 hks0 (mv (al (key:=12) T.z173 (eC eZ) fun b12=>(sP (φ:=mpv 24 b24) J J J T.one173 J (nl (th (sq (rg (lPA J J T.agg116 J (bsO 30 (enc:=sdE) (xs:= [([0],0)]) (css:= [[sl 1 nE [0],int 0]]) T.mk174 ⟨J,J,pA (cs:= [sl 1 nE [0],int 0]) J,tV⟩ J J J J fun v30=>(al (key:=13) T.z174 (eC eZ) fun b13=>(storePO J J J J T.one174 J (nl (th (sq (rg (mv (calW (φs:= [sl 1 rE_ m.aC]) (φ:=sl 1 rE_ m.aC) ⟨J,tV⟩ (prog.sClonestrE_ok _ O) T.ent78 (fun N hN=>fun h=>nw_le h) (bd (css:= [(0,_)]) T.st25 (eC (eC eZ)) ⟨J,J,p1 (φ:=sl 1 rE_ m.aC) J,tV⟩ (al (key:=14) T.z25 (eC (eC eZ)) fun b14=>(sPA (cs':= [sl 1 rE_ m.aC,eqv (.slice none 0 0)]) J J J T.agg25 J J (nl (th (sq (sq (rg (al (key:=15) T.z3 (eC eZ) fun b15=>(sP (φ:=int 0) J J J T.one3 J (nl (th (bk ?_))))))))))))))))))))))))))))))))))))))))))))))
 refine nwC 100 81 2 sE (kncC 14 1 (osl 100 (.slice none 0 0)) rfl rfl eq_osl ?_)
 have hI0_0:GW (sA m U) (sN m U) (sOk m U) skey m.aC.length (2^m.sT.length*U.sT.length) (sL m U) 0 ([([0],0)]:List Sd) (mset ([]:List (ByteArray × Int)) (skey ([0],0)) 0) ([]:List SA):=by
  exact gw_zero hG (s_zero hm hT)
 refine lp (κ:=Nat × Nat × Value × (List Sd) × (List (ByteArray × Int)) × Value × (List SA)) (fun p=> [(0,sl 1 rE_ m.aC),(3,clo 89 [fp [clo 84 [fp [sl 1 rE_ m.aC,sl 1 gE m.sT]]],fp [sl 1 rE_ U.aC,sl 2 sE U.sT]]),(7,ptr 7 b7 0),(9,ptr 9 b9 0),(10,ptr 10 b10 0),(11,ptr 11 b11 0),(12,ptr 12 b12 0),(13,ptr 13 b13 0),(14,ptr 14 b14 0),(15,ptr 15 p.1 0),(9999,tab)]) (fun p=> [(6,cell b6 [sl 1 nE [0],int 0]),(7,cell b7 [clo 87 []]),(9,cell b9 [clo 92 [fp [sl 1 rE_ m.aC,sl 1 gE m.sT],fp [sl 1 rE_ U.aC,sl 2 sE U.sT]]]),(10,cell b10 [eqv (.slice none 0 0),eqv (.slice none 0 0)]),(11,cell b11 [bl false]),(12,cell b12 [mpv 24 b24]),(13,cell b13 [osl 30 p.2.2.1]),(14,cell b14 [sl 1 rE_ m.aC,osl 100 p.2.2.2.2.2.1]),(15,cell p.1 [int (p.2.1:Int)]),(24,mp b24 smE smD smV p.2.2.2.2.1),(30,own p.2.2.1 116 2 sdE p.2.2.2.1),(100,own p.2.2.2.2.2.1 81 2 sE p.2.2.2.2.2.2),(997,ambH tab)]) (fun p=>GW (sA m U) (sN m U) (sOk m U) skey m.aC.length (2^m.sT.length*U.sT.length) (sL m U) p.2.1 p.2.2.2.1 p.2.2.2.2.1 p.2.2.2.2.2.2) (fun p=>501- p.2.1) ⟨b15,0,v30,([([0],0)]:List Sd),mset ([]:List (ByteArray × Int)) (skey ([0],0)) 0,(.slice none 0 0),([]:List SA)⟩ hI0_0 ⟨id,id,id,id,id,id,id,id,id,id,id,tV⟩ ⟨rI,rI,rI,rI,rI,rI,rI,rI,rI,rI,rI,rI,rI,tV⟩ ?_
 intro⟨ib,i,v,ql,mm,v14,outs⟩ hG0
 have hQW:GW (sA m U) (sN m U) (sOk m U) skey m.aC.length (2^m.sT.length*U.sT.length) (sL m U) i ql mm outs:=hG0
 show Ct _ _ _ _ [(0,sl 1 rE_ m.aC),(3,clo 89 [fp [clo 84 [fp [sl 1 rE_ m.aC,sl 1 gE m.sT]]],fp [sl 1 rE_ U.aC,sl 2 sE U.sT]]),(7,ptr 7 b7 0),(9,ptr 9 b9 0),(10,ptr 10 b10 0),(11,ptr 11 b11 0),(12,ptr 12 b12 0),(13,ptr 13 b13 0),(14,ptr 14 b14 0),(15,ptr 15 ib 0),(9999,tab)] [(6,cell b6 [sl 1 nE [0],int 0]),(7,cell b7 [clo 87 []]),(9,cell b9 [clo 92 [fp [sl 1 rE_ m.aC,sl 1 gE m.sT],fp [sl 1 rE_ U.aC,sl 2 sE U.sT]]]),(10,cell b10 [eqv (.slice none 0 0),eqv (.slice none 0 0)]),(11,cell b11 [bl false]),(12,cell b12 [mpv 24 b24]),(13,cell b13 [osl 30 v]),(14,cell b14 [sl 1 rE_ m.aC,osl 100 v14]),(15,cell ib [int (i:Int)]),(24,mp b24 smE smD smV mm),(30,own v 116 2 sdE ql),(100,own v14 81 2 sE outs),(997,ambH tab)] _
 have hlf:=hQW.few
 have hil:=hQW.il
 have hol:outs.length≤i:=by rw[hQW.out];simp;omega
 refine sq (sq (rg (lP J J J T.one3 (lP J J J T.one174 (lnO J J T.sl174 (bi J J b_lss (nl (th ?_))))))))
 refine cd J (fun hc0=> ?_) (fun hc0=> ?_)
 ·try simp at hc0
  have hPm:=ix_memS hc0
  have hokP:=hQW.okl _ hPm
  have hcr:=cross_len (offL m (ix ql i).1) (acc U (ix ql i).2.toNat)
  have hcl:(sA m U (ix ql i)).length≤256:=hcr
  refine sk (th (sq (bk (sq (rg (mv (lP J J J T.one174 (lP J J J T.one3 (iO J J J T.sl174 O O (lOA J J gB T.agg116 (by decide) (calC0 (φs:= [agg [sl 1 nE ((ix ql i).1),int ((ix ql i).2)]]) (φ:=sl 1 nE (sA m U (ix ql i))) J ⟨J,tV⟩ (ssets_ok m hm U hT (ix ql i) hokP) T.ent89 (bsE (enc:=nE) (xs:= [(-1)]) (css:= [[int (-1)]]) T.mk36 ⟨J,J,p1 (φ:=int (-1)) J,tV⟩ J J J J (mv (lnF J T.sl22 (cl (rekeyO 30 300 (prog8.Repeat_ok m.aC.length O)) T.ent123 trivial fun N49 v49=>(fc (svI 300 J) fun hsv300=> ?_))))))))))))))))
  rw[←hsv300]
  refine kn 49 (eqv (sv v49)) rfl osl_rawC (bd (css:= [(0,_),(1,_)]) T.st81 (eC (eC eZ)) ⟨rfl,rfl,p1 (φ:=sl 1 nE (sA m U (ix ql i))) rfl,⟨rfl,rfl,p1 (φ:=eqv (sv v49)) rfl,tV⟩⟩ (al (key:=16) T.z81 (eC (eC eZ)) fun b16=>(sPA (cs':= [sl 1 nE (sA m U (ix ql i)),eqv (sv v49)]) rfl rfl rfl T.agg81 rfl rfl (knc 16 1 (osl 300 (sv v49)) rfl rfl eq_osl (nl (th (sq (rg (ag (nl (th (sq (sq (rg (fP rfl T.fld81_0 (lP rfl rfl rfl T.one36 (fc (slenI 52 rfl) fun hm52=>(lnF rfl T.sl36 (mv (nl (th (bk ?_))))))))))))))))))))))
  have hI1_0:0≤(sA m U (ix ql i)).length:=by
   first|omega|simp
  have hI1_1:(0:Int)=orAll ((sA m U (ix ql i)).take 0)∧0≤(0:Int)∧(0:Int)<256:=by
   exact⟨rfl,O,O⟩
  refine lp (κ:=Nat × Int) (fun p=> [(0,sl 1 rE_ m.aC),(3,clo 89 [fp [clo 84 [fp [sl 1 rE_ m.aC,sl 1 gE m.sT]]],fp [sl 1 rE_ U.aC,sl 2 sE U.sT]]),(7,ptr 7 b7 0),(9,ptr 9 b9 0),(10,ptr 10 b10 0),(11,ptr 11 b11 0),(12,ptr 12 b12 0),(13,ptr 13 b13 0),(14,ptr 14 b14 0),(15,ptr 15 ib 0),(16,ptr 16 b16 0),(17,int p.2),(52,sl 1 nE (sA m U (ix ql i))),(53,int ((sA m U (ix ql i)).length:Int)),(54,int (p.1:Int)),(9999,tab)]) (fun p=> [(6,cell b6 [sl 1 nE [0],int 0]),(7,cell b7 [clo 87 []]),(9,cell b9 [clo 92 [fp [sl 1 rE_ m.aC,sl 1 gE m.sT],fp [sl 1 rE_ U.aC,sl 2 sE U.sT]]]),(10,cell b10 [eqv (.slice none 0 0),eqv (.slice none 0 0)]),(11,cell b11 [bl false]),(12,cell b12 [mpv 24 b24]),(13,cell b13 [osl 30 v]),(14,cell b14 [sl 1 rE_ m.aC,osl 100 v14]),(15,cell ib [int (i:Int)]),(16,cell b16 [sl 1 nE (sA m U (ix ql i)),osl 300 (sv v49)]),(24,mp b24 smE smD smV mm),(30,own v 116 2 sdE ql),(100,own v14 81 2 sE outs),(300,own (sv v49) 3 1 nE (List.replicate m.aC.length (-1))),(997,ambH tab)]) (fun p=>(p.1≤(sA m U (ix ql i)).length)∧(p.2=orAll ((sA m U (ix ql i)).take p.1)∧0≤p.2∧p.2<256)) (fun p=>(sA m U (ix ql i)).length- p.1) ⟨0,(0:Int)⟩ ⟨hI1_0,hI1_1⟩ ⟨id,id,id,id,id,id,id,id,id,id,id,id,id,id,id,id,tV⟩ ⟨rI,rI,rI,rI,rI,rI,rI,rI,rI,rI,rI,rI,rI,rI,rI,tV⟩ ?_
  intro⟨k1,cn⟩ hG1
  obtain⟨hk1,hI1⟩:(k1≤(sA m U (ix ql i)).length)∧(cn=orAll ((sA m U (ix ql i)).take k1)∧0≤cn∧cn<256):=hG1
  show Ct _ _ _ _ [(0,sl 1 rE_ m.aC),(3,clo 89 [fp [clo 84 [fp [sl 1 rE_ m.aC,sl 1 gE m.sT]]],fp [sl 1 rE_ U.aC,sl 2 sE U.sT]]),(7,ptr 7 b7 0),(9,ptr 9 b9 0),(10,ptr 10 b10 0),(11,ptr 11 b11 0),(12,ptr 12 b12 0),(13,ptr 13 b13 0),(14,ptr 14 b14 0),(15,ptr 15 ib 0),(16,ptr 16 b16 0),(17,int cn),(52,sl 1 nE (sA m U (ix ql i))),(53,int ((sA m U (ix ql i)).length:Int)),(54,int (k1:Int)),(9999,tab)] [(6,cell b6 [sl 1 nE [0],int 0]),(7,cell b7 [clo 87 []]),(9,cell b9 [clo 92 [fp [sl 1 rE_ m.aC,sl 1 gE m.sT],fp [sl 1 rE_ U.aC,sl 2 sE U.sT]]]),(10,cell b10 [eqv (.slice none 0 0),eqv (.slice none 0 0)]),(11,cell b11 [bl false]),(12,cell b12 [mpv 24 b24]),(13,cell b13 [osl 30 v]),(14,cell b14 [sl 1 rE_ m.aC,osl 100 v14]),(15,cell ib [int (i:Int)]),(16,cell b16 [sl 1 nE (sA m U (ix ql i)),osl 300 (sv v49)]),(24,mp b24 smE smD smV mm),(30,own v 116 2 sdE ql),(100,own v14 81 2 sE outs),(300,own (sv v49) 3 1 nE (List.replicate m.aC.length (-1))),(997,ambH tab)] _
  refine sq (rg (bi J J b_lss (nl (th (sq ?_)))))
  refine cd J (fun hc1=> ?_) (fun hc1=> ?_)
  ·try simp at hc1
   have hkb:=cross_sub (ix_memS (l:=(sA m U (ix ql i))) O)
   refine sk (th (sq (bk (sq (rg (iF J J T.sl36 O gB (lF J J T.one3 (ag (nl (th (rg (mv (mv (bi J J (b_orI O O O O) (ag (nl (eb (th (rg (bi J J (b_add i6) (mv (nl ?_))))))))))))))))))))))
   have hN0:(k1+1)≤(sA m U (ix ql i)).length:=by
    first|omega|simp_all
   have hN1:((cn.toNat|||(ix (sA m U (ix ql i)) k1).toNat:Nat):Int)=orAll ((sA m U (ix ql i)).take (k1+1))∧0≤((cn.toNat|||(ix (sA m U (ix ql i)) k1).toNat:Nat):Int)∧((cn.toNat|||(ix (sA m U (ix ql i)) k1).toNat:Nat):Int)<256:=by
    refine⟨?_,O,or_lt256 hI1.2.2 hkb.2⟩
    rw[take_s O,orAll_snoc,←hI1.1]
   exact ln (⟨k1+1,((cn.toNat|||(ix (sA m U (ix ql i)) k1).toNat:Nat):Int)⟩:Nat × Int) ⟨hN0,hN1⟩ dO ⟨id,id,id,id,id,id,id,id,id,id,id,id,id,id,id,id,tV⟩ ⟨rI,rI,rI,rI,rI,rI,rI,rI,rI,rI,rI,rI,rI,rI,rI,tV⟩
  ·try simp at hc1
   refine ex (xt_ (xt_ (xb (th (sq (sq (rg (mv (cal0 (φs:= [int cn]) (φ:=clo 162 [fp [int cn]]) ⟨J,tV⟩ (prog3.In_ok cn) T.ent124 (nl (th (bk ?_))))))))))))
   have hcn2:cn=orAll (sA m U (ix ql i)):=by rw[hI1.1,show k1=(sA m U (ix ql i)).length by omega,List.take_length]
   have hcn3:listOf 63 cn=actsL (sA m U) (ix ql i):=by unfold actsL;rw[hcn2]
   have hR0:GN (sA m U) (sN m U) (sOk m U) skey m.aC.length (sL m U) i ql 0 ql mm (List.replicate m.aC.length (-1)):=by
    exact gn_zero hQW
   refine rf (κ:=Value × (List Sd) × (List (ByteArray × Int)) × (List Int)) 900 (fun p=> [(6,cell b6 [sl 1 nE [0],int 0]),(7,cell b7 [clo 87 []]),(9,cell b9 [clo 92 [fp [sl 1 rE_ m.aC,sl 1 gE m.sT],fp [sl 1 rE_ U.aC,sl 2 sE U.sT]]]),(10,cell b10 [eqv (.slice none 0 0),eqv (.slice none 0 0)]),(11,cell b11 [bl false]),(12,cell b12 [mpv 24 b24]),(13,cell b13 [osl 30 p.1]),(14,cell b14 [sl 1 rE_ m.aC,osl 100 v14]),(15,cell ib [int (i:Int)]),(16,cell b16 [sl 1 nE (sA m U (ix ql i)),osl 300 (sv v49)]),(24,mp b24 smE smD smV p.2.2.1),(30,own p.1 116 2 sdE p.2.1),(100,own v14 81 2 sE outs),(300,own (sv v49) 3 1 nE p.2.2.2),(997,ambH tab)]) (fun iR p=>GN (sA m U) (sN m U) (sOk m U) skey m.aC.length (sL m U) i ql iR p.2.1 p.2.2.1 p.2.2.2) (fun c p=>c= .ret∧(500<(sL m U).length)) J (InIt cn O O) T.ent162 J (fun _=>J) (fun _=>J) ⟨v,ql,mm,List.replicate m.aC.length (-1)⟩ hR0 ⟨rI,rI,rI,rI,rI,rI,rI,rI,rI,rI,rI,rI,rI,rI,rI,tV⟩ ?_ ?_ ?_ (fun id k h=>nomatch h.1) (fun c k h=> .inl h.1)
   ·intro m0 ⟨v2,l2,mm2,nx⟩ x0 hG0 hx0 l R w1 M1 F1 hRd
    have hR0:GN (sA m U) (sN m U) (sOk m U) skey m.aC.length (sL m U) i ql m0 l2 mm2 nx:=hG0
    show Ct _ _ _ _ _ ((900,obj l (.loop R)):: [(6,cell b6 [sl 1 nE [0],int 0]),(7,cell b7 [clo 87 []]),(9,cell b9 [clo 92 [fp [sl 1 rE_ m.aC,sl 1 gE m.sT],fp [sl 1 rE_ U.aC,sl 2 sE U.sT]]]),(10,cell b10 [eqv (.slice none 0 0),eqv (.slice none 0 0)]),(11,cell b11 [bl false]),(12,cell b12 [mpv 24 b24]),(13,cell b13 [osl 30 v2]),(14,cell b14 [sl 1 rE_ m.aC,osl 100 v14]),(15,cell ib [int (i:Int)]),(16,cell b16 [sl 1 nE (sA m U (ix ql i)),osl 300 (sv v49)]),(24,mp b24 smE smD smV mm2),(30,own v2 116 2 sdE l2),(100,own v14 81 2 sE outs),(300,own (sv v49) 3 1 nE nx),(997,ambH tab)]) _
    have hx2:(actsL (sA m U) (ix ql i))[m0]?=some x0:=by rw[←hcn3];exact hx0
    obtain⟨a,rfl,ha63,hha⟩:=listOf_get hx0
    have hha2:has (orAll (sA m U (ix ql i))) (a:Int)=true:=by rw[←hcn2];exact hha
    obtain⟨hal9,hqok1⟩:=sN_go hm hT hokP hha2
    have hal8:a<m.aC.length:=by omega
    have hnl:nx.length=m.aC.length:=by rw[hR0.nx];simp
    have hl2f:=hR0.few
    have hixP:ix l2 i=(ix ql i):=gn_ix hR0 hc0
    have hil2:i<l2.length:=by rw[hR0.pre];exact Nat.lt_of_lt_of_le hc0 (outs_prefix _ _ _ _ ql).length_le
    have hkN:KeyOK (sN m U (ix ql i) a):=key_of hm hT hqok1
    have hks:(skey (sN m U (ix ql i) a)).size≤maxL:=skey_size hkN
    refine rg (ag (nl (aq hRd J (bk (sq ?_)))))
    refine drH (nh:=9) [0,0,0,6,14,0,63,0,255] [(none,[9]),(none,[13]),(none,[15]),(none,[30]),(none,[30]),(none,[]),(none,[]),(some 21,[]),(some 21,[21])] T.mixed kR kR ?_
    refine stv (d:=65) (fun β0=>clo 92 [fp [sl 1 rE_ m.aC,sl 1 gE m.sT],fp [sl 1 rE_ U.aC,sl 2 sE U.sT]]) [9] J (fun β β' hb=>J) (fun β0 _ _ _ _ gq gh kq=>lP (gq.1.trans J) (gh.1.trans J) J T.one122 kq) ?_
    refine stv (d:=66) (fun β0=>osl 30 v2) [13] J (fun β β' hb=>J) (fun β0 _ _ _ _ gq gh kq=>lP (gq.1.trans J) (gh.1.trans J) J T.one174 kq) ?_
    refine stv (d:=67) (fun β0=>int (i:Int)) [15] J (fun β β' hb=>J) (fun β0 _ _ _ _ gq gh kq=>lP (gq.1.trans J) (gh.1.trans J) J T.one3 kq) ?_
    refine stv (d:=68) (fun β0=>eptr 30 v2 2 i 0) [30] J (fun β β' hb=>J) (fun β0 _ _ _ _ gq gh kq=>iO (gq.1.trans J) (gh.1.trans J) (gq.2.1.trans J) T.sl174 O O kq) ?_
    refine stv (d:=69) (fun β0=>agg [sl 1 nE ((ix ql i).1),int ((ix ql i).2)]) [30] J (fun β β' hb=>J) (fun β0 _ _ _ _ gq gh kq=>lOA (gq.1.trans J) (gh.1.trans J) gB T.agg116 (by decide) (kd (φ':=agg [ints (ix ql i).1,int (ix ql i).2]) (by rw[hixP];exact fun h=>h) kq)) ?_
    refine stv (d:=70) (fun β0=>int (a:Int)) [] J (fun β β' hb=>J) (fun β0 _ _ _ _ gq gh kq=>mv' (gq.1.trans J) kq) ?_
    refine stv (d:=71) (fun β0=>agg [sl 1 nE ((sN m U (ix ql i) a).1),int ((sN m U (ix ql i) a).2)]) [] J (fun β β' hb=>J) (fun β0 _ _ _ _ gq gh kq=>calC0 (φs:= [agg [sl 1 nE ((ix ql i).1),int ((ix ql i).2)],int (a:Int)]) (φ:=agg [sl 1 nE ((sN m U (ix ql i) a).1),int ((sN m U (ix ql i) a).2)]) (gq.1.trans J) ⟨(gq.2.1.trans J),(gq.2.2.1.trans J),tV⟩ (snext_ok m hm U hT (ix ql i) hokP a hal9) T.ent92 kq) ?_
    refine sta 21 T.z116 (eC (eC eZ)) ?_
    refine stw 21 (fun β0=>cell (gbk (β0 7)) [sl 1 nE ((sN m U (ix ql i) a).1),int ((sN m U (ix ql i) a).2)]) [21] J (fun β β' hb=>by first|rw[hb 7 J]|(dsimp only;rw[hb 7 J])) (fun β0 _ _ _ _ gq gh kq=>sPA (cs':= [sl 1 nE ((sN m U (ix ql i) a).1),int ((sN m U (ix ql i) a).2)]) (gq.1.trans J) (gh.1.trans J) (gq.2.1.trans J) T.agg116 J J kq) ?_
    refine pnH fun β0=>(nl (th (sq (dr (nh:=10) [0,0,0,6,15,31,63,63,127,511] T.mixed kR ?_))))
    refine st_ J (fun _ _ _ gq kq=>lP (gq.1.trans J) J J T.one173 kq) ?_
    refine st_ J (fun _ _ _ gq kq=>lP (gq.1.trans J) J J T.one118 kq) ?_
    refine st_ J (fun _ _ _ gq kq=>lPA (gq.1.trans J) J T.agg116 J kq) ?_
    refine st_ J (fun _ _ _ gq kq=>tbK (ψ:=tab) 75 997 (gq.2.1.trans J) J (calC0 (φs:= [both (agg [sl 1 nE ((sN m U (ix ql i) a).1),int ((sN m U (ix ql i) a).2)]) tab]) (φ:=str (skey (sN m U (ix ql i) a))) (gq.1.trans J) ⟨J,tV⟩ (skey_ok (sN m U (ix ql i) a) hkN) T.ent87 (tbX (gq.2.1.trans J) kq))) ?_
    refine st_ J (fun _ _ _ gq kq=>lookup2 (z:=0) (q:=skey (sN m U (ix ql i) a)) (gq.1.trans J) J (fun h=>eqv_of (gq.2.1.trans J) h) T.map173 hks T.zv3 kq) ?_
    refine st_ J (fun _ _ _ gq kq=>mv' (gq.1.trans J) kq) ?_
    refine st_ J (fun _ _ _ gq kq=>xt (gq.1.trans J) J kq) ?_
    refine st_ J (fun _ _ _ gq kq=>xt (gq.1.trans J) J kq) ?_
    refine st_ J (fun _ _ _ gq kq=>ag' (gq.1.trans J) kq) ?_
    refine st_ J (fun _ _ _ gq kq=>ag' (gq.1.trans J) kq) ?_
    refine pn (nl (th (sq (sq (rg (mv (no J (nl (th ?_)))))))))
    refine cd J (fun hc2=> ?_) (fun hc2=> ?_)
    ·skip
     have h5:(mget mm2 (skey (sN m U (ix ql i) a))).isSome=false:=by simpa using hc2
     refine sq (sq (rg (lP J J J T.one174 (lnO J J T.sl174 (bi J J b_eql (nl (th ?_)))))))
     refine cd J (fun hc3=> ?_) (fun hc3=> ?_)
     ·try simp at hc3
      have h6:(l2.length:Int)=500:=by omega
      refine sq (rg (bd (css:= []) T.st25 (eC (eC eZ)) trivial (sPA (cs':= [eqv (.slice none 0 0),eqv (.slice none 0 0)]) J J J T.agg25 J J (sP (φ:=bl false) J J J T.one4 J (nl (th (rt (rt_ (rt_ (rb ?_))))))))))
      have hRr:500<(sL m U).length:=by
       exact gn_fail hG hQW hR0 hc0 hqok1 hx2 rfl h5 h6
      exact rqR ⟨v2,l2,mm2,nx⟩ ⟨rfl,hRr⟩ ⟨rI,rI,rI,rI,rI,rI,rI,rI,rI,rI,rI,rI,rI,rI,rI,rI,tV⟩
     ·try simp at hc3
      refine sk (th (sq (rg (lP J J J T.one174 (lnO J J T.sl174 (ag (nl (th (sq (dr (nh:=5) [0,0,0,6,0,31] T.mixed kR ?_))))))))))
      refine st_ J (fun _ _ _ gq kq=>lP (gq.1.trans J) J J T.one173 kq) ?_
      refine st_ J (fun _ _ _ gq kq=>lP (gq.1.trans J) J J T.one118 kq) ?_
      refine st_ J (fun _ _ _ gq kq=>lPA (gq.1.trans J) J T.agg116 J kq) ?_
      refine st_ J (fun _ _ _ gq kq=>tbK (ψ:=tab) 90 997 (gq.2.1.trans J) J (calC0 (φs:= [both (agg [sl 1 nE ((sN m U (ix ql i) a).1),int ((sN m U (ix ql i) a).2)]) tab]) (φ:=str (skey (sN m U (ix ql i) a))) (gq.1.trans J) ⟨J,tV⟩ (skey_ok (sN m U (ix ql i) a) hkN) T.ent87 (tbX (gq.2.1.trans J) kq))) ?_
      refine st_ J (fun _ _ _ gq kq=>mv' (gq.1.trans J) kq) ?_
      refine pn (mapUpdate (q:=skey (sN m U (ix ql i) a)) (u:=(l2.length:Int)) J J eqv_eq J T.map173 hks (nl (th (rg (lP J J J T.one174 (lPA J J T.agg116 J (bsE (enc:=sdE) (xs:= [((sN m U (ix ql i) a).1,(sN m U (ix ql i) a).2)]) (css:= [[sl 1 nE ((sN m U (ix ql i) a).1),int ((sN m U (ix ql i) a).2)]]) T.mk174 ⟨J,J,pA (cs:= [sl 1 nE ((sN m U (ix ql i) a).1),int ((sN m U (ix ql i) a).2)]) J,tV⟩ J J J J (ap (key:=30) (zs:= [(sN m U (ix ql i) a)]) osl_eq J J J T.mk174 (by unfold maxL at*;simp;omega) (by unfold maxL at*;simp;omega) fun v96=>(storePO J J J J T.one174 J (nl (th (rg (fP J T.fld81_1 (lP J J J T.one36 (mv (mv (iO J J J T.sl36 O O (sO (φ:=int (l2.length:Int)) J J J T.one3 gB J (y':=(l2.length:Int)) J (nl (eb ?_))))))))))))))))))))
      have hN0:GN (sA m U) (sN m U) (sOk m U) skey m.aC.length (sL m U) i ql (m0+1) (l2++ [(sN m U (ix ql i) a)]) (mset mm2 (skey (sN m U (ix ql i) a)) (l2.length:Int)) (nx.set a (l2.length:Int)):=by
       exact gn_new hG hQW hR0 hc0 hqok1 hx2 hal8 rfl h5 O
      exact rqN ⟨v96,l2++ [(sN m U (ix ql i) a)],mset mm2 (skey (sN m U (ix ql i) a)) (l2.length:Int),nx.set a (l2.length:Int)⟩ hN0 ⟨rI,rI,rI,rI,rI,rI,rI,rI,rI,rI,rI,rI,rI,rI,rI,rI,tV⟩
    ·skip
     have h5:(mget mm2 (skey (sN m U (ix ql i) a))).isSome=true:=by simpa using hc2
     refine sk (th (rg (fP J T.fld81_1 (lP J J J T.one36 (mv (mv (iO J J J T.sl36 O O (sO (φ:=int ((mget mm2 (skey (sN m U (ix ql i) a))).getD 0)) J J J T.one3 gB J (y':=((mget mm2 (skey (sN m U (ix ql i) a))).getD 0)) J (nl (eb ?_))))))))))
     have hN0:GN (sA m U) (sN m U) (sOk m U) skey m.aC.length (sL m U) i ql (m0+1) l2 mm2 (nx.set a ((mget mm2 (skey (sN m U (ix ql i) a))).getD 0)):=by
      exact gn_old hG hQW hR0 hc0 hqok1 hx2 hal8 rfl h5
     exact rqN ⟨v2,l2,mm2,nx.set a ((mget mm2 (skey (sN m U (ix ql i) a))).getD 0)⟩ hN0 ⟨rI,rI,rI,rI,rI,rI,rI,rI,rI,rI,rI,rI,rI,rI,rI,rI,tV⟩
   ·intro⟨v2,l2,mm2,nx⟩ hG0
    have hR0:GN (sA m U) (sN m U) (sOk m U) skey m.aC.length (sL m U) i ql (listOf 63 cn).length l2 mm2 nx:=hG0
    show At _ _ _ _ [(6,cell b6 [sl 1 nE [0],int 0]),(7,cell b7 [clo 87 []]),(9,cell b9 [clo 92 [fp [sl 1 rE_ m.aC,sl 1 gE m.sT],fp [sl 1 rE_ U.aC,sl 2 sE U.sT]]]),(10,cell b10 [eqv (.slice none 0 0),eqv (.slice none 0 0)]),(11,cell b11 [bl false]),(12,cell b12 [mpv 24 b24]),(13,cell b13 [osl 30 v2]),(14,cell b14 [sl 1 rE_ m.aC,osl 100 v14]),(15,cell ib [int (i:Int)]),(16,cell b16 [sl 1 nE (sA m U (ix ql i)),osl 300 (sv v49)]),(24,mp b24 smE smD smV mm2),(30,own v2 116 2 sdE l2),(100,own v14 81 2 sE outs),(300,own (sv v49) 3 1 nE nx),(997,ambH tab)]
    refine eb (th (rg (fP rfl T.fld25_1 (lP rfl rfl rfl T.one23 (fzc 16 300 1 rfl rfl rfl rfl (lPA rfl rfl T.agg81 rfl (bsE (enc:=sE) (xs:= [(⟨sA m U (ix ql i),nx⟩)]) (css:= [[sl 1 nE (sA m U (ix ql i)),sl 1 nE nx]]) T.mk23 ⟨rfl,rfl,pA (cs:= [sl 1 nE (sA m U (ix ql i)),sl 1 nE nx]) rfl,tV⟩ rfl rfl rfl rfl (ap (key:=100) (zs:= [(⟨sA m U (ix ql i),nx⟩)]) osl_eq rfl rfl rfl T.mk23 (by unfold maxL at*;simp;omega) (by unfold maxL at*;simp;omega) fun v106=>(fP rfl T.fld25_1 (storePO rfl rfl rfl rfl T.one23 rfl (nl (eb (th (sq (sq (rg (lP rfl rfl rfl T.one3 (nl (th (rg (al (key:=15) T.z3 (eC eZ) fun b15=>(sP (φ:=int (i:Int)) rfl rfl rfl T.one3 rfl (nl (th (rg (lP rfl rfl rfl T.one3 (bi rfl rfl (b_add i6) (sP (φ:=int ((i+1:Nat):Int)) rfl rfl rfl T.one3 rfl (nl ?_)))))))))))))))))))))))))))))
    have hN0:GW (sA m U) (sN m U) (sOk m U) skey m.aC.length (2^m.sT.length*U.sT.length) (sL m U) (i+1) l2 mm2 (outs++ [(⟨sA m U (ix ql i),nx⟩)]):=by
     rw[show listOf 63 cn=actsL (sA m U) (ix ql i) from hcn3] at hR0
     exact gn_end hG hQW hR0 hc0
    exact ln (⟨b15,i+1,v2,l2,mm2,v106,outs++ [(⟨sA m U (ix ql i),nx⟩)]⟩:Nat × Nat × Value × (List Sd) × (List (ByteArray × Int)) × Value × (List SA)) hN0 (by have:=hQW.few;show 501- (i+1)<501- i;omega) ⟨id,id,id,id,id,id,id,id,id,id,id,tV⟩ ⟨rI,rI,rI,rI,rI,rI,rI,rI,rI,rI,rI,rI,rI,tV⟩
   ·intro⟨v2,l2,mm2,nx⟩ hS0
    have hRt0:500<(sL m U).length:=hS0.2
    show At _ _ _ _ [(6,cell b6 [sl 1 nE [0],int 0]),(7,cell b7 [clo 87 []]),(9,cell b9 [clo 92 [fp [sl 1 rE_ m.aC,sl 1 gE m.sT],fp [sl 1 rE_ U.aC,sl 2 sE U.sT]]]),(10,cell b10 [eqv (.slice none 0 0),eqv (.slice none 0 0)]),(11,cell b11 [bl false]),(12,cell b12 [mpv 24 b24]),(13,cell b13 [osl 30 v2]),(14,cell b14 [sl 1 rE_ m.aC,osl 100 v14]),(15,cell ib [int (i:Int)]),(16,cell b16 [sl 1 nE (sA m U (ix ql i)),osl 300 (sv v49)]),(24,mp b24 smE smD smV mm2),(30,own v2 116 2 sdE l2),(100,own v14 81 2 sE outs),(300,own (sv v49) 3 1 nE nx),(997,ambH tab)]
    refine rb (rt_ (rb (rt_ (rt_ (rb (rt_ ?_))))))
    refine kncA 10 0 (sl 1 rE_ []) rfl rfl slnil ?_
    refine kncA 10 1 (sl 2 sE []) rfl rfl slnil ?_
    have hr0: []=((growT m U).1).aC:=by
     rw[growT_no hRt0]
    have hr1: []=((growT m U).1).sT:=by
     rw[growT_no hRt0]
    have hr2:false=((growT m U).2):=by
     rw[growT_no hRt0]
    exact rE () [.cell 10 25,.cell 11 4] J [agg [sl 1 rE_ [],sl 2 sE []],bl false] ⟨.agg J J T.agg25 J J,.one J J T.one4 J,tV⟩ (cA3 (fun x0 x1 x2=>rV [agg [sl 1 rE_ x0,sl 2 sE x1],bl x2]) hr0 hr1 hr2) trivial eX
 ·try simp at hc0
  have hdn:=gw_done hQW O
  have hq5:(sL m U).length≤500:=gw_few hQW O
  have hq1:growT m U=((tR (sD m U)).1,true):=by unfold growT;rw[if_pos hq5]
  have hqok:oK (sD m U):=nums_ok hm hT hMU ⟨s_numb hm hT hMU,(s_walk hm hT hMU).ok,rfl⟩ O
  refine ex (xt_ (xt_ (xb (th (sq (rg (fzc 14 100 1 J J J J (lPA J J T.agg25 J (kn 110 (spec (sD m U)) J (by rw[show outs=(sD m U).sT from hdn.2];exact fun h=>h) (calW (φs:= [agg [sl 1 rE_ (sD m U).aC,sl 2 sE (sD m U).sT]]) (φ:=tup [agg [sl 1 rE_ ((tR (sD m U)).1.aC),sl 2 sE ((tR (sD m U)).1.sT)],sl 1 nE ((tR (sD m U)).2)]) ⟨J,tV⟩ (prog9.Trimmed_ok (sD m U) aS) T.ent68 (fun N hN=>fun h=>tup_le (cs:= [agg [fre N (sl 1 rE_ ((tR (sD m U)).1.aC)),frb (ix (hOl (sD m U)) 0) N (sl 2 sE ((tR (sD m U)).1.sT))],sl 1 nE ((tR (sD m U)).2)]) (ds:= [agg [sl 1 rE_ ((tR (sD m U)).1.aC),sl 2 sE ((tR (sD m U)).1.sT)],sl 1 nE ((tR (sD m U)).2)]) ⟨fun h=>agg_le (cs:= [fre N (sl 1 rE_ ((tR (sD m U)).1.aC)),frb (ix (hOl (sD m U)) 0) N (sl 2 sE ((tR (sD m U)).1.sT))]) (ds:= [sl 1 rE_ ((tR (sD m U)).1.aC),sl 2 sE ((tR (sD m U)).1.sT)]) ⟨fun h=>nw_le h,fun h=>frb_le h,tV⟩ h,fun h=>h,tV⟩ h) (mv (xt J J (xt J J (sPA (cs':= [sl 1 rE_ ((tR (sD m U)).1.aC),sl 2 sE ((tR (sD m U)).1.sT)]) J J J T.agg25 J J (nl (th (sq (rg (lPA J J T.agg25 J (sPA (cs':= [sl 1 rE_ ((tR (sD m U)).1.aC),sl 2 sE ((tR (sD m U)).1.sT)]) J J J T.agg25 J J (sP (φ:=bl true) J J J T.one4 J (nl (th (rt ?_))))))))))))))))))))))))
  have hr0:((tR (sD m U)).1.aC)=((growT m U).1).aC:=by
   rw[hq1]
  have hr1:((tR (sD m U)).1.sT)=((growT m U).1).sT:=by
   rw[hq1]
  have hr2:true=((growT m U).2):=by
   rw[hq1]
  exact rE () [.cell 10 25,.cell 11 4] J [agg [sl 1 rE_ ((tR (sD m U)).1.aC),sl 2 sE ((tR (sD m U)).1.sT)],bl true] ⟨.agg J J T.agg25 J J,.one J J T.one4 J,tV⟩ (cA3 (fun x0 x1 x2=>rV [agg [sl 1 rE_ x0,sl 2 sE x1],bl x2]) hr0 hr1 hr2) trivial eX
theorem sgrowC_ok (m:SSys) (hm:okSys m) (U:SS) (hU:oK U) (hMU:m.aC.length=U.aC.length):Fn0 Tryz.prog 86 [tabbed (strs m.aC),agg [ints [0],int 0],eqv (.func (.func 87) #[] #[]),clo 89 [fp [clo 84 [fp [strs m.aC,sl 1 gE m.sT]]],fp [strs U.aC,sl 2 sE U.sT]],clo 92 [fp [strs m.aC,sl 1 gE m.sT],fp [strs U.aC,sl 2 sE U.sT]]] (tup [spec (growT m U).1,bl (growT m U).2]):=
 fn_args (fun {w F vs} h=>by
  match vs,h with
  | [_,_,_,_,_],⟨h1,h2,h3,h4,h5,_⟩=>exact⟨h1,h2,eq_clo h3,h4,h5,tV⟩) (sgrow_ok m hm U hU hMU)
theorem Beside_ok (m:SSys) (t:SS) (hsm:smallSpec t):
 Fn0 Tryz.prog 35 [tabbed (sys m),spec t] (tup [spec (besS m t).1,int (besS m t).2]):=by
 refine fnI Tryz.func35 rfl rfl (fun w0 F0=> ?_)
 refine tbI 0 9999 rfl ?_
 refine fcC (inhS 0 J) (fun hS0=> ?_)
 obtain⟨hma0,hms0,hme0⟩:=sys_lens hS0
 refine fcC (inhS 1 J) (fun hS1=> ?_)
 obtain⟨hsa1,hss1,hse1⟩:=sLn hS1
 refine sq (rg (bx (key:=2) (cs:= [sl 1 rE_ m.aC,sl 1 gE m.sT]) J fun b2=>(bx (key:=3) (cs:= [sl 1 rE_ t.aC,sl 2 sE t.sT]) J fun b3=>(al (key:=4) T.z25 (eC (eC eZ)) fun b4=>(ag (nl (th (sq (sq (rg (lPA J J T.agg43 J (lPA J J T.agg25 J (cal0 (φs:= [agg [sl 1 rE_ m.aC,sl 1 gE m.sT],agg [sl 1 rE_ t.aC,sl 2 sE t.sT]]) (φ:=int (fineSE m t)) ⟨J,J,tV⟩ (satj.Fine_ok m t aS) T.ent83 (ag (nl (th (sq (rg (mv (bi J J b_neq (nl (th ?_))))))))))))))))))))))
 refine cd J (fun hc0=> ?_) (fun hc0=> ?_)
 ·try simp at hc0
  have hd:=bes_no (m:=m) (t:=t) hc0
  refine sq (rg (bd (css:= []) T.st25 (eC (eC eZ)) trivial (mv (sPA (cs':= [eqv (.slice none 0 0),eqv (.slice none 0 0)]) J J J T.agg25 J J (ag (nl (th (rt (rt_ ?_)))))))))
  refine kncA 4 0 (sl 1 rE_ []) rfl rfl slnil ?_
  refine kncA 4 1 (sl 2 sE []) rfl rfl slnil ?_
  have hr0: []=((besS m t).1).aC:=by
   rw[hd]
  have hr1: []=((besS m t).1).sT:=by
   rw[hd]
  have hr2:((fineSE m t):Int)=((besS m t).2):=by
   rw[hd]
  exact rE () [.cell 4 25,.tmp 5] J [agg [sl 1 rE_ [],sl 2 sE []],int (fineSE m t)] ⟨.agg J J T.agg25 J J,.tmp J,tV⟩ (cA3 (fun x0 x1 x2=>rV [agg [sl 1 rE_ x0,sl 2 sE x1],int x2]) hr0 hr1 hr2) trivial eX
 ·try simp at hc0
  obtain⟨hmv,htv,hmt⟩:=fineS_ok hc0
  have hm:=sysOK_ok hmv
  have ht:=okSpec_of htv
  have hT:=trim_ok ht
  have hn8:=hm.n8
  have hMU:m.aC.length=(tR t).1.aC.length:=by rw[trim_acts,hmt]
  refine sk (th (sq (rg (lPA J J T.agg25 J (calW (φs:= [agg [sl 1 rE_ t.aC,sl 2 sE t.sT]]) (φ:=tup [agg [sl 1 rE_ ((tR t).1.aC),sl 2 sE ((tR t).1.sT)],sl 1 nE ((tR t).2)]) ⟨J,tV⟩ (prog9.Trimmed_ok t aS) T.ent68 (fun N hN=>fun h=>tup_le (cs:= [agg [fre N (sl 1 rE_ ((tR t).1.aC)),frb (ix (hOl t) 0) N (sl 2 sE ((tR t).1.sT))],sl 1 nE ((tR t).2)]) (ds:= [agg [sl 1 rE_ ((tR t).1.aC),sl 2 sE ((tR t).1.sT)],sl 1 nE ((tR t).2)]) ⟨fun h=>agg_le (cs:= [fre N (sl 1 rE_ ((tR t).1.aC)),frb (ix (hOl t) 0) N (sl 2 sE ((tR t).1.sT))]) (ds:= [sl 1 rE_ ((tR t).1.aC),sl 2 sE ((tR t).1.sT)]) ⟨fun h=>nw_le h,fun h=>frb_le h,tV⟩ h,fun h=>h,tV⟩ h) (mv (xt J J (xt J J (sPA (cs':= [sl 1 rE_ ((tR t).1.aC),sl 2 sE ((tR t).1.sT)]) J J J T.agg25 J J (ag (nl (th (sq (sq (rg (mv (fc (slenI 23 J) fun hm23=>(lnF J T.sl36 (bi J J b_eql (nl (th ?_)))))))))))))))))))))
  refine cd J (fun hc1=> ?_) (fun hc1=> ?_)
  ·skip
   have hd:=bes_hol hc0 (by have:=of_decide_eq_true hc1;omega)
   refine sq (rg (lPA J J T.agg25 J (sPA (cs':= [sl 1 rE_ ((tR t).1.aC),sl 2 sE ((tR t).1.sT)]) J J J T.agg25 J J (ag (nl (th (rt (rt_ ?_))))))))
   have hr0:((tR t).1.aC)=((besS m t).1).aC:=by
    rw[hd]
   have hr1:((tR t).1.sT)=((besS m t).1).sT:=by
    rw[hd]
   have hr2:(0:Int)=((besS m t).2):=by
    rw[hd]
   exact rE () [.cell 4 25,.tmp 5] J [agg [sl 1 rE_ ((tR t).1.aC),sl 2 sE ((tR t).1.sT)],int 0] ⟨.agg J J T.agg25 J J,.tmp J,tV⟩ (cA3 (fun x0 x1 x2=>rV [agg [sl 1 rE_ x0,sl 2 sE x1],int x2]) hr0 hr1 hr2) trivial eX
  ·skip
   have hd0:=bes_go hc0 (by have:=of_decide_eq_false hc1;omega)
   refine sk (th (sq (rg (fzv 2 2 J J (mkf (al (key:=8) T.z113 (eC eZ) fun b8=>(sP (φ:=clo 84 [fp [sl 1 rE_ m.aC,sl 1 gE m.sT]]) J J J T.one113 J (nl (th (sq (rg (fF J T.fld43_0 (lF J J T.one22 (bsE (enc:=nE) (xs:= [0]) (css:= [[int 0]]) T.mk36 ⟨J,J,p1 (φ:=int 0) J,tV⟩ J J J J (bd (css:= [(0,_),(1,_)]) T.st116 (eC (eC eZ)) ⟨J,J,p1 (φ:=sl 1 nE [0]) J,⟨J,J,p1 (φ:=int 0) J,tV⟩⟩ (fzv 8 8 J J (fzv 3 3 J J (mkf (mkf (tbU (ψ:=tab) 30 9999 J J (cal0 (φs:= [both (sl 1 rE_ m.aC) tab,agg [sl 1 nE [0],int 0],eqv (.func (.func 87) #[] #[]),clo 89 [fp [clo 84 [fp [sl 1 rE_ m.aC,sl 1 gE m.sT]]],fp [sl 1 rE_ ((tR t).1.aC),sl 2 sE ((tR t).1.sT)]],clo 92 [fp [sl 1 rE_ m.aC,sl 1 gE m.sT],fp [sl 1 rE_ ((tR t).1.aC),sl 2 sE ((tR t).1.sT)]]]) (φ:=tup [agg [sl 1 rE_ ((growT m (tR t).1).1).aC,sl 2 sE ((growT m (tR t).1).1).sT],bl ((growT m (tR t).1).2)]) ⟨J,J,J,J,J,tV⟩ (sgrowC_ok m hm (tR t).1 hT hMU) T.ent86 (mv (xt J J (xt J J (al (key:=9) T.z25 (eC (eC eZ)) fun b9=>(sPA (cs':= [sl 1 rE_ ((growT m (tR t).1).1).aC,sl 2 sE ((growT m (tR t).1).1).sT]) J J J T.agg25 J J (ag (nl (th (sq (sq (rg (mv (no J (nl (th ?_))))))))))))))))))))))))))))))))))))
   refine cd J (fun hc2=> ?_) (fun hc2=> ?_)
   ·try simp at hc2
    have hd:besS m t=(⟨[],[]⟩,2):=by rw[hd0,if_neg (by simpa using hc2)]
    refine sq (rg (bd (css:= []) T.st25 (eC (eC eZ)) trivial (sPA (cs':= [eqv (.slice none 0 0),eqv (.slice none 0 0)]) J J J T.agg25 J J (ag (nl (th (rt (rt_ ?_))))))))
    refine kncA 4 0 (sl 1 rE_ []) rfl rfl slnil ?_
    refine kncA 4 1 (sl 2 sE []) rfl rfl slnil ?_
    have hr0: []=((besS m t).1).aC:=by
     rw[hd]
    have hr1: []=((besS m t).1).sT:=by
     rw[hd]
    have hr2:(2:Int)=((besS m t).2):=by
     rw[hd]
    exact rE () [.cell 4 25,.tmp 5] J [agg [sl 1 rE_ [],sl 2 sE []],int 2] ⟨.agg J J T.agg25 J J,.tmp J,tV⟩ (cA3 (fun x0 x1 x2=>rV [agg [sl 1 rE_ x0,sl 2 sE x1],int x2]) hr0 hr1 hr2) trivial eX
   ·try simp at hc2
    have hd:besS m t=((growT m (tR t).1).1,0):=by rw[hd0,if_pos (by simpa using hc2)]
    refine sk (th (sq (rg (lPA J J T.agg25 J (sPA (cs':= [sl 1 rE_ ((growT m (tR t).1).1).aC,sl 2 sE ((growT m (tR t).1).1).sT]) J J J T.agg25 J J (ag (nl (th (rt ?_)))))))))
    have hr0:((growT m (tR t).1).1).aC=((besS m t).1).aC:=by
     rw[hd]
    have hr1:((growT m (tR t).1).1).sT=((besS m t).1).sT:=by
     rw[hd]
    have hr2:(0:Int)=((besS m t).2):=by
     rw[hd]
    exact rE () [.cell 4 25,.tmp 5] J [agg [sl 1 rE_ ((growT m (tR t).1).1).aC,sl 2 sE ((growT m (tR t).1).1).sT],int 0] ⟨.agg J J T.agg25 J J,.tmp J,tV⟩ (cA3 (fun x0 x1 x2=>rV [agg [sl 1 rE_ x0,sl 2 sE x1],int x2]) hr0 hr1 hr2) trivial eX
end prodb
end
section
open ref01 ref03 ref04 ref06 prog prog2 prog3 prog4 prog5 prog6 prog7 prog8 prog9 prog10 prog13 prog15 starts Part Rungs LeftM TrimM Itoa Keys RoundM MergeM BisM BisM4 BisM5 WalkM StepM WitM JudgM JudgM2 refw judg wit refj sysw satj divr divs divd dive divg divw divv LevM LevM2 ChsM TrimI QuoM FailM DivM RefM GenW CompM CrossM CompP EncM prodc divp prodm prodp BesM shelfI prodb
structure PutI (m:SSys) (l:List Int) (k:Nat) (out:List Int):Prop where
 rise:out.Pairwise (· < ·)
 mem:∀u,u∈out↔u∈offL m (l.take k)
namespace prodr
end prodr
end
section
namespace TogM
open ref01 ref03 ref04 ref06 Part Rungs LeftM TrimM RoundM BisM BisM5 BisM6 WalkM WitM JudgM FailM FitM PartM QuoM
variable {m n:SSys} {t:SS}
def sucT (t:SS) (p:T3) (d e:PP):T3:=(d.2,e.2,ix (nxt t p.2.2.toNat) d.1.toNat)
structure TW (m n:SSys) (t:SS) (i:Nat) (l:List T3):Prop where
 nd:l.Nodup
 z:((0,0,0):T3)∈l
 rch:∀p∈l,RchT m n t p
 il:i≤l.length
 dn:∀j,j<i→¬BadT m n t (ix l j)∧∀d∈edg m (ix l j).1.toNat,∀e∈edg n (ix l j).2.1.toNat,d.1=e.1→sucT t (ix l j) d e∈l
structure TN (m n:SSys) (t:SS) (i:Nat) (l:List T3) (k1 k2:Nat) (l2:List T3):Prop where
 nd:l2.Nodup
 rch:∀p∈l2,RchT m n t p
 pre:l<+:l2
 al1:∀d∈(edg m (ix l i).1.toNat).take k1,∀e∈edg n (ix l i).2.1.toNat,d.1=e.1→sucT t (ix l i) d e∈l2
 al2:∀e∈(edg n (ix l i).2.1.toNat).take k2,(ix (edg m (ix l i).1.toNat) k1).1=e.1→sucT t (ix l i) (ix (edg m (ix l i).1.toNat) k1) e∈l2
variable {i k1 k2:Nat} {l l2:List T3}
def codeT (b c:Nat) (p:T3):Nat:=(p.1.toNat*b+p.2.1.toNat)*c+p.2.2.toNat
def boxT (a b c:Nat) (p:T3):Prop:=0≤p.1∧p.1<(a:Int)∧0≤p.2.1∧p.2.1<(b:Int)∧0≤p.2.2∧p.2.2<(c:Int)
structure Tab (a b c:Nat) (l:List T3) (inn:List Bool):Prop where
 len:inn.length=a*b*c
 at_:∀p,boxT a b c p→ix inn (codeT b c p)=decide (p∈l)
end TogM
end
section
namespace BrkM
open ref01 ref03 ref04 ref06 Part Rungs LeftM TrimM RoundM BisM BisM5 BisM6 WalkM WitM JudgM FailM FitM PartM QuoM TogM
def pm (p:T3):T3:=(p.2.2,p.1,p.2.1)
structure BW (m x:SSys) (t:SS) (i:Nat) (l:List T3) (mm:List (T3 × Bool)):Prop where
 tw:TW m x t i (l.map pm)
 sm:smap3 mm l
structure BN (m x:SSys) (t:SS) (i:Nat) (l:List T3) (k1 k2:Nat) (l2:List T3) (mm2:List (T3 × Bool)):Prop where
 tn:TN m x t i (l.map pm) k1 k2 (l2.map pm)
 sm:smap3 mm2 l2
variable {m x:SSys} {t:SS} {i k1 k2:Nat} {l l2:List T3} {mm mm2:List (T3 × Bool)}
def tgt (t:SS) (p:T3) (d e:PP):T3:=(e.2,ix (nxt t p.2.1.toNat) e.1.toNat,d.2)
end BrkM
end
section
namespace ProdM
open ref01 ref03 ref04 ref06 Part Rungs LeftM TrimM RoundM BisM BisM5 BisM6 WalkM WitM JudgM FailM FitM PartM QuoM TogM sysw
abbrev pos (q:List PP) (p:PP):Nat:=q.idxOf p
theorem pos_lt {q:List PP} {p:PP} (h:p∈q):pos q p<q.length:=List.idxOf_lt_length_of_mem h
theorem pos_at {q:List PP} {p:PP} (h:p∈q):ix q (pos q p)=p:=by rw[ix_get (pos_lt h)];exact List.getElem_idxOf _
theorem pos_app {q r:List PP} {p:PP} (h:p∈q):pos (q++r) p=pos q p:=idx_left h
def rowd (q F:List PP) (d:PP):List PP:=(F.filter fun e=>decide (d.1=e.1)).map fun e=>(d.1,(pos q ((d.2,e.2):PP):Int))
def rowL (q E F:List PP):List PP:=E.flatMap (rowd q F)
def RowAll (q E F:List PP):Prop:=∀d∈E,∀e∈F,d.1=e.1→((d.2,e.2):PP)∈q
theorem rowd_mem {q F:List PP} {d x:PP}:x∈rowd q F d↔∃e∈F,d.1=e.1∧x=(d.1,(pos q ((d.2,e.2):PP):Int)):=by
 unfold rowd
 rw[List.mem_map]
 constructor
 ·rintro⟨e,he,rfl⟩
  rw[List.mem_filter] at he
  exact⟨e,he.1,of_decide_eq_true he.2,rfl⟩
 ·rintro⟨e,he,h,rfl⟩
  exact⟨e,List.mem_filter.2 ⟨he,decide_eq_true h⟩,rfl⟩
theorem rowL_mem {q E F:List PP} {x:PP}:x∈rowL q E F↔∃d∈E,∃e∈F,d.1=e.1∧x=(d.1,(pos q ((d.2,e.2):PP):Int)):=by
 unfold rowL
 rw[List.mem_flatMap]
 exact⟨fun⟨d,hd,h⟩=>⟨d,hd,rowd_mem.1 h⟩,fun⟨d,hd,h⟩=>⟨d,hd,rowd_mem.2 h⟩⟩
theorem rowd_app {q r F:List PP} {d:PP} (h:∀e∈F,d.1=e.1→((d.2,e.2):PP)∈q):rowd (q++r) F d=rowd q F d:=by
 unfold rowd
 apply List.map_congr_left
 intro e he
 rw[List.mem_filter] at he
 rw[pos_app (h e he.1 (of_decide_eq_true he.2))]
theorem flatMap_congr' {α β:Type} {f g:α→List β}:∀{l:List α},(∀a∈l,f a=g a)→l.flatMap f=l.flatMap g
 | [],_=>rfl
 |a::l,h=>by rw[List.flatMap_cons,List.flatMap_cons,h a (List.mem_cons_self ..),flatMap_congr' (fun b hb=>h b (List.mem_cons_of_mem _ hb))]
theorem rowL_app {q r E F:List PP} (h:RowAll q E F):rowL (q++r) E F=rowL q E F:=flatMap_congr' fun d hd=>rowd_app (h d hd)
theorem pos_inj {q:List PP} {x y:PP} (hx:x∈q) (hy:y∈q) (h:pos q x=pos q y):x=y:=by
 have h1:=pos_at hx
 have h2:=pos_at hy
 rw[h] at h1
 exact h1.symm.trans h2
theorem rowd_nodup {q F:List PP} {d:PP} (hF:F.Nodup) (h:∀e∈F,d.1=e.1→((d.2,e.2):PP)∈q):(rowd q F d).Nodup:=by
 unfold rowd
 rw[List.nodup_iff_pairwise_ne,List.pairwise_map]
 refine List.Pairwise.imp_of_mem ?_ (List.Nodup.sublist List.filter_sublist hF)
 intro a b ha hb hne e
 rw[List.mem_filter] at ha hb
 have a1:=of_decide_eq_true ha.2
 have b1:=of_decide_eq_true hb.2
 simp only [Prod.mk.injEq,true_and] at e
 have:=pos_inj (h a ha.1 a1) (h b hb.1 b1) O
 exact hne (Prod.ext (a1.symm.trans b1) (Prod.mk.inj this).2)
theorem rowL_nodup {q F:List PP} (hF:F.Nodup):∀{E:List PP},E.Nodup→RowAll q E F→(rowL q E F).Nodup
 | [],_,_=>List.nodup_nil
 |d::E,hE,h=>by
  unfold rowL
  rw[List.flatMap_cons,List.nodup_append]
  have hd:=List.nodup_cons.1 hE
  refine⟨rowd_nodup hF (h d (List.mem_cons_self ..)),rowL_nodup hF hd.2 (fun a ha=>h a (List.mem_cons_of_mem _ ha)),fun x hx y hy e=> ?_⟩
  obtain⟨e1,he1,h1,rfl⟩:=rowd_mem.1 hx
  obtain⟨d2,hd2,e2,he2,h2,rfl⟩:=rowL_mem.1 (show y∈rowL q E F from hy)
  simp only [Prod.mk.injEq] at e
  have:=pos_inj (h d (List.mem_cons_self ..) e1 he1 h1) (h d2 (List.mem_cons_of_mem _ hd2) e2 he2 h2) O
  have:d=d2:=Prod.ext e.1 (Prod.mk.inj this).1
  exact hd.1 (this▸hd2)
theorem rowd_len {q F:List PP} {d:PP}:(rowd q F d).length≤F.length:=by
 unfold rowd
 rw[List.length_map];exact List.length_filter_le _ _
theorem rowL_len {q F:List PP}:∀{E:List PP},(rowL q E F).length≤E.length*F.length
 | []=>by simp[rowL]
 |d::E=>by
  unfold rowL
  rw[List.flatMap_cons,List.length_append,List.length_cons,Nat.add_mul]
  have h1:=rowd_len (q:=q) (F:=F) (d:=d)
  have h2:(rowL q E F).length≤E.length*F.length:=rowL_len
  unfold rowL at h2
  omega
theorem edges_nodup {A N:Nat} {l:List PP} (h:edgesOK A N l=true):l.Nodup:=by
 unfold edgesOK at h
 rw[Bool.and_eq_true] at h
 have hstep:∀j,j+1<l.length→ltP (ix l j) (ix l (j+1))=true:=fun j hj=>List.all_eq_true.1 h.2 j (List.mem_range.2 O)
 have key:∀d j,j+d+1<l.length→(ix l j).1<(ix l (j+d+1)).1∨((ix l j).1=(ix l (j+d+1)).1∧(ix l j).2<(ix l (j+d+1)).2):=by
  intro d
  induction d with
  |zero=>intro j hj;exact ltP_iff.1 (hstep j hj)
  |succ d ih=>
   intro j hj
   have h1:=ih j O
   have h2:=ltP_iff.1 (hstep (j+d+1) hj)
   rw[show j+(d+1)+1=j+d+1+1 by omega]
   omega
 rw[List.nodup_iff_pairwise_ne,List.pairwise_iff_getElem]
 intro i j hi hj hij e
 have:=key (j- i- 1) i O
 rw[show i+(j- i- 1)+1=j by omega,ix_get hi,ix_get hj,e] at this
 omega
theorem sys_nodup {m:SSys} (h:sysOK m=true) {x:Nat} (hx:x<m.sT.length):(edg m x).Nodup:=by
 unfold sysOK at h
 simp only [Bool.and_eq_true] at h
 exact edges_nodup (all_ix h.1.2 hx)
structure ProdOK (m n k:SSys) (q:List PP):Prop where
 acts:k.aC=m.aC
 ne:0<q.length
 hd:ix q 0=((0,0):PP)
 nd:q.Nodup
 box:∀p∈q,0≤p.1∧p.1<(m.sT.length:Int)∧0≤p.2∧p.2<(n.sT.length:Int)
 len:k.sT.length=q.length
 all:∀i,i<q.length→RowAll q (edg m (ix q i).1.toNat) (edg n (ix q i).2.toNat)
 row:∀i,i<q.length→edg k i=sortP (rowL q (edg m (ix q i).1.toNat) (edg n (ix q i).2.toNat))
variable {m n k:SSys} {t:SS} {q:List PP}
theorem prod_mem (h:ProdOK m n k q) {i:Nat} (hi:i<q.length) {x:PP}:x∈edg k i↔∃d∈edg m (ix q i).1.toNat,∃e∈edg n (ix q i).2.toNat,d.1=e.1∧x=(d.1,(pos q ((d.2,e.2):PP):Int)):=by
 rw[h.row i hi,(sortP_perm _).mem_iff,rowL_mem]
theorem and_same {a b c:Int} (ha:0≤a) (h:∀i:Nat,has a (i:Int)=(has b (i:Int)&&has c (i:Int))):a=andI b c:=by
 have h1:a.toNat=b.toNat&&&c.toNat:=by
  apply Nat.eq_of_testBit_eq
  intro i
  have:=h i
  unfold has at this
  simp only [Int.toNat_natCast] at this
  rw[Nat.testBit_and];exact this
 unfold andI
 omega
theorem prod_off (hm:okSys m) (hn:okSys n) (h:ProdOK m n k q) {i:Nat} (hi:i<q.length):offM k i=andI (offM m (ix q i).1.toNat) (offM n (ix q i).2.toNat):=by
 have hb:=h.box _ (ix_memS hi)
 refine and_same (orAll_nn _) fun a=> ?_
 rw[Bool.eq_iff_iff,Bool.and_eq_true]
 show has (offE (edg k i)) (a:Int)=true↔has (offE (edg m _)) (a:Int)=true∧has (offE (edg n _)) (a:Int)=true
 rw[off_has,off_has,off_has]
 constructor
 ·rintro⟨x,hx,rfl⟩
  obtain⟨d,hd,e,he,hde,rfl⟩:=(prod_mem h hi).1 hx
  exact⟨⟨d,hd,rfl⟩,⟨e,he,by rw[←hde]⟩⟩
 ·rintro⟨⟨d,hd,h1⟩,⟨e,he,h2⟩⟩
  have b1:=hm.ed _ O d hd
  have b2:=hn.ed _ O e he
  exact⟨_,(prod_mem h hi).2 ⟨d,hd,e,he,O,rfl⟩,h1⟩
theorem sum_map_le {α:Type} [DecidableEq α] (w:α→Nat):∀(q all:List α),q.Nodup→(∀p∈q,p∈all)→(q.map w).sum≤(all.map w).sum
 | [],_,_,_=>by simp
 |p::q,all,hnd,hs=>by
  have hp:=hs p (List.mem_cons_self ..)
  have h1:(all.map w).sum=w p+((all.erase p).map w).sum:=by
   have:=(List.perm_cons_erase hp).map w
   have:=this.sum_nat
   rw[this];simp
  have hd:=List.nodup_cons.1 hnd
  have h2:=sum_map_le w q (all.erase p) hd.2 (fun x hx=>(List.mem_erase_of_ne (show x≠p from fun e=>hd.1 (e▸hx))).2 (hs x (List.mem_cons_of_mem _ hx)))
  rw[h1,List.map_cons,List.sum_cons];omega
theorem sum_const (c:Nat):∀l:List Nat,(l.map fun x=>c*x).sum=c*l.sum
 | []=>by simp
 |x::l=>by rw[List.map_cons,List.sum_cons,sum_const c l,List.sum_cons,Nat.mul_add]
theorem sum_box (f g:List Nat):∀(q:List PP),q.Nodup→(∀p∈q,0≤p.1∧p.1<(f.length:Int)∧0≤p.2∧p.2<(g.length:Int))→(q.map fun p=>ix f p.1.toNat*ix g p.2.toNat).sum≤f.sum*g.sum:=by
 intro q hnd hb
 have h1:=sum_map_le (fun p:PP=>ix f p.1.toNat*ix g p.2.toNat) q ((List.range f.length).flatMap fun i:Nat=>(List.range g.length).map fun j:Nat=>(((i:Nat):Int),((j:Nat):Int))) hnd (fun p hp=>by
  obtain⟨p0,p1,p2,p3⟩:=hb p hp
  rw[List.mem_flatMap]
  refine⟨p.1.toNat,List.mem_range.2 O,List.mem_map.2 ⟨p.2.toNat,List.mem_range.2 O,Prod.ext ?_ ?_⟩⟩
  ·show((p.1.toNat:Nat):Int)=p.1;omega
  ·show((p.2.toNat:Nat):Int)=p.2;omega)
 refine Nat.le_trans h1 (Nat.le_of_eq ?_)
 have hg:(List.range g.length).map (fun j=>ix g j)=g:=by
  apply List.ext_getElem (by simp)
  intro i h2 h3
  rw[List.getElem_map,List.getElem_range,ix_get h3]
 have hf:(List.range f.length).map (fun j=>ix f j)=f:=by
  apply List.ext_getElem (by simp)
  intro i h2 h3
  rw[List.getElem_map,List.getElem_range,ix_get h3]
 have key:∀l:List Nat,((l.flatMap fun i=>(List.range g.length).map fun j=>(((i:Nat):Int),((j:Nat):Int))).map fun p:PP=>ix f p.1.toNat*ix g p.2.toNat).sum=(l.map fun i=>ix f i).sum*g.sum:=by
  intro l
  induction l with
  |nil=>simp
  |cons i l ih=>
   rw[List.flatMap_cons,List.map_append,List.sum_append_nat,ih,List.map_cons,List.sum_cons,Nat.add_mul,List.map_map]
   congr 1
   have:((fun p:PP=>ix f p.1.toNat*ix g p.2.toNat) ∘ fun j:Nat=>(((i:Nat):Int),((j:Nat):Int)))=fun j=>ix f i*ix g j:=by
    funext j
    show ix f (i:Int).toNat*ix g (j:Int).toNat=_
    rw[Int.toNat_natCast,Int.toNat_natCast]
   rw[this]
   have h2:=sum_const (ix f i) ((List.range g.length).map fun j=>ix g j)
   rw[List.map_map] at h2
   rw[hg] at h2
   exact h2
 rw[key,hf]
structure PI (m n:SSys) (i:Nat) (q:List PP) (mm:List (PP × Int)) (outs:List (List PP)):Prop where
 ne:0<q.length
 hd:ix q 0=((0,0):PP)
 nd:q.Nodup
 box:∀p∈q,0≤p.1∧p.1<(m.sT.length:Int)∧0≤p.2∧p.2<(n.sT.length:Int)
 im:imap mm q
 il:i≤q.length
 dn:∀j,j<i→RowAll q (edg m (ix q j).1.toNat) (edg n (ix q j).2.toNat)
 out:outs=(List.range i).map fun j=>sortP (rowL q (edg m (ix q j).1.toNat) (edg n (ix q j).2.toNat))
structure PN (m n:SSys) (i:Nat) (p:PP) (q:List PP) (mm:List (PP × Int)) (outs:List (List PP)) (k1 k2:Nat) (l:List PP):Prop where
 pi:PI m n i q mm outs
 hi:i<q.length
 pe:ix q i=p
 al1:RowAll q ((edg m p.1.toNat).take k1) (edg n p.2.toNat)
 al2:∀e∈(edg n p.2.toNat).take k2,(ix (edg m p.1.toNat) k1).1=e.1→(((ix (edg m p.1.toNat) k1).2,e.2):PP)∈q
 es:l=rowL q ((edg m p.1.toNat).take k1) (edg n p.2.toNat)++rowd q ((edg n p.2.toNat).take k2) (ix (edg m p.1.toNat) k1)
theorem pi_zero (hm:1≤m.sT.length) (hn:1≤n.sT.length):PI m n 0 [(0,0)] (mset [] (0,0) 0) []:=by
 refine⟨by simp,rfl,by simp,fun p hp=> ?_,imap_one _,by simp,fun k hk=>absurd hk O,rfl⟩
 rw[List.mem_singleton.1 hp]
 exact⟨by simp,by show(0:Int)<_;omega,by simp,by show(0:Int)<_;omega⟩
theorem rowAll_push {q r E F:List PP} (h:RowAll q E F):RowAll (q++r) E F:=fun d hd e he hde=>List.mem_append_left _ (h d hd e he hde)
variable {i k1 k2:Nat} {mm:List (PP × Int)} {outs:List (List PP)} {p:PP} {l:List PP}
theorem pi_few (h:PI m n i q mm outs):q.length≤m.sT.length*n.sT.length:=nodup_pairs _ _ q h.nd h.box
theorem pi_push (h:PI m n i q mm outs) {p:PP} (hp:p∉q) (hb:0≤p.1∧p.1<(m.sT.length:Int)∧0≤p.2∧p.2<(n.sT.length:Int)):PI m n i (q++ [p]) (mset mm p (q.length:Int)) outs:=by
 have hil:=h.il
 refine⟨by simp,by rw[ixP_left h.ne];exact h.hd,?_,fun r hr=> ?_,imap_push h.im hp,by simp;omega,fun k hk=> ?_,?_⟩
 ·rw[List.nodup_append]
  exact⟨h.nd,by simp,fun a ha b hb e=>hp (by have:b=p:=(by simpa using hb);rw[←this,←e];exact ha)⟩
 ·rcases List.mem_append.1 hr with hr|hr
  ·exact h.box r hr
  ·have:r=p:=by simpa using hr
   subst this;exact hb
 ·rw[ixP_left O]
  exact rowAll_push (h.dn k hk)
 ·rw[h.out]
  refine List.map_congr_left (fun k hk=> ?_)
  have hk:=List.mem_range.1 hk
  rw[ixP_left O,rowL_app (h.dn k hk)]
theorem pn_zero (h:PI m n i q mm outs) (hi:i<q.length):PN m n i (ix q i) q mm outs 0 0 []:=⟨h,hi,rfl,fun d hd=>by simp at hd,fun e he=>by simp at he,by simp[rowL,rowd]⟩
theorem rowd_step {q F:List PP} {d:PP} {k:Nat} (hk:k<F.length):rowd q (F.take (k+1)) d=rowd q (F.take k) d++(if d.1=(ix F k).1 then [(d.1,(pos q ((d.2,(ix F k).2):PP):Int))] else []):=by
 unfold rowd
 rw[take_s hk,List.filter_append,List.map_append]
 congr 1
 by_cases g:d.1=(ix F k).1
 ·rw[if_pos g];simp[g]
 ·rw[if_neg g];simp[g]
theorem pn_skip (h:PN m n i p q mm outs k1 k2 l) (hk:k2<(edg n p.2.toNat).length) (hne:¬(ix (edg m p.1.toNat) k1).1=(ix (edg n p.2.toNat) k2).1):PN m n i p q mm outs k1 (k2+1) l:=by
 refine⟨h.pi,h.hi,h.pe,h.al1,fun e he hde=> ?_,?_⟩
 ·rw[take_s hk,List.mem_append] at he
  rcases he with g|g
  ·exact h.al2 e g hde
  ·have:e=_:=List.mem_singleton.1 g
   subst this;exact absurd hde hne
 ·rw[rowd_step hk,if_neg hne,List.append_nil];exact h.es
theorem pn_old (h:PN m n i p q mm outs k1 k2 l) (hk:k2<(edg n p.2.toNat).length) (he:(ix (edg m p.1.toNat) k1).1=(ix (edg n p.2.toNat) k2).1) (hn:(mget mm ((ix (edg m p.1.toNat) k1).2,(ix (edg n p.2.toNat) k2).2)).isSome=true):
 PN m n i p q mm outs k1 (k2+1) (l++ [((ix (edg m p.1.toNat) k1).1,(mget mm ((ix (edg m p.1.toNat) k1).2,(ix (edg n p.2.toNat) k2).2)).getD 0)]):=by
 rw[h.pi.im] at hn ⊢
 unfold posOf at hn ⊢
 by_cases hm:(((ix (edg m p.1.toNat) k1).2,(ix (edg n p.2.toNat) k2).2):PP)∈q
 ·rw[if_pos hm]
  refine⟨h.pi,h.hi,h.pe,h.al1,fun e hee hde=> ?_,?_⟩
  ·rw[take_s hk,List.mem_append] at hee
   rcases hee with g|g
   ·exact h.al2 e g hde
   ·have:e=_:=List.mem_singleton.1 g
    subst this;exact hm
  ·rw[rowd_step hk,if_pos he,←List.append_assoc,←h.es];rfl
 ·rw[if_neg hm] at hn;cases hn
theorem pn_new (h:PN m n i p q mm outs k1 k2 l) (hk:k2<(edg n p.2.toNat).length) (he:(ix (edg m p.1.toNat) k1).1=(ix (edg n p.2.toNat) k2).1) (hb:0≤(ix (edg m p.1.toNat) k1).2∧(ix (edg m p.1.toNat) k1).2<(m.sT.length:Int)∧0≤(ix (edg n p.2.toNat) k2).2∧(ix (edg n p.2.toNat) k2).2<(n.sT.length:Int))
 (hn:(mget mm ((ix (edg m p.1.toNat) k1).2,(ix (edg n p.2.toNat) k2).2)).isSome=false):
 PN m n i p (q++ [((ix (edg m p.1.toNat) k1).2,(ix (edg n p.2.toNat) k2).2)]) (mset mm ((ix (edg m p.1.toNat) k1).2,(ix (edg n p.2.toNat) k2).2) (q.length:Int)) outs k1 (k2+1) (l++ [((ix (edg m p.1.toNat) k1).1,(q.length:Int))]):=by
 have hnq:(((ix (edg m p.1.toNat) k1).2,(ix (edg n p.2.toNat) k2).2):PP)∉q:=fun hm=>by
  rw[h.pi.im] at hn
  unfold posOf at hn
  rw[if_pos hm] at hn;cases hn
 have hi:=h.hi
 refine⟨pi_push h.pi hnq hb,by simp;omega,by rw[ixP_left h.hi];exact h.pe,rowAll_push h.al1,fun e hee hde=> ?_,?_⟩
 ·rw[take_s hk,List.mem_append] at hee
  rcases hee with g|g
  ·exact List.mem_append_left _ (h.al2 e g hde)
  ·have:e=_:=List.mem_singleton.1 g
   subst this;simp
 ·rw[rowL_app h.al1,rowd_step hk,if_pos he,rowd_app h.al2,←List.append_assoc,←h.es]
  congr 3
  exact(congrArg (fun x:Nat=>(x:Int)) (idx_new hnq)).symm
theorem pn_row (h:PN m n i p q mm outs k1 k2 l) (hk1:k1<(edg m p.1.toNat).length) (hk:(edg n p.2.toNat).length≤k2):PN m n i p q mm outs (k1+1) 0 l:=by
 have h2:=h.al2
 have h3:=h.es
 rw[List.take_of_length_le hk] at h2 h3
 refine⟨h.pi,h.hi,h.pe,fun d hd e he hde=> ?_,fun e he=>by simp at he,?_⟩
 ·rw[take_s hk1,List.mem_append] at hd
  rcases hd with g|g
  ·exact h.al1 d g e he hde
  ·have:d=_:=List.mem_singleton.1 g
   subst this
   exact h2 e he hde
 ·rw[h3]
  unfold rowL
  rw[take_s hk1,List.flatMap_append]
  simp[rowd]
theorem pn_end (h:PN m n i p q mm outs k1 k2 l) (hk2:k2=0) (hk1:(edg m p.1.toNat).length≤k1):PI m n (i+1) q mm (outs++ [sortP l]):=by
 have h1:=h.al1
 have h3:=h.es
 rw[List.take_of_length_le hk1] at h1 h3
 subst hk2
 have h4:l=rowL q (edg m p.1.toNat) (edg n p.2.toNat):=by rw[h3];simp[rowd]
 have hi:=h.hi
 have hpe:=h.pe
 refine⟨h.pi.ne,h.pi.hd,h.pi.nd,h.pi.box,h.pi.im,O,fun j hj=> ?_,?_⟩
 ·by_cases g:j=i
  ·rw[g,hpe];exact h1
  ·exact h.pi.dn j O
 ·rw[List.range_succ,List.map_append,←h.pi.out,h4]
  simp[hpe]
theorem pn_few (h:PN m n i p q mm outs k1 k2 l):l.length≤k1*(edg n p.2.toNat).length+k2:=by
 rw[h.es,List.length_append]
 have h1:=rowL_len (q:=q) (F:=edg n p.2.toNat) (E:=(edg m p.1.toNat).take k1)
 have h2:=rowd_len (q:=q) (F:=(edg n p.2.toNat).take k2) (d:=ix (edg m p.1.toNat) k1)
 have h3:((edg m p.1.toNat).take k1).length≤k1:=List.length_take_le _ _
 have h4:((edg n p.2.toNat).take k2).length≤k2:=List.length_take_le _ _
 have h5:=Nat.mul_le_mul_right (edg n p.2.toNat).length h3
 omega
theorem pn_bd (hm:okSys m) (h:PN m n i p q mm outs k1 k2 l):∀x∈l,0≤x.1∧x.1<8∧0≤x.2∧x.2<(q.length:Int):=fun x hx=>by
 obtain⟨b0,b1,_,_⟩:=h.pi.box p (by rw[←h.pe];exact ix_memS h.hi)
 have hm8:=hm.n8
 rw[h.es,List.mem_append] at hx
 rcases hx with g|g
 ·obtain⟨d,hd,e,he,hde,rfl⟩:=rowL_mem.1 g
  have h1:=hm.ed _ O d (List.mem_of_mem_take hd)
  have h2:=pos_lt (h.al1 d hd e he hde)
  exact⟨h1.1,by show d.1<8;omega,by show(0:Int)≤((pos q _:Nat):Int);omega,by show((pos q _:Nat):Int)<_;omega⟩
 ·obtain⟨e,he,hde,rfl⟩:=rowd_mem.1 g
  have h2:=pos_lt (h.al2 e he hde)
  by_cases hk:k1<(edg m p.1.toNat).length
  ·have h1:=hm.ed _ O _ (ix_memS hk)
   exact⟨h1.1,by show(ix (edg m p.1.toNat) k1).1<8;omega,by show(0:Int)≤((pos q _:Nat):Int);omega,by show((pos q _:Nat):Int)<_;omega⟩
  ·have e0:ix (edg m p.1.toNat) k1=(0,0):=by unfold ix;rw[List.getD_eq_getElem?_getD,List.getElem?_eq_none O];rfl
   rw[e0]
   rw[e0] at h2
   exact⟨by show(0:Int)≤0;omega,by show(0:Int)<8;omega,by show(0:Int)≤((pos q _:Nat):Int);omega,by show((pos q _:Nat):Int)<_;omega⟩
theorem prod_ok (h:PI m n i q mm outs) (hi:q.length≤i):ProdOK m n ⟨m.aC,outs⟩ q:=by
 have hil:=h.il
 have e:i=q.length:=by omega
 subst e
 refine⟨rfl,h.ne,h.hd,h.nd,h.box,by rw[h.out];simp,h.dn,fun j hj=> ?_⟩
 show ix outs j=_
 rw[h.out,ix_get (by simpa using hj)]
 simp
def wgt (m n:SSys) (p:PP):Nat:=(edg m p.1.toNat).length*(edg n p.2.toNat).length
def cntP (m n:SSys) (q:List PP) (i:Nat):Nat:=((q.take i).map (wgt m n)).sum
theorem cnt_app {r:List PP} (hi:i≤q.length):cntP m n (q++r) i=cntP m n q i:=by
 unfold cntP
 rw[List.take_append_of_le_length hi]
theorem cnt_succ (hi:i<q.length):cntP m n q (i+1)=cntP m n q i+wgt m n (ix q i):=by
 unfold cntP
 rw[take_s hi,List.map_append,List.sum_append_nat];simp
theorem cnt_le0 (hnd:q.Nodup) (hbx:∀p∈q,0≤p.1∧p.1<(m.sT.length:Int)∧0≤p.2∧p.2<(n.sT.length:Int)) (j:Nat):cntP m n q j≤sumLen m.sT*sumLen n.sT:=by
 have h1:=sum_box (m.sT.map List.length) (n.sT.map List.length) (q.take j) (List.Nodup.sublist (List.take_sublist _ _) hnd) (fun p hp=>by simpa using hbx p (List.mem_of_mem_take hp))
 unfold sumLen
 refine Nat.le_trans (Nat.le_of_eq ?_) h1
 unfold cntP
 congr 1
 refine List.map_congr_left fun p hp=> ?_
 obtain⟨p0,p1,p2,p3⟩:=hbx p (List.mem_of_mem_take hp)
 unfold wgt
 have e1:ix (m.sT.map List.length) p.1.toNat=(edg m p.1.toNat).length:=by rw[ix_get (by simp;omega),List.getElem_map,←ix_get (xs:=m.sT) O]
 have e2:ix (n.sT.map List.length) p.2.toNat=(edg n p.2.toNat).length:=by rw[ix_get (by simp;omega),List.getElem_map,←ix_get (xs:=n.sT) O]
 rw[e1,e2]
theorem cnt_le (h:PI m n i q mm outs) (j:Nat):cntP m n q j≤sumLen m.sT*sumLen n.sT:=cnt_le0 h.nd h.box j
theorem prod_few (h:ProdOK m n k q):q.length≤m.sT.length*n.sT.length:=nodup_pairs _ _ q h.nd h.box
theorem prod_sum (h:ProdOK m n k q):sumLen k.sT≤cntP m n q q.length:=by
 have key:∀j,j≤q.length→sumLen (k.sT.take j)≤cntP m n q j:=by
  intro j
  induction j with
  |zero=>intro _;simp[sumLen]
  |succ j ih=>
   intro hj
   have hl:=h.len
   rw[take_s (show j<k.sT.length by omega),sumLen_snoc,cnt_succ O]
   have h1:=ih O
   have h2:(ix k.sT j).length≤wgt m n (ix q j):=by
    have:=h.row j O
    have e:(ix k.sT j)=sortP _:=this
    rw[e,(sortP_perm _).length_eq]
    exact rowL_len
   omega
 have:=key q.length (Nat.le_refl _)
 rwa [List.take_of_length_le (by rw[h.len];exact Nat.le_refl _)] at this
theorem prod_valid (hm:sysOK m=true) (hn:sysOK n=true) (h:ProdOK m n k q) (h5:q.length≤5000) (h4:sumLen k.sT≤400000):sysOK k=true:=by
 have hm1:=sysOK_ok hm
 have hn1:=sysOK_ok hn
 have hed:∀j,j<q.length→edgesOK k.aC.length k.sT.length (edg k j)=true:=fun j hj=>by
  obtain⟨b0,b1,b2,b3⟩:=h.box _ (ix_memS hj)
  have hnd:(edg k j).Nodup:=by
   rw[h.row j hj]
   exact(sortP_perm _).nodup_iff.2 (rowL_nodup (sys_nodup hn O) (sys_nodup hm O) (h.all j hj))
  have hso:(edg k j).Pairwise (fun p q=>p.1<q.1∨(p.1=q.1∧p.2≤q.2)):=by rw[h.row j hj];exact sortP_sorted _
  refine edges_of (fun i hi=> ?_) (fun i hi=> ?_)
  ·obtain⟨d,hd,e,he,hde,hx⟩:=(prod_mem h hj).1 (ix_memS hi)
   have g1:=hm1.ed _ O d hd
   have g2:=pos_lt (h.all j hj d hd e he hde)
   rw[edgeOK_iff,hx,h.acts,h.len]
   exact⟨g1.1,g1.2.1,by show(0:Int)≤((pos q _:Nat):Int);omega,by show((pos q _:Nat):Int)<_;omega⟩
  ·rw[ix_get (show i<(edg k j).length by omega),ix_get hi]
   have g1:=(List.pairwise_iff_getElem.1 hso) i (i+1) O hi O
   have g2:=(List.pairwise_iff_getElem.1 hnd) i (i+1) O hi O
   rw[ltP_iff]
   rcases g1 with g|⟨g,g'⟩
   ·exact .inl g
   ·refine .inr ⟨g,?_⟩
    rcases Int.lt_or_eq_of_le g' with c|c
    ·exact c
    ·exact absurd (Prod.ext g c) g2
 have hne:=h.ne
 have hl:=h.len
 unfold sysOK
 rw[h.acts,hm1.acts,decide_eq_true (show 1≤k.sT.length by omega),decide_eq_true (show k.sT.length≤5000 by omega),decide_eq_true h4]
 simp only [Bool.true_and,Bool.and_true]
 refine List.all_eq_true.2 fun l hl2=> ?_
 obtain⟨x,hx,rfl⟩:=List.getElem_of_mem hl2
 rw[←h.acts,←ix_get hx]
 exact hed x O
end ProdM
end
section
open ref01 ref03 ref04 ref06 prog prog2 prog3 prog6 prog13 starts Part Rungs LeftM TrimM RoundM BisM BisM5 WalkM WitM JudgM refw judg wit refj sysw FailM FitM PartM QuoM TogM ProdM satj
noncomputable def bothS (m n:SSys):Int:=if sysOK m=true then(if sysOK n=true then(if m.aC=n.aC then 0 else 10) else 20) else 20
theorem bothS_ok {m n:SSys} (h:bothS m n=0):sysOK m=true∧sysOK n=true∧m.aC=n.aC:=by
 unfold bothS at h
 split at h
 ·next g1=>
  split at h
  ·next g2=>
   split at h
   ·next g3=>exact⟨g1,g2,g3⟩
   ·exact absurd h (by decide)
  ·exact absurd h (by decide)
 ·exact absurd h (by decide)
namespace T
theorem map126:MapT Tryz.prog 126 84 3 pairV pairD:=mapT_arr Tryz.underlying126 Tryz.underlying84 kR (by decide+kernel) kR kR ⟨Tryz.underlying3,by kernel_rfl⟩ kR
theorem ent96:Ent Tryz.prog 96:=ent_of kR
end T
namespace prodw
theorem Both_ok (m n:SSys):
 Fn0 Tryz.prog 96 [sys m,sys n] (int (bothS m n)):=by
 refine fnI Tryz.func96 rfl rfl (fun w0 F0=> ?_)
 refine fcC (inhS 0 J) (fun hS0=> ?_)
 obtain⟨hma0,hms0,hme0⟩:=sys_lens hS0
 refine fcC (inhS 1 J) (fun hS1=> ?_)
 obtain⟨hma1,hms1,hme1⟩:=sys_lens hS1
 refine sq (rg (bx (key:=2) (cs:= [sl 1 rE_ m.aC,sl 1 gE m.sT]) J fun b2=>(bx (key:=3) (cs:= [sl 1 rE_ n.aC,sl 1 gE n.sT]) J fun b3=>(ag (nl (th (sq (bk (sq (rg (lPA J J T.agg43 J (cal0 (φs:= [agg [sl 1 rE_ m.aC,sl 1 gE m.sT]]) (φ:=bl (sysOK m)) ⟨J,tV⟩ (sysw.Valid_ok m) T.ent138 (no J (mv ?_))))))))))))))
 apply gOr (t:=9) (pd:=13) rfl
 rotate_left
 ·intro hg0 fin
  have hg0':=hg0
  try simp at hg0'
  exact gy J J J hg0 (lPA J J T.agg43 J (gy J J J hg0 (cal0 (φs:= [agg [sl 1 rE_ n.aC,sl 1 gE n.sT]]) (φ:=bl (sysOK n)) ⟨J,tV⟩ (sysw.Valid_ok n) T.ent138 (gy J J J hg0 (no J (pkF J hg0 J (drp (X:= [(12,_),(11,_),(10,_)]) ⟨J,J,J,tV⟩ fin)))))))
 ·intro hg0 fin
  exact gn J J J hg0 J J (gn J J J hg0 J J (gn J J J hg0 J J (pkT J hg0 J (drp (X:= [(12,_),(11,_),(10,_)]) ⟨J,J,J,tV⟩ fin))))
 refine ag (nl (th ?_))
 refine cd J (fun hc0=> ?_) (fun hc0=> ?_)
 ·try simp at hc0
  refine sq (rg (ag (nl (th (rt (rb (rt_ ?_)))))))
  have hr0:(20:Int)=(bothS m n):=by
   unfold bothS;cases h1:sysOK m<;>cases h2:sysOK n<;>simp_all
  exact rE () [.tmp 4] J [int 20] ⟨.tmp J,tV⟩ (cA1 (fun x0=>rV [int x0]) hr0) trivial eX
 ·try simp at hc0
  refine sq (rg (fP J T.fld43_0 (lP J J J T.one22 (fP J T.fld43_0 (lP J J J T.one22 (cal0 (φs:= [sl 1 rE_ m.aC,sl 1 rE_ n.aC]) (φ:=bl (decide (m.aC=n.aC))) ⟨J,J,tV⟩ (prog.sEqualstrE_ok _ _) T.ent112 (no J (ag (nl (th ?_))))))))))
  refine cd J (fun hc1=> ?_) (fun hc1=> ?_)
  ·try simp at hc1
   refine sq (rg (ag (nl (th (rt (rb (rt_ ?_)))))))
   have hr0:(10:Int)=(bothS m n):=by
    unfold bothS;cases h1:sysOK m<;>cases h2:sysOK n<;>simp_all
   exact rE () [.tmp 4] J [int 10] ⟨.tmp J,tV⟩ (cA1 (fun x0=>rV [int x0]) hr0) trivial eX
  ·try simp at hc1
   refine sk (eb (th (sq (rg (ag (nl (th (rt ?_))))))))
   have hr0:(0:Int)=(bothS m n):=by
    unfold bothS;cases h1:sysOK m<;>cases h2:sysOK n<;>simp_all
   exact rE () [.tmp 4] J [int 0] ⟨.tmp J,tV⟩ (cA1 (fun x0=>rV [int x0]) hr0) trivial eX
theorem Product_ok (m n:SSys) (hz:m.sT.length*n.sT.length<5000) (hz2:sumLen m.sT*sumLen n.sT≤400000):
 AL.Fn Tryz.prog 43 [sys m,sys n] [] (ι:= { z:SSys × List (Int × Int)//(bothS m n≠0→z=(⟨[],[]⟩,[]))∧(bothS m n=0→ProdOK m n z.1 z.2) }) (fun _ i=>tup [agg [strs i.1.1.aC,sl 1 gE i.1.1.sT],sl 2 pE i.1.2,int (bothS m n)]) (fun _=> []):=by
 refine fnI Tryz.func43 rfl rfl (fun w0 F0=> ?_)
 refine fcC (inhS 0 J) (fun hS0=> ?_)
 obtain⟨hma0,hms0,hme0⟩:=sys_lens hS0
 refine fcC (inhS 1 J) (fun hS1=> ?_)
 obtain⟨hma1,hms1,hme1⟩:=sys_lens hS1
 refine sq (rg (bx (key:=2) (cs:= [sl 1 rE_ m.aC,sl 1 gE m.sT]) J fun b2=>(bx (key:=3) (cs:= [sl 1 rE_ n.aC,sl 1 gE n.sT]) J fun b3=>(al (key:=4) T.z43 (eC (eC eZ)) fun b4=>(ag (ag (nl (th (sq (sq (rg (lPA J J T.agg43 J (lPA J J T.agg43 J (cal0 (φs:= [agg [sl 1 rE_ m.aC,sl 1 gE m.sT],agg [sl 1 rE_ n.aC,sl 1 gE n.sT]]) (φ:=int (bothS m n)) ⟨J,J,tV⟩ (prodw.Both_ok m n) T.ent96 (ag (nl (th (sq (rg (mv (bi J J b_neq (nl (th ?_)))))))))))))))))))))))
 refine cd J (fun hc0=> ?_) (fun hc0=> ?_)
 ·try simp at hc0
  refine sq (rg (bd (css:= []) T.st43 (eC (eC eZ)) trivial (mv (sPA (cs':= [eqv (.slice none 0 0),eqv (.slice none 0 0)]) J J J T.agg43 J J (ag (ag (nl (th (rt (rt_ ?_))))))))))
  refine kncA 4 0 (sl 1 rE_ []) rfl rfl slnil ?_
  refine kncA 4 1 (sl 1 gE []) rfl rfl slnil ?_
  refine knA 5 (sl 2 pE []) rfl slnil ?_
  exact rE ⟨(⟨[],[]⟩,[]),⟨fun _=>J,fun h=>absurd h hc0⟩⟩ [.cell 4 43,.tmp 5,.tmp 6] J [agg [sl 1 rE_ [],sl 1 gE []],sl 2 pE [],int (bothS m n)] ⟨.agg J J T.agg43 J J,.tmp J,.tmp J,tV⟩ J trivial eX
 ·try simp at hc0
  obtain⟨hmv,hnv,hmn⟩:=bothS_ok hc0
  have hm:=sysOK_ok hmv
  have hn:=sysOK_ok hnv
  have f0:=hm.few0
  have f1:=hn.few0
  have f2:=hm.few1
  have f3:=hn.few1
  have hm8:=hm.n8
  refine sk (th (sq (rg (mkm (key:=29) (kE:=pairV) (dom:=pairD) (vE:=intV) fun b29=>(bd (css:= [(0,_),(1,_)]) T.st84 (eC (eC eZ)) ⟨J,J,p1 (φ:=int 0) J,⟨J,J,p1 (φ:=int 0) J,tV⟩⟩ (AL.insert (q:=(0,0)) (u:=0) J J agg_pair J T.map126 ⟨⟨O,O⟩,⟨O,O⟩⟩ (mv (ag (nl (th (sq (rg (bd (css:= [(0,_),(1,_)]) T.st84 (eC (eC eZ)) ⟨J,J,p1 (φ:=int 0) J,⟨J,J,p1 (φ:=int 0) J,tV⟩⟩ (bsO 33 (enc:=pE) (xs:= [(0,0)]) (css:= [[int 0,int 0]]) T.mk67 ⟨J,J,pA (cs:= [int 0,int 0]) J,tV⟩ J J J J fun v33=>(ag (nl (th (sq (rg (fP J T.fld43_0 (lP J J J T.one22 (calW (φs:= [sl 1 rE_ m.aC]) (φ:=sl 1 rE_ m.aC) ⟨J,tV⟩ (prog.sClonestrE_ok _ O) T.ent78 (fun N hN=>fun h=>nw_le h) (bd (css:= [(0,_)]) T.st43 (eC (eC eZ)) ⟨J,J,p1 (φ:=sl 1 rE_ m.aC) J,tV⟩ (al (key:=10) T.z43 (eC (eC eZ)) fun b10=>(sPA (cs':= [sl 1 rE_ m.aC,eqv (.slice none 0 0)]) J J J T.agg43 J J (nl (th (sq (rg (ag (nl (th (sq (sq (rg (ag (nl (th (bk ?_)))))))))))))))))))))))))))))))))))))))
  refine nwC 130 103 1 gE (kncC 10 1 (osl 130 (.slice none 0 0)) rfl rfl eq_osl ?_)
  have hI0_0:PI m n 0 ([(0,0)]:List (Int × Int)) (mset ([]:List ((Int × Int) × Int)) (0,0) 0) ([]:List (List (Int × Int)))∧0≤cntP m n ([(0,0)]:List (Int × Int)) 0:=by
   exact⟨pi_zero f0 f1,by simp[cntP]⟩
  refine lp (κ:=Nat × Nat × Value × (List (Int × Int)) × (List ((Int × Int) × Int)) × Value × (List (List (Int × Int)))) (fun p=> [(2,ptr 2 b2 0),(3,ptr 3 b3 0),(4,ptr 4 b4 0),(8,mpv 29 b29),(9,osl 33 p.2.2.1),(10,ptr 10 b10 0),(11,int (p.2.1:Int)),(12,int (p.1:Int))]) (fun p=> [(2,cell b2 [sl 1 rE_ m.aC,sl 1 gE m.sT]),(3,cell b3 [sl 1 rE_ n.aC,sl 1 gE n.sT]),(4,cell b4 [eqv (.slice none 0 0),eqv (.slice none 0 0)]),(10,cell b10 [sl 1 rE_ m.aC,osl 130 p.2.2.2.2.2.1]),(29,mp b29 pairV pairD intV p.2.2.2.2.1),(33,own p.2.2.1 84 2 pE p.2.2.2.1),(130,own p.2.2.2.2.2.1 103 1 gE p.2.2.2.2.2.2)]) (fun p=>PI m n p.1 p.2.2.2.1 p.2.2.2.2.1 p.2.2.2.2.2.2∧p.2.1≤cntP m n p.2.2.2.1 p.1) (fun p=>m.sT.length*n.sT.length- p.1) ⟨0,0,v33,([(0,0)]:List (Int × Int)),mset ([]:List ((Int × Int) × Int)) (0,0) 0,(.slice none 0 0),([]:List (List (Int × Int)))⟩ hI0_0 ⟨id,id,id,id,id,id,id,id,tV⟩ ⟨rI,rI,rI,rI,rI,rI,rI,tV⟩ ?_
  intro⟨i,c,v,q,mm,uo,outs⟩ hG0
  obtain⟨hPI,hcn⟩:PI m n i q mm outs∧c≤cntP m n q i:=hG0
  show Ct _ _ _ _ [(2,ptr 2 b2 0),(3,ptr 3 b3 0),(4,ptr 4 b4 0),(8,mpv 29 b29),(9,osl 33 v),(10,ptr 10 b10 0),(11,int (c:Int)),(12,int (i:Int))] [(2,cell b2 [sl 1 rE_ m.aC,sl 1 gE m.sT]),(3,cell b3 [sl 1 rE_ n.aC,sl 1 gE n.sT]),(4,cell b4 [eqv (.slice none 0 0),eqv (.slice none 0 0)]),(10,cell b10 [sl 1 rE_ m.aC,osl 130 uo]),(29,mp b29 pairV pairD intV mm),(33,own v 84 2 pE q),(130,own uo 103 1 gE outs)] _
  have hql:=pi_few hPI
  have hil:=hPI.il
  have hol:outs.length=i:=by rw[hPI.out];simp
  have hcl0:=cnt_le hPI i
  refine sq (sq (rg (mv (mv (lnO J J T.sl67 (bi J J b_lss (nl (th ?_))))))))
  refine cd J (fun hc1=> ?_) (fun hc1=> ?_)
  ·try simp at hc1
   obtain⟨hb0,hb1,hb2,hb3⟩:=hPI.box _ (ix_memS hc1)
   have hml:=hm.many (ix q i).1.toNat O
   have hnl:=hn.many (ix q i).2.toNat O
   have hml2:(ix m.sT (ix q i).1.toNat).length≤400000:=hml
   have hnl2:(ix n.sT (ix q i).2.toNat).length≤400000:=hnl
   refine sk (th (sq (bk (sq (rg (nw 13 105 2 pE (ag (rtg (key:=13) 13 J (nl (th (sq (rg (mv (mv (iO J J J T.sl67 O O (lOA J J gB T.agg84 (by decide) (al (key:=14) T.z84 (eC (eC eZ)) fun b14=>(sPA (cs':= [int ((ix q i).1),int ((ix q i).2)]) J J J T.agg84 J J (nl (th (sq (sq (rg (fP J T.fld43_1 (lP J J J T.one41 (iPA J J T.arr84 T.one3 J (lP J J J T.one3 (iF J J T.sl41 O gB (lF J J T.one103 (fc (slenI 53 J) fun hm53=>(lnF J T.sl103 (mv (nl (th (bk ?_)))))))))))))))))))))))))))))))))))
   have hI1_0:0≤(ix m.sT ((ix q i).1).toNat).length:=by
    first|omega|simp
   have hI1_1:PN m n i (ix q i) q mm outs 0 0 ([]:List (Int × Int))∧c≤cntP m n q i+0*(ix n.sT (ix q i).2.toNat).length:=by
    exact⟨pn_zero hPI hc1,O⟩
   refine lp (κ:=Nat × Nat × Value × (List (Int × Int)) × (List ((Int × Int) × Int)) × Value × (List (Int × Int))) (fun p=> [(2,ptr 2 b2 0),(3,ptr 3 b3 0),(4,ptr 4 b4 0),(8,mpv 29 b29),(9,osl 33 p.2.2.1),(10,ptr 10 b10 0),(11,int (p.2.1:Int)),(12,int (i:Int)),(13,osl 13 p.2.2.2.2.2.1),(14,ptr 14 b14 0),(53,sl 2 pE (ix m.sT ((ix q i).1).toNat)),(54,int ((ix m.sT ((ix q i).1).toNat).length:Int)),(55,int (p.1:Int))]) (fun p=> [(2,cell b2 [sl 1 rE_ m.aC,sl 1 gE m.sT]),(3,cell b3 [sl 1 rE_ n.aC,sl 1 gE n.sT]),(4,cell b4 [eqv (.slice none 0 0),eqv (.slice none 0 0)]),(10,cell b10 [sl 1 rE_ m.aC,osl 130 uo]),(13,own p.2.2.2.2.2.1 105 2 pE p.2.2.2.2.2.2),(14,cell b14 [int ((ix q i).1),int ((ix q i).2)]),(29,mp b29 pairV pairD intV p.2.2.2.2.1),(33,own p.2.2.1 84 2 pE p.2.2.2.1),(130,own uo 103 1 gE outs)]) (fun p=>(p.1≤(ix m.sT ((ix q i).1).toNat).length)∧(PN m n i (ix q i) p.2.2.2.1 p.2.2.2.2.1 outs p.1 0 p.2.2.2.2.2.2∧p.2.1≤cntP m n p.2.2.2.1 i+p.1*(ix n.sT (ix q i).2.toNat).length)) (fun p=>(ix m.sT ((ix q i).1).toNat).length- p.1) ⟨0,c,v,q,mm,(.slice none 0 0),([]:List (Int × Int))⟩ ⟨hI1_0,hI1_1⟩ ⟨id,id,id,id,id,id,id,id,id,id,id,id,id,tV⟩ ⟨rI,rI,rI,rI,rI,rI,rI,rI,rI,tV⟩ ?_
   intro⟨k1,c1,v1,q1,mm1,w1,l1⟩ hG1
   obtain⟨hk1,⟨hPN1,hcn1⟩⟩:(k1≤(ix m.sT ((ix q i).1).toNat).length)∧(PN m n i (ix q i) q1 mm1 outs k1 0 l1∧c1≤cntP m n q1 i+k1*(ix n.sT (ix q i).2.toNat).length):=hG1
   show Ct _ _ _ _ [(2,ptr 2 b2 0),(3,ptr 3 b3 0),(4,ptr 4 b4 0),(8,mpv 29 b29),(9,osl 33 v1),(10,ptr 10 b10 0),(11,int (c1:Int)),(12,int (i:Int)),(13,osl 13 w1),(14,ptr 14 b14 0),(53,sl 2 pE (ix m.sT ((ix q i).1).toNat)),(54,int ((ix m.sT ((ix q i).1).toNat).length:Int)),(55,int (k1:Int))] [(2,cell b2 [sl 1 rE_ m.aC,sl 1 gE m.sT]),(3,cell b3 [sl 1 rE_ n.aC,sl 1 gE n.sT]),(4,cell b4 [eqv (.slice none 0 0),eqv (.slice none 0 0)]),(10,cell b10 [sl 1 rE_ m.aC,osl 130 uo]),(13,own w1 105 2 pE l1),(14,cell b14 [int ((ix q i).1),int ((ix q i).2)]),(29,mp b29 pairV pairD intV mm1),(33,own v1 84 2 pE q1),(130,own uo 103 1 gE outs)] _
   have hql1:=pi_few hPN1.pi
   have hcl1:=cnt_le hPN1.pi (i+1)
   have hll1:l1.length≤k1*(ix n.sT (ix q i).2.toNat).length+0:=pn_few hPN1
   have hcs1:=cnt_succ (m:=m) (n:=n) hPN1.hi
   rw[hPN1.pe] at hcs1
   have hw1:wgt m n (ix q i)=(ix m.sT (ix q i).1.toNat).length*(ix n.sT (ix q i).2.toNat).length:=rfl
   have hk8:k1*(ix n.sT (ix q i).2.toNat).length≤(ix m.sT (ix q i).1.toNat).length*(ix n.sT (ix q i).2.toNat).length:=Nat.mul_le_mul_right _ O
   refine sq (rg (bi J J b_lss (nl (th (sq ?_)))))
   refine cd J (fun hc2=> ?_) (fun hc2=> ?_)
   ·try simp at hc2
    have hdd:0≤(ix (ix m.sT (ix q i).1.toNat) k1).1∧(ix (ix m.sT (ix q i).1.toNat) k1).1<(m.aC.length:Int)∧0≤(ix (ix m.sT (ix q i).1.toNat) k1).2∧(ix (ix m.sT (ix q i).1.toNat) k1).2<(m.sT.length:Int):=hm.ed _ O _ (ix_memS hc2)
    refine sk (th (sq (bk (sq (rg (iF J J T.sl103 O gB (lFA J T.agg105 (Nat.le_of_ble_eq_true J) (al (key:=16) T.z105 (eC (eC eZ)) fun b16=>(sPA (cs':= [int ((ix (ix m.sT ((ix q i).1).toNat) k1).1),int ((ix (ix m.sT ((ix q i).1).toNat) k1).2)]) J J J T.agg105 J J (nl (th (sq (rg (fP J T.fld43_1 (lP J J J T.one41 (iPA J J T.arr84 T.one3 J (lP J J J T.one3 (iF J J T.sl41 O gB (lF J J T.one103 (fc (slenI 64 J) fun hm64=>(lnF J T.sl103 (mv (nl (th (bk ?_)))))))))))))))))))))))))
    have hI2_0:0≤(ix n.sT ((ix q i).2).toNat).length:=by
     first|omega|simp
    have hI2_1:PN m n i (ix q i) q1 mm1 outs k1 0 l1∧c1≤cntP m n q1 i+k1*(ix n.sT (ix q i).2.toNat).length+0:=by
     exact⟨hPN1,O⟩
    refine lp (κ:=Nat × Nat × Value × (List (Int × Int)) × (List ((Int × Int) × Int)) × Value × (List (Int × Int))) (fun p=> [(2,ptr 2 b2 0),(3,ptr 3 b3 0),(4,ptr 4 b4 0),(8,mpv 29 b29),(9,osl 33 p.2.2.1),(10,ptr 10 b10 0),(11,int (p.2.1:Int)),(12,int (i:Int)),(13,osl 13 p.2.2.2.2.2.1),(14,ptr 14 b14 0),(16,ptr 16 b16 0),(53,sl 2 pE (ix m.sT ((ix q i).1).toNat)),(54,int ((ix m.sT ((ix q i).1).toNat).length:Int)),(55,int (k1:Int)),(64,sl 2 pE (ix n.sT ((ix q i).2).toNat)),(65,int ((ix n.sT ((ix q i).2).toNat).length:Int)),(66,int (p.1:Int))]) (fun p=> [(2,cell b2 [sl 1 rE_ m.aC,sl 1 gE m.sT]),(3,cell b3 [sl 1 rE_ n.aC,sl 1 gE n.sT]),(4,cell b4 [eqv (.slice none 0 0),eqv (.slice none 0 0)]),(10,cell b10 [sl 1 rE_ m.aC,osl 130 uo]),(13,own p.2.2.2.2.2.1 105 2 pE p.2.2.2.2.2.2),(14,cell b14 [int ((ix q i).1),int ((ix q i).2)]),(16,cell b16 [int ((ix (ix m.sT ((ix q i).1).toNat) k1).1),int ((ix (ix m.sT ((ix q i).1).toNat) k1).2)]),(29,mp b29 pairV pairD intV p.2.2.2.2.1),(33,own p.2.2.1 84 2 pE p.2.2.2.1),(130,own uo 103 1 gE outs)]) (fun p=>(p.1≤(ix n.sT ((ix q i).2).toNat).length)∧(PN m n i (ix q i) p.2.2.2.1 p.2.2.2.2.1 outs k1 p.1 p.2.2.2.2.2.2∧p.2.1≤cntP m n p.2.2.2.1 i+k1*(ix n.sT (ix q i).2.toNat).length+p.1)) (fun p=>(ix n.sT ((ix q i).2).toNat).length- p.1) ⟨0,c1,v1,q1,mm1,w1,l1⟩ ⟨hI2_0,hI2_1⟩ ⟨id,id,id,id,id,id,id,id,id,id,id,id,id,id,id,id,id,tV⟩ ⟨rI,rI,rI,rI,rI,rI,rI,rI,rI,rI,tV⟩ ?_
    intro⟨k2,c2,v2,q2,mm2,w2,l2⟩ hG2
    obtain⟨hk2,⟨hPN2,hcn2⟩⟩:(k2≤(ix n.sT ((ix q i).2).toNat).length)∧(PN m n i (ix q i) q2 mm2 outs k1 k2 l2∧c2≤cntP m n q2 i+k1*(ix n.sT (ix q i).2.toNat).length+k2):=hG2
    show Ct _ _ _ _ [(2,ptr 2 b2 0),(3,ptr 3 b3 0),(4,ptr 4 b4 0),(8,mpv 29 b29),(9,osl 33 v2),(10,ptr 10 b10 0),(11,int (c2:Int)),(12,int (i:Int)),(13,osl 13 w2),(14,ptr 14 b14 0),(16,ptr 16 b16 0),(53,sl 2 pE (ix m.sT ((ix q i).1).toNat)),(54,int ((ix m.sT ((ix q i).1).toNat).length:Int)),(55,int (k1:Int)),(64,sl 2 pE (ix n.sT ((ix q i).2).toNat)),(65,int ((ix n.sT ((ix q i).2).toNat).length:Int)),(66,int (k2:Int))] [(2,cell b2 [sl 1 rE_ m.aC,sl 1 gE m.sT]),(3,cell b3 [sl 1 rE_ n.aC,sl 1 gE n.sT]),(4,cell b4 [eqv (.slice none 0 0),eqv (.slice none 0 0)]),(10,cell b10 [sl 1 rE_ m.aC,osl 130 uo]),(13,own w2 105 2 pE l2),(14,cell b14 [int ((ix q i).1),int ((ix q i).2)]),(16,cell b16 [int ((ix (ix m.sT ((ix q i).1).toNat) k1).1),int ((ix (ix m.sT ((ix q i).1).toNat) k1).2)]),(29,mp b29 pairV pairD intV mm2),(33,own v2 84 2 pE q2),(130,own uo 103 1 gE outs)] _
    have hql2:=pi_few hPN2.pi
    have hll2:l2.length≤k1*(ix n.sT (ix q i).2.toNat).length+k2:=pn_few hPN2
    refine sq (rg (bi J J b_lss (nl (th (sq ?_)))))
    refine cd J (fun hc3=> ?_) (fun hc3=> ?_)
    ·try simp at hc3
     have hee:0≤(ix (ix n.sT (ix q i).2.toNat) k2).1∧(ix (ix n.sT (ix q i).2.toNat) k2).1<(n.aC.length:Int)∧0≤(ix (ix n.sT (ix q i).2.toNat) k2).2∧(ix (ix n.sT (ix q i).2.toNat) k2).2<(n.sT.length:Int):=hn.ed _ O _ (ix_memS hc3)
     have hi2:=hPN2.hi
     have hcs:=cnt_succ (m:=m) (n:=n) hi2
     have hcl:=cnt_le hPN2.pi (i+1)
     rw[hPN2.pe] at hcs
     have hw:wgt m n (ix q i)=(ix m.sT (ix q i).1.toNat).length*(ix n.sT (ix q i).2.toNat).length:=rfl
     have hk9:(k1+1)*(ix n.sT (ix q i).2.toNat).length≤(ix m.sT (ix q i).1.toNat).length*(ix n.sT (ix q i).2.toNat).length:=Nat.mul_le_mul_right _ hc2
     rw[Nat.add_mul] at hk9
     have hc9:c2+1≤400000:=by omega
     refine sk (th (sq (bk (sq (rg (iF J J T.sl103 O gB (lFA J T.agg105 (Nat.le_of_ble_eq_true J) (al (key:=18) T.z105 (eC (eC eZ)) fun b18=>(sPA (cs':= [int ((ix (ix n.sT ((ix q i).2).toNat) k2).1),int ((ix (ix n.sT ((ix q i).2).toNat) k2).2)]) J J J T.agg105 J J (nl (th (sq (sq (rg (fP J T.fld105_0 (lP J J J T.one3 (fP J T.fld105_0 (lP J J J T.one3 (bi J J b_neq (nl (th ?_)))))))))))))))))))))
     refine cd J (fun hc4=> ?_) (fun hc4=> ?_)
     ·try simp at hc4
      refine ex (xt_ (xb (th (rg (bi J J (b_add i6) (mv (nl ?_)))))))
      have hN0:(k2+1)≤(ix n.sT ((ix q i).2).toNat).length:=by
       first|omega|simp_all
      have hN1:PN m n i (ix q i) q2 mm2 outs k1 (k2+1) l2∧c2≤cntP m n q2 i+k1*(ix n.sT (ix q i).2.toNat).length+(k2+1):=by
       exact⟨pn_skip hPN2 hc3 (by simpa using hc4),O⟩
      exact ln (⟨k2+1,c2,v2,q2,mm2,w2,l2⟩:Nat × Nat × Value × (List (Int × Int)) × (List ((Int × Int) × Int)) × Value × (List (Int × Int))) ⟨hN0,hN1⟩ dO ⟨id,id,id,id,id,id,id,id,id,id,id,id,id,id,id,id,id,tV⟩ ⟨rI,rI,rI,rI,rI,rI,rI,rI,rI,rI,tV⟩
     ·try simp at hc4
      have hde:(ix (ix m.sT (ix q i).1.toNat) k1).1=(ix (ix n.sT (ix q i).2.toNat) k2).1:=by simpa using hc4
      refine sk (th (sq (rg (fP J T.fld105_1 (lP J J J T.one3 (fP J T.fld105_1 (lP J J J T.one3 (bd (css:= [(0,_),(1,_)]) T.st84 (eC (eC eZ)) ⟨J,J,p1 (φ:=int ((ix (ix m.sT ((ix q i).1).toNat) k1).2)) J,⟨J,J,p1 (φ:=int ((ix (ix n.sT ((ix q i).2).toNat) k2).2)) J,tV⟩⟩ (al (key:=19) T.z84 (eC (eC eZ)) fun b19=>(sPA (cs':= [int ((ix (ix m.sT ((ix q i).1).toNat) k1).2),int ((ix (ix n.sT ((ix q i).2).toNat) k2).2)]) J J J T.agg84 J J (nl (th (sq (rg (mv (lPA J J T.agg84 J (lookup2 (z:=(0:Int)) (q:=((ix (ix m.sT ((ix q i).1).toNat) k1).2,(ix (ix n.sT ((ix q i).2).toNat) k2).2)) J J agg_pair T.map126 ⟨⟨O,O⟩,⟨O,O⟩⟩ T.zvi3 (mv (xt J J (xt J J (ag (ag (nl (th (sq (sq (rg (mv (no J (nl (th ?_)))))))))))))))))))))))))))))))
      refine cd J (fun hc5=> ?_) (fun hc5=> ?_)
      ·try simp at hc5
       refine sq (rg (mv (lnO J J T.sl67 (ag (nl (th (sq (sq (rg (mv (bi J J b_eql (nl (th ?_)))))))))))))
       refine cd J (fun hc6=> ?_) (fun hc6=> ?_)
       ·try simp at hc6
        have hff:False:=by omega
        refine sq (rg (bd (css:= []) T.st43 (eC (eC eZ)) trivial (sPA (cs':= [eqv (.slice none 0 0),eqv (.slice none 0 0)]) J J J T.agg43 J J (ag (ag (nl (th (rt (rt_ (rt_ (rb (rt_ (rt_ (rb (rb (rt_ (rt_ (rb (rt_ (rb (rt_ (rt_ (rb (rt_ ?_))))))))))))))))))))))))
        refine kncA 4 0 (sl 1 rE_ []) rfl rfl slnil ?_
        refine kncA 4 1 (sl 1 gE []) rfl rfl slnil ?_
        refine knA 5 (sl 2 pE []) rfl slnil ?_
        have hr0:(2:Int)=(bothS m n):=by
         exact hff.elim
        exact rE ⟨(⟨[],[]⟩,[]),⟨fun _=>J,fun _=>hff.elim⟩⟩ [.cell 4 43,.tmp 5,.tmp 6] J [agg [sl 1 rE_ [],sl 1 gE []],sl 2 pE [],int 2] ⟨.agg J J T.agg43 J J,.tmp J,.tmp J,tV⟩ (cA1 (fun x0=>rV [agg [sl 1 rE_ [],sl 1 gE []],sl 2 pE [],int x0]) hr0) trivial eX
       ·try simp at hc6
        refine sk (th (sq (rg (mv (lPA J J T.agg84 J (mv (mapUpdate (q:=((ix (ix m.sT ((ix q i).1).toNat) k1).2,(ix (ix n.sT ((ix q i).2).toNat) k2).2)) (u:=(q2.length:Int)) J J agg_pair J T.map126 ⟨⟨O,O⟩,⟨O,O⟩⟩ (nl (th (rg (mv (lPA J J T.agg84 J (bsE (enc:=pE) (xs:= [((ix (ix m.sT ((ix q i).1).toNat) k1).2,(ix (ix n.sT ((ix q i).2).toNat) k2).2)]) (css:= [[int ((ix (ix m.sT ((ix q i).1).toNat) k1).2),int ((ix (ix n.sT ((ix q i).2).toNat) k2).2)]]) T.mk67 ⟨J,J,pA (cs:= [int ((ix (ix m.sT ((ix q i).1).toNat) k1).2),int ((ix (ix n.sT ((ix q i).2).toNat) k2).2)]) J,tV⟩ J J J J (ap (key:=33) (zs:= [((ix (ix m.sT ((ix q i).1).toNat) k1).2,(ix (ix n.sT ((ix q i).2).toNat) k2).2)]) osl_eq J J J T.mk67 (by unfold maxL at*;simp;omega) (by unfold maxL at*;simp;omega) fun v99=>(ag (nl (th (sq (sq (rg (mv (bi J J (b_add i6) (ag (nl (th (sq (rg (mv (bi J J b_gtr (nl (th ?_)))))))))))))))))))))))))))))))
        refine cd J (fun hc7=> ?_) (fun hc7=> ?_)
        ·try simp at hc7
         have hff:False:=by omega
         refine sq (rg (bd (css:= []) T.st43 (eC (eC eZ)) trivial (sPA (cs':= [eqv (.slice none 0 0),eqv (.slice none 0 0)]) J J J T.agg43 J J (ag (ag (nl (th (rt (rt_ (rb (rt_ (rt_ (rb (rb (rt_ (rt_ (rb (rt_ (rb (rt_ (rt_ (rb (rt_ ?_)))))))))))))))))))))))
         refine kncA 4 0 (sl 1 rE_ []) rfl rfl slnil ?_
         refine kncA 4 1 (sl 1 gE []) rfl rfl slnil ?_
         refine knA 5 (sl 2 pE []) rfl slnil ?_
         have hr0:(2:Int)=(bothS m n):=by
                    exact hff.elim
         exact rE ⟨(⟨[],[]⟩,[]),⟨fun _=>J,fun _=>hff.elim⟩⟩ [.cell 4 43,.tmp 5,.tmp 6] J [agg [sl 1 rE_ [],sl 1 gE []],sl 2 pE [],int 2] ⟨.agg J J T.agg43 J J,.tmp J,.tmp J,tV⟩ (cA1 (fun x0=>rV [agg [sl 1 rE_ [],sl 1 gE []],sl 2 pE [],int x0]) hr0) trivial eX
        ·try simp at hc7
         refine sk (th (rg (mv (fP J T.fld105_0 (lP J J J T.one3 (mv (bd (css:= [(0,_),(1,_)]) T.st105 (eC (eC eZ)) ⟨J,J,p1 (φ:=int ((ix (ix m.sT ((ix q i).1).toNat) k1).1)) J,⟨J,J,p1 (φ:=int (q2.length:Int)) J,tV⟩⟩ (bsE (enc:=pE) (xs:= [((ix (ix m.sT ((ix q i).1).toNat) k1).1,(q2.length:Int))]) (css:= [[int ((ix (ix m.sT ((ix q i).1).toNat) k1).1),int (q2.length:Int)]]) T.mk103 ⟨J,J,pA (cs:= [int ((ix (ix m.sT ((ix q i).1).toNat) k1).1),int (q2.length:Int)]) J,tV⟩ J J J J (ap (key:=13) (zs:= [((ix (ix m.sT ((ix q i).1).toNat) k1).1,(q2.length:Int))]) osl_eq J J J T.mk103 (by unfold maxL at*;simp;omega) (by unfold maxL at*;simp;omega) fun v111=>(ag (nl (eb (th (rg (bi J J (b_add i6) (mv (nl ?_)))))))))))))))))
         have hN0:(k2+1)≤(ix n.sT (((ix q i).2).toNat)).length:=by
                    first|omega|simp_all
         have hN1:PN m n i (ix q i) (q2++ [((ix (ix m.sT (((ix q i).1).toNat)) k1).2,(ix (ix n.sT (((ix q i).2).toNat)) k2).2)]) (mset mm2 ((ix (ix m.sT (((ix q i).1).toNat)) k1).2,(ix (ix n.sT (((ix q i).2).toNat)) k2).2) (q2.length:Int)) outs k1 (k2+1) (l2++ [((ix (ix m.sT (((ix q i).1).toNat)) k1).1,(q2.length:Int))])∧(c2+1)≤cntP m n (q2++ [((ix (ix m.sT (((ix q i).1).toNat)) k1).2,(ix (ix n.sT (((ix q i).2).toNat)) k2).2)]) i+k1*(ix n.sT (ix q i).2.toNat).length+(k2+1):=by
                    refine⟨pn_new hPN2 hc3 hde ⟨hdd.2.2.1,hdd.2.2.2,hee.2.2.1,hee.2.2.2⟩ (by simpa using hc5),?_⟩
                    rw[cnt_app O]
                    omega
         exact ln (⟨k2+1,c2+1,v99,q2++ [((ix (ix m.sT ((ix q i).1).toNat) k1).2,(ix (ix n.sT ((ix q i).2).toNat) k2).2)],mset mm2 ((ix (ix m.sT ((ix q i).1).toNat) k1).2,(ix (ix n.sT ((ix q i).2).toNat) k2).2) (q2.length:Int),v111,l2++ [((ix (ix m.sT ((ix q i).1).toNat) k1).1,(q2.length:Int))]⟩:Nat × Nat × Value × (List (Int × Int)) × (List ((Int × Int) × Int)) × Value × (List (Int × Int))) ⟨hN0,hN1⟩ dO ⟨id,id,id,id,id,id,id,id,id,id,id,id,id,id,id,id,id,tV⟩ ⟨rI,rI,rI,rI,rI,rI,rI,rI,rI,rI,tV⟩
      ·try simp at hc5
       refine sk (th (sq (sq (rg (mv (bi J J (b_add i6) (ag (nl (th (sq (rg (mv (bi J J b_gtr (nl (th ?_)))))))))))))))
       refine cd J (fun hc8=> ?_) (fun hc8=> ?_)
       ·try simp at hc8
        have hff:False:=by omega
        refine sq (rg (bd (css:= []) T.st43 (eC (eC eZ)) trivial (sPA (cs':= [eqv (.slice none 0 0),eqv (.slice none 0 0)]) J J J T.agg43 J J (ag (ag (nl (th (rt (rt_ (rb (rt_ (rt_ (rb (rb (rt_ (rt_ (rb (rt_ (rb (rt_ (rt_ (rb (rt_ ?_)))))))))))))))))))))))
        refine kncA 4 0 (sl 1 rE_ []) rfl rfl slnil ?_
        refine kncA 4 1 (sl 1 gE []) rfl rfl slnil ?_
        refine knA 5 (sl 2 pE []) rfl slnil ?_
        have hr0:(2:Int)=(bothS m n):=by
         exact hff.elim
        exact rE ⟨(⟨[],[]⟩,[]),⟨fun _=>J,fun _=>hff.elim⟩⟩ [.cell 4 43,.tmp 5,.tmp 6] J [agg [sl 1 rE_ [],sl 1 gE []],sl 2 pE [],int 2] ⟨.agg J J T.agg43 J J,.tmp J,.tmp J,tV⟩ (cA1 (fun x0=>rV [agg [sl 1 rE_ [],sl 1 gE []],sl 2 pE [],int x0]) hr0) trivial eX
       ·try simp at hc8
        refine sk (th (rg (mv (fP J T.fld105_0 (lP J J J T.one3 (mv (bd (css:= [(0,_),(1,_)]) T.st105 (eC (eC eZ)) ⟨J,J,p1 (φ:=int ((ix (ix m.sT ((ix q i).1).toNat) k1).1)) J,⟨J,J,p1 (φ:=int ((mget mm2 ((ix (ix m.sT ((ix q i).1).toNat) k1).2,(ix (ix n.sT ((ix q i).2).toNat) k2).2)).getD (0:Int))) J,tV⟩⟩ (bsE (enc:=pE) (xs:= [((ix (ix m.sT ((ix q i).1).toNat) k1).1,(mget mm2 ((ix (ix m.sT ((ix q i).1).toNat) k1).2,(ix (ix n.sT ((ix q i).2).toNat) k2).2)).getD (0:Int))]) (css:= [[int ((ix (ix m.sT ((ix q i).1).toNat) k1).1),int ((mget mm2 ((ix (ix m.sT ((ix q i).1).toNat) k1).2,(ix (ix n.sT ((ix q i).2).toNat) k2).2)).getD (0:Int))]]) T.mk103 ⟨J,J,pA (cs:= [int ((ix (ix m.sT ((ix q i).1).toNat) k1).1),int ((mget mm2 ((ix (ix m.sT ((ix q i).1).toNat) k1).2,(ix (ix n.sT ((ix q i).2).toNat) k2).2)).getD (0:Int))]) J,tV⟩ J J J J (ap (key:=13) (zs:= [((ix (ix m.sT ((ix q i).1).toNat) k1).1,(mget mm2 ((ix (ix m.sT ((ix q i).1).toNat) k1).2,(ix (ix n.sT ((ix q i).2).toNat) k2).2)).getD (0:Int))]) osl_eq J J J T.mk103 (by unfold maxL at*;simp;omega) (by unfold maxL at*;simp;omega) fun v111=>(ag (nl (eb (th (rg (bi J J (b_add i6) (mv (nl ?_)))))))))))))))))
        have hN0:(k2+1)≤(ix n.sT ((ix q i).2).toNat).length:=by
         first|omega|simp_all
        have hN1:PN m n i (ix q i) q2 mm2 outs k1 (k2+1) (l2++ [((ix (ix m.sT ((ix q i).1).toNat) k1).1,(mget mm2 ((ix (ix m.sT ((ix q i).1).toNat) k1).2,(ix (ix n.sT ((ix q i).2).toNat) k2).2)).getD (0:Int))])∧(c2+1)≤cntP m n q2 i+k1*(ix n.sT (ix q i).2.toNat).length+(k2+1):=by
         exact⟨pn_old hPN2 hc3 hde (by simpa using hc5),O⟩
        exact ln (⟨k2+1,c2+1,v2,q2,mm2,v111,l2++ [((ix (ix m.sT ((ix q i).1).toNat) k1).1,(mget mm2 ((ix (ix m.sT ((ix q i).1).toNat) k1).2,(ix (ix n.sT ((ix q i).2).toNat) k2).2)).getD (0:Int))]⟩:Nat × Nat × Value × (List (Int × Int)) × (List ((Int × Int) × Int)) × Value × (List (Int × Int))) ⟨hN0,hN1⟩ dO ⟨id,id,id,id,id,id,id,id,id,id,id,id,id,id,id,id,id,tV⟩ ⟨rI,rI,rI,rI,rI,rI,rI,rI,rI,rI,tV⟩
    ·try simp at hc3
     refine ex (xt_ (xt_ (xb (eb (th (rg (bi J J (b_add i6) (mv (nl ?_)))))))))
     have hN0:(k1+1)≤(ix m.sT ((ix q i).1).toNat).length:=by
      first|omega|simp_all
     have hN1:PN m n i (ix q i) q2 mm2 outs (k1+1) 0 l2∧c2≤cntP m n q2 i+(k1+1)*(ix n.sT (ix q i).2.toNat).length:=by
      refine⟨pn_row hPN2 hc2 (by show(ix n.sT (ix q i).2.toNat).length≤k2;omega),?_⟩
      rw[Nat.add_mul]
      omega
     exact ln (⟨k1+1,c2,v2,q2,mm2,w2,l2⟩:Nat × Nat × Value × (List (Int × Int)) × (List ((Int × Int) × Int)) × Value × (List (Int × Int))) ⟨hN0,hN1⟩ dO ⟨id,id,id,id,id,id,id,id,id,id,id,id,id,tV⟩ ⟨rI,rI,rI,rI,rI,rI,rI,rI,rI,tV⟩
   ·try simp at hc2
    refine ex (xt_ (xt_ (xb (th (sq (rg (mv ?_)))))))
    have hbd:∀p∈l1,bdP p:=fun p hp=>by
     have:=pn_bd hm hPN1 p hp
     unfold bdP;omega
    refine cal (Hi:= [(13,own w1 105 2 pE l1)]) (φs:= [osl 5 w1,eqv (.func (.func 98) #[] #[])]) ⟨osl_is.trans osl_is.symm,rfl,tV⟩ (rekeyIO 5 13 (sortE.SortcmpO_ok w1 l1 aS)) T.ent97 ⟨rI,tV⟩ fun _ _=>(nl (th (rg (fP rfl T.fld43_1 (lP rfl rfl rfl T.one41 (mv (fz 13 118 rfl rfl (bsE (enc:=gE) (xs:= [(sortP l1)]) (css:= [[sl 2 pE (sortP l1)]]) T.mk41 ⟨rfl,rfl,p1 (φ:=sl 2 pE (sortP l1)) rfl,tV⟩ rfl rfl rfl rfl (ap (key:=130) (zs:= [(sortP l1)]) osl_eq rfl rfl rfl T.mk41 (by unfold maxL at*;simp;omega) (by unfold maxL at*;simp;omega) fun v120=>(fP rfl T.fld43_1 (storePO rfl rfl rfl rfl T.one41 rfl (nl (eb (th (rg (mv (bi rfl rfl (b_add i6) (ag (nl ?_)))))))))))))))))))
    have hN0:PI m n (i+1) q1 mm1 (outs++ [(sortP l1)])∧c1≤cntP m n q1 (i+1):=by
     refine⟨pn_end hPN1 rfl (by show(ix m.sT (ix q i).1.toNat).length≤k1;omega),?_⟩
     have hcs:=cnt_succ (m:=m) (n:=n) hPN1.hi
     rw[hPN1.pe] at hcs
     have hw:wgt m n (ix q i)=(ix m.sT (ix q i).1.toNat).length*(ix n.sT (ix q i).2.toNat).length:=rfl
     have hk9:k1*(ix n.sT (ix q i).2.toNat).length≤(ix m.sT (ix q i).1.toNat).length*(ix n.sT (ix q i).2.toNat).length:=Nat.mul_le_mul_right _ O
     omega
    exact ln (⟨i+1,c1,v1,q1,mm1,v120,outs++ [(sortP l1)]⟩:Nat × Nat × Value × (List (Int × Int)) × (List ((Int × Int) × Int)) × Value × (List (List (Int × Int)))) hN0 dO ⟨id,id,id,id,id,id,id,id,tV⟩ ⟨rI,rI,rI,rI,rI,rI,rI,tV⟩
  ·try simp at hc1
   refine ex (xt_ (xt_ (xb (th (sq (rg (fzc 10 130 1 J J J J (lPA J J T.agg43 J (mv (sPA (cs':= [sl 1 rE_ m.aC,sl 1 gE outs]) J J J T.agg43 J J (ag (ag (nl (th (rt ?_)))))))))))))))
   refine fzA 33 5 rfl rfl ?_
   have hr0:(0:Int)=(bothS m n):=by
    exact hc0.symm
   exact rE ⟨(⟨m.aC,outs⟩,q),⟨fun h=>absurd hc0 h,fun _=>prod_ok hPI O⟩⟩ [.cell 4 43,.tmp 5,.tmp 6] J [agg [sl 1 rE_ m.aC,sl 1 gE outs],sl 2 pE q,int 0] ⟨.agg J J T.agg43 J J,.tmp J,.tmp J,tV⟩ (cA1 (fun x0=>rV [agg [sl 1 rE_ m.aC,sl 1 gE outs],sl 2 pE q,int x0]) hr0) trivial eX
end prodw
end
section
namespace EncM2
open EncM JudgM ref01
def encJ (v:VJ):Value:=encZ (⟨[],[v.pairs,v.word.map fun a=>(a,0),[(if v.holds then 1 else 0,v.state)]]⟩,0)
noncomputable def decJ (x:Value):VJ:=let m:=(decZ x).1;⟨decide ((ix (ix m.sT 2) 0).1=1),ix m.sT 0,(ix m.sT 1).map Prod.fst,(ix (ix m.sT 2) 0).2⟩
theorem decJ_enc (v:VJ):decJ (encJ v)=v:=by
 obtain⟨b,ps,w,st⟩:=v
 unfold decJ encJ
 rw[dec_enc]
 show(⟨decide ((if b=true then(1:Int) else 0)=1),ps,(w.map fun a=>(a,(0:Int))).map Prod.fst,st⟩:VJ)=_
 have e1:(w.map fun a=>(a,(0:Int))).map Prod.fst=w:=by
  rw[List.map_map]
  exact List.map_id' w
 rw[e1]
 cases b<;>rfl
def encP (z:SSys × List (Int × Int)):Value:=encZ (⟨z.1.aC,z.2::z.1.sT⟩,0)
noncomputable def decP (x:Value):SSys × List (Int × Int):=let m:=(decZ x).1;(⟨m.aC,m.sT.tail⟩,ix m.sT 0)
theorem decP_enc (z:SSys × List (Int × Int)):decP (encP z)=z:=by
 obtain⟨⟨a,s⟩,q⟩:=z
 unfold decP encP
 rw[dec_enc];rfl
end EncM2
end
section
namespace SatC
open ref01 ref03 ref04 ref06 Part Rungs LeftM TrimM RoundM MergeM BisM BisM4 BisM5 BisM6 Keys WalkM WitM JudgM LevM divr divs divd dive divf divv judg sysw satj ChsM BisS TrimI QuoM FailM DivM RefM GenW CompM CompP prodp TogM ProdM BesM
theorem sat_inT {m:SSys} {s:SS} (hs:oK s) (h:SatM m s):SatM m (tR s).1:=by
 unfold SatM at h ⊢
 rw[sat_solid hs (off_ok m)] at h
 rw[sat_solid (trim_ok hs) (off_ok m)]
 exact sat_sim h (sim_trim hs).symm
theorem sat_no0 {m:SSys} {s:SS} (hs:oK s) (h:SatM m s):ix (hOl s) 0=false:=by
 obtain⟨R,hR,h0⟩:=h
 exact sat_not hs (off_ok m) hR h0
variable {m n k:SSys} {q:List PP}
theorem has_off {m:SSys} {x:Nat} {d:PP} (hd:d∈edg m x):has (offM m x) ((d.1.toNat:Nat):Int)=true:=off_has.2 ⟨d,hd,rfl⟩
theorem com_satD (hm:okSys m) (hn:okSys n) {S U:SS} (hS:oK S) (hU:oK U) (h:ProdOK m n k q) (h1:SatM m S) (h2:SatM n U):SatM k (compD S U):=by
 obtain⟨R1,hR1,r1⟩:=h1
 obtain⟨R2,hR2,r2⟩:=h2
 have hN:=c_numb hS hU
 have hok:=(c_walk hS hU).ok
 refine⟨fun i y=>i<q.length∧y<(cL S U).length∧R1 (ix q i).1.toNat (ix (cL S U) y).1.toNat∧R2 (ix q i).2.toNat (ix (cL S U) y).2.toNat,⟨fun {i y} ⟨_,hy,_⟩=>by rw[hN.len];exact hy,fun {i y} ⟨hi,hy,a1,a2⟩=> ?_,fun {i y} ⟨hi,hy,a1,a2⟩ x hx=> ?_,fun {i y} ⟨hi,hy,a1,a2⟩ x hx=> ?_⟩,h.ne,hN.ne,by rw[h.hd,hN.hd];exact r1,by rw[h.hd,hN.hd];exact r2⟩
 ·rw[hN.acc y hy,prod_off hm hn h hi]
  exact(cA_mem hS (hok _ (ix_memS hy))).2 ⟨_,hR1.acc a1,_,hR2.acc a2,rfl⟩
 ·obtain⟨x',hx',rfl⟩:=List.mem_map.1 hx
  obtain⟨d,hd,e,he,hde,rfl⟩:=(prod_mem h hi).1 hx'
  rw[hN.nl y hy]
  have g:=hR1.len a1 (d.1.toNat,d.2.toNat) (List.mem_map.2 ⟨d,hd,rfl⟩)
  have hb:=hR1.bd a1
  have hl:=(hS.st _ hb).len
  show d.1.toNat<S.aC.length
  rw[←hl];exact g
 ·obtain⟨x',hx',rfl⟩:=List.mem_map.1 hx
  obtain⟨d,hd,e,he,hde,rfl⟩:=(prod_mem h hi).1 hx'
  have hbx:=h.box _ (ix_memS hi)
  have bd1:=hm.ed _ O d hd
  have be1:=hn.ed _ O e he
  have hp:=hok _ (ix_memS hy)
  have hin:=h.all i hi d hd e he hde
  have n1:=hR1.nxt a1 (d.1.toNat,d.2.toNat) (List.mem_map.2 ⟨d,hd,rfl⟩)
  have n2:=hR2.nxt a2 (e.1.toNat,e.2.toNat) (List.mem_map.2 ⟨e,he,rfl⟩)
  have hh:has (orAll (cA S U (ix (cL S U) y))) ((d.1.toNat:Nat):Int)=true:=(cA_has hS hp).2 ⟨(orAll_has _ _).2 ⟨_,hR1.acc a1,has_off hd⟩,(orAll_has _ _).2 ⟨_,hR2.acc a2,by rw[hde];exact has_off he⟩⟩
  have hal:=(cN_go hS hU hp hh).1
  have hcl:=hN.cl y hy d.1.toNat hal hh
  have e3:=hN.nx y hy d.1.toNat hal
  rw[if_pos hh] at e3
  show 0≤ix (nxt (compD S U) y) d.1.toNat∧_
  rw[e3]
  refine⟨O,pos_lt hin,?_,?_,?_⟩
  ·rw[Int.toNat_natCast];exact QuoM.idx_lt hcl
  ·show R1 (ix q (pos q ((d.2,e.2):PP))).1.toNat _
   rw[pos_at hin,Int.toNat_natCast,QuoM.idx_at hcl]
   exact n1.2
  ·show R2 (ix q (pos q ((d.2,e.2):PP))).2.toNat _
   rw[pos_at hin,Int.toNat_natCast,QuoM.idx_at hcl]
   rw[←hde] at n2
   exact n2.2
theorem com_sat (hm:okSys m) (hn:okSys n) {s t:SS} (hs:oK s) (ht:oK t) (h:ProdOK m n k q) (h1:SatM m s) (h2:SatM n t) (hq:(comS s t).2=true):SatM k (comS s t).1:=by
 have n1:=sat_no0 hs h1
 have n2:=sat_no0 ht h2
 have hh:¬hol2 s t:=fun g=>g.elim (fun g=>by rw[n1] at g;cases g) (fun g=>by rw[n2] at g;cases g)
 unfold comS at hq ⊢
 rw[if_neg hh] at hq ⊢
 split at hq
 ·next g=>
  rw[if_pos g]
  have hS:=trim_ok hs
  have hU:=trim_ok ht
  exact sat_inT (numc_ok hS hU (c_numc hS hU) O) (com_satD hm hn hS hU h (sat_inT hs h1) (sat_inT ht h2))
 ·cases hq
theorem bes_satD (hm:okSys m) (hn:okSys n) {U:SS} (hU:oK U) (hal:m.aC.length=U.aC.length) (h:ProdOK m n k q) (h2:SatM n U):SatM k (sD m U):=by
 obtain⟨R2,hR2,r2⟩:=h2
 have hN:=s_numb hm hU hal
 have hok:=(s_walk hm hU hal).ok
 refine⟨fun i y=>i<q.length∧y<(sL m U).length∧(ix q i).1∈(ix (sL m U) y).1∧R2 (ix q i).2.toNat (ix (sL m U) y).2.toNat,⟨fun {i y} ⟨_,hy,_⟩=>by rw[hN.len];exact hy,fun {i y} ⟨hi,hy,a1,a2⟩=> ?_,fun {i y} ⟨hi,hy,a1,a2⟩ x hx=> ?_,fun {i y} ⟨hi,hy,a1,a2⟩ x hx=> ?_⟩,h.ne,hN.ne,by rw[h.hd,hN.hd];exact List.mem_singleton.2 rfl,by rw[h.hd,hN.hd];exact r2⟩
 ·rw[hN.acc y hy,prod_off hm hn h hi]
  exact(sA_mem hm (hok _ (ix_memS hy))).2 ⟨_,List.mem_map.2 ⟨_,a1,rfl⟩,_,hR2.acc a2,rfl⟩
 ·obtain⟨x',hx',rfl⟩:=List.mem_map.1 hx
  obtain⟨d,hd,e,he,hde,rfl⟩:=(prod_mem h hi).1 hx'
  have hbx:=h.box _ (ix_memS hi)
  have bd1:=hm.ed _ O d hd
  rw[hN.nl y hy]
  show d.1.toNat<m.aC.length
  omega
 ·obtain⟨x',hx',rfl⟩:=List.mem_map.1 hx
  obtain⟨d,hd,e,he,hde,rfl⟩:=(prod_mem h hi).1 hx'
  have hbx:=h.box _ (ix_memS hi)
  have bd1:=hm.ed _ O d hd
  have be1:=hn.ed _ O e he
  have hp:=hok _ (ix_memS hy)
  have hin:=h.all i hi d hd e he hde
  have n2:=hR2.nxt a2 (e.1.toNat,e.2.toNat) (List.mem_map.2 ⟨e,he,rfl⟩)
  have hh:has (orAll (sA m U (ix (sL m U) y))) ((d.1.toNat:Nat):Int)=true:=(orAll_has _ _).2 ⟨andI (offM m (ix q i).1.toNat) (offM n (ix q i).2.toNat),(sA_mem hm hp).2 ⟨_,List.mem_map.2 ⟨_,a1,rfl⟩,_,hR2.acc a2,rfl⟩,by rw[QuoM.has_and,has_off hd,Bool.true_and,hde];exact has_off he⟩
  have hal2:d.1.toNat<m.aC.length:=by omega
  have hcl:=hN.cl y hy d.1.toNat hal2 hh
  have e3:=hN.nx y hy d.1.toNat hal2
  rw[if_pos hh] at e3
  show 0≤ix (nxt (sD m U) y) d.1.toNat∧_
  rw[e3]
  refine⟨O,pos_lt hin,?_,?_,?_⟩
  ·rw[Int.toNat_natCast];exact QuoM.idx_lt hcl
  ·show(ix q (pos q ((d.2,e.2):PP))).1∈_
   rw[pos_at hin,Int.toNat_natCast,QuoM.idx_at hcl]
   exact next_mem.2 ⟨d.2.toNat,by show d.2=_;omega,O,_,a1,d,hd,O,O⟩
  ·show R2 (ix q (pos q ((d.2,e.2):PP))).2.toNat _
   rw[pos_at hin,Int.toNat_natCast,QuoM.idx_at hcl]
   rw[←hde] at n2
   exact n2.2
theorem bes_sat (hm:okSys m) (hn:okSys n) {t:SS} (hf:fineSE m t=0) (h:ProdOK m n k q) (h2:SatM n t) (hq:(besS m t).2=0):SatM k (besS m t).1:=by
 obtain⟨_,k2,ha⟩:=fineS_ok hf
 have ht:=okSpec_of k2
 have n2:=sat_no0 ht h2
 unfold besS at hq ⊢
 rw[if_pos hf,n2,if_neg (by simp)] at hq ⊢
 split at hq
 ·next g=>
  rw[if_pos g]
  have hU:=trim_ok ht
  have hal:m.aC.length=(tR t).1.aC.length:=by rw[trim_acts,ha]
  exact sat_inT (nums_ok hm hU hal ⟨s_numb hm hU hal,(s_walk hm hU hal).ok,rfl⟩ O) (bes_satD hm hn hU hal h (sat_inT ht h2))
 ·cases hq
end SatC
end
end Go.Proofs.YtcjemmihcplgdaaGreatDoor
