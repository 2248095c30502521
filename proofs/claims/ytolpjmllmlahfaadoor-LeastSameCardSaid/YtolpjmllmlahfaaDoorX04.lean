/- The walks of the functions and the plain laws. Own texts of this claim, packed: ref06, prog, prog2, prog3, prog5, prog4, Rungs. -/
import Derived.Test.YtolpjmllmlahfaaDoorX03
set_option linter.all false
namespace Go.Proofs.YtolpjmllmlahfaaDoor
open AL Go
set_option maxRecDepth 100000
set_option linter.all false
open ref01 ref03 ref04 Part
def stepBad (class_:List Int) (k j:Int):Bool:=(decide (k<0) !=decide (j<0))||(decide (0≤k)&&decide (ix class_ k.toNat≠ix class_ j.toNat))
def alikeNext (class_:List Int) (a b:List Int):Bool:=(List.range a.length).all fun i=> !stepBad class_ (ix a i) (ix b i)
def alike (s:SSpec) (class_:List Int) (x y:Nat):Bool:=decide (ix class_ x=ix class_ y)&&decide ((ix s.states x).accept=(ix s.states y).accept)&&alikeNext class_ (ix s.states x).next (ix s.states y).next
theorem stepBad_iff {cl:List Int} {k j:Int}:stepBad cl k j=false↔(k<0↔j<0)∧(0≤k→ix cl k.toNat=ix cl j.toNat):=by
 unfold stepBad
 by_cases h1:k<0<;>by_cases h2:j<0<;>by_cases h3:ix cl k.toNat=ix cl j.toNat<;>simp[h1,h2,h3]<;>omega
theorem alikeNext_iff {cl a b:List Int}:alikeNext cl a b=true↔∀i,i<a.length→((ix a i<0↔ix b i<0)∧(0≤ix a i→ix cl (ix a i).toNat=ix cl (ix b i).toNat)):=by
 unfold alikeNext
 rw[List.all_eq_true]
 constructor
 ·intro h i hi
  have:=h i (List.mem_range.2 hi)
  exact stepBad_iff.1 (by simpa using this)
 ·intro h i hi
  rw[stepBad_iff.2 (h i (List.mem_range.1 hi))];rfl
theorem alike_iff {s:SSpec} {cl:List Int} {x y:Nat}:alike s cl x y=true↔ix cl x=ix cl y∧(ix s.states x).accept=(ix s.states y).accept∧alikeNext cl (ix s.states x).next (ix s.states y).next=true:=by
 unfold alike;simp only [Bool.and_eq_true,decide_eq_true_eq,and_assoc]
theorem alike_eqOn {s:SSpec} {n m:Nat} (hl:∀x,x<n→(ix s.states x).next.length=m) (cl:List Int):EqOn n (alike s cl) where
 refl:=fun x hx=>alike_iff.2 ⟨rfl,rfl,alikeNext_iff.2 (fun i hi=>⟨Iff.rfl,fun _=>rfl⟩)⟩
 symm:=fun x y hx hy h=>by
  obtain⟨h1,h2,h3⟩:=alike_iff.1 h
  refine alike_iff.2 ⟨h1.symm,h2.symm,alikeNext_iff.2 (fun i hi=> ?_)⟩
  obtain⟨g1,g2⟩:=alikeNext_iff.1 h3 i (by rw[hl x hx];rw[hl y hy] at hi;exact hi)
  exact⟨g1.symm,fun h0=>(g2 (by omega)).symm⟩
 trans:=fun x y z hx hy hz h h'=>by
  obtain⟨h1,h2,h3⟩:=alike_iff.1 h
  obtain⟨k1,k2,k3⟩:=alike_iff.1 h'
  refine alike_iff.2 ⟨h1.trans k1,h2.trans k2,alikeNext_iff.2 (fun i hi=> ?_)⟩
  obtain⟨g1,g2⟩:=alikeNext_iff.1 h3 i hi
  obtain⟨g3,g4⟩:=alikeNext_iff.1 k3 i (by rw[hl y hy];rw[hl x hx] at hi;exact hi)
  exact⟨g1.trans g3,fun h0=>(g2 h0).trans (g4 (by omega))⟩
theorem ix_map_range {α:Type} [Inhabited α] {f:Nat→α} {n x:Nat} (h:x<n):ix ((List.range n).map f) x=f x:=by
 rw[ix_get (by simpa using h)];simp
theorem solid_at {s:SSpec} {x:Nat} (h:x<s.states.length):ix (solid s).states x=solidState s x:=ix_map_range h
theorem solid_len (s:SSpec):(solid s).states.length=s.states.length:=by simp[solid]
theorem cut_len (x:SState) (u:Int):(cut x u).length=x.next.length:=by simp[cut]
theorem cut_ix {x:SState} {u:Int} {a:Nat} (h:a<x.next.length):ix (cut x u) a=if has u (a:Int) then ix x.next a else-1:=ix_map_range h
theorem solid_next {s:SSpec} (h:okSpec s) {x:Nat} (hx:x<s.states.length):(ix (solid s).states x).next.length=s.actions.length:=by
 rw[solid_at hx]
 show(cut _ _).length=_
 rw[cut_len];exact(h.st x hx).len
theorem solid_bd {s:SSpec} (h:okSpec s) {x:Nat} (hx:x<s.states.length) {a:Nat} (ha:a<(ix (solid s).states x).next.length):ix (ix (solid s).states x).next a<(s.states.length:Int):=by
 rw[solid_next h hx] at ha
 rw[solid_at hx]
 show ix (cut _ _) a<_
 rw[cut_ix (by rw[(h.st x hx).len];exact ha)]
 split
 ·exact((h.st x hx).nx a ha).2
 ·omega
noncomputable def itR (s:SSpec):Nat→List Int × Nat
 |0=>(List.replicate s.states.length 0,0)
 |i+1=>((numBy (alike (solid s) (itR s i).1) s.states.length).1,(numBy (alike (solid s) (itR s i).1) s.states.length).2.length)
noncomputable def classesR (s:SSpec):List Int:=(itR s (s.states.length+1)).1
theorem itR_eqOn {s:SSpec} (h:okSpec s) (i:Nat):EqOn s.states.length (alike (solid s) (itR s i).1):=alike_eqOn (fun x hx=>solid_next h hx) _
theorem itR_step {s:SSpec} (h:okSpec s) (i:Nat):(itR s i).2≤(itR s (i+1)).2∧((itR s i).2=(itR s (i+1)).2→itR s (i+1)=itR s i):=by
 cases i with
 |zero=>
  have:=num_pos (rel:=alike (solid s) (itR s 0).1) s.states.length h.few0
  refine⟨Nat.zero_le _,fun e=> ?_⟩
  have e:0=(numBy (alike (solid s) (itR s 0).1) s.states.length).2.length:=e
  omega
 |succ i=>
  have hr:=itR_eqOn h i
  have hr':=itR_eqOn h (i+1)
  obtain⟨h1,h2⟩:=refine_num hr hr' (fun x y hx hy hxy=>by
   have:=(alike_iff.1 hxy).1
   exact((numOK hr s.states.length (Nat.le_refl _)).iff hr (Nat.le_refl _) hx hy).1 this) s.states.length (Nat.le_refl _)
  refine⟨h1,fun e=> ?_⟩
  have:=h2 e
  show((numBy (alike (solid s) (itR s (i+1)).1) s.states.length).1,(numBy (alike (solid s) (itR s (i+1)).1) s.states.length).2.length)=((numBy (alike (solid s) (itR s i).1) s.states.length).1,(numBy (alike (solid s) (itR s i).1) s.states.length).2.length)
  rw[this]
theorem itR_stable {s:SSpec} {i:Nat} (e:itR s (i+1)=itR s i):∀j,itR s (i+j)=itR s i
 |0=>rfl
 |j+1=>by
  have ih:=itR_stable e j
  show itR s (i+j+1)=_
  rw[←e]
  show((numBy (alike (solid s) (itR s (i+j)).1) s.states.length).1,(numBy (alike (solid s) (itR s (i+j)).1) s.states.length).2.length)=((numBy (alike (solid s) (itR s i).1) s.states.length).1,(numBy (alike (solid s) (itR s i).1) s.states.length).2.length)
  rw[ih]
theorem itR_end {s:SSpec} (h:okSpec s) {i:Nat} (hi:i≤s.states.length) (e:(itR s i).2=(itR s (i+1)).2):classesR s=(itR s (i+1)).1:=by
 have h1:=(itR_step h i).2 e
 have h2:=itR_stable h1 (s.states.length+1- i)
 unfold classesR
 rw[show i+(s.states.length+1- i)=s.states.length+1 by omega] at h2
 rw[h2,h1]
theorem itR_le {s:SSpec} (i:Nat):(itR s i).2≤s.states.length:=by
 cases i with
 |zero=>exact Nat.zero_le _
 |succ i=>exact num_le _
theorem itR_len (s:SSpec) (i:Nat):(itR s i).1.length=s.states.length:=by
 cases i with
 |zero=>simp[itR]
 |succ i=>exact num_len _
def findI (p:Int→Bool) (l:List Int):Int:=match l.findIdx? p with|some j=>(j:Int)|none=> -1
theorem findI_succ {p:Int→Bool} {l:List Int} {k:Nat} (h:k<l.length):findI p (l.take (k+1))=if findI p (l.take k)<0∧p (ix l k)=true then(k:Int) else findI p (l.take k):=by
 unfold findI
 rw[take_s h,List.findIdx?_append]
 cases h1:(l.take k).findIdx? p with
 |some j=>simp;omega
 |none=>
  simp only [List.findIdx?_cons,List.findIdx?_nil]
  by_cases hp:p (ix l k)=true
  ·simp[hp];omega
  ·simp[hp]
theorem numBy_none {rel:Nat→Nat→Bool} {k:Nat} (h:findI (fun y=>rel k y.toNat) (numBy rel k).2<0):numBy rel (k+1)=((numBy rel k).1++ [((numBy rel k).2.length:Int)],(numBy rel k).2++ [(k:Int)]):=by
 unfold findI at h
 rw[numBy]
 split
 ·next j hj=>rw[hj] at h;simp at h;omega
 ·rfl
theorem numBy_some {rel:Nat→Nat→Bool} {k:Nat} (h:¬findI (fun y=>rel k y.toNat) (numBy rel k).2<0):numBy rel (k+1)=((numBy rel k).1++ [findI (fun y=>rel k y.toNat) (numBy rel k).2],(numBy rel k).2):=by
 unfold findI at h ⊢
 rw[numBy]
 split
 ·next j hj=>rw[hj]
 ·next hn=>rw[hn] at h;simp at h
theorem set_mid {nx:List Int} {k m:Nat} (hl:nx.length=k) (v:Int) (hm:0<m):(nx++List.replicate m (0:Int)).set k v=nx++ [v]++List.replicate (m- 1) 0:=by
 obtain⟨m,rfl⟩:∃m',m=m'+1:=⟨m- 1,by omega⟩
 rw[List.set_append_right _ _ (by omega),hl,Nat.sub_self,List.replicate_succ,List.set_cons_zero]
 simp
theorem okQ_visit {n:Nat}:∀(ks l:List Int),okQ n l→(∀i,i<ks.length→ix ks i<(n:Int))→okQ n (visit l ks)
 | [],l,h,_=>h
 |k::ks,l,h,hk=>by
  have hk0:k<(n:Int):=hk 0 (by simp)
  have ht:∀i,i<ks.length→ix ks i<(n:Int):=fun i hi=>hk (i+1) (by simpa using hi)
  show okQ n (visit (if decide (0≤k)&& !l.contains k then l++ [k] else l) ks)
  refine okQ_visit ks _ ?_ ht
  split
  ·next hc=>
   simp only [Bool.and_eq_true,decide_eq_true_eq,Bool.not_eq_true'] at hc
   exact okQ_snoc h hc.1 hk0 hc.2
  ·exact h
theorem okQ_bq {s:SSpec} (h1:1≤s.states.length) (hn:∀k,k<s.states.length→∀a,a<(ix s.states k).next.length→ix (ix s.states k).next a<(s.states.length:Int)):∀i,okQ s.states.length (bq s i)
 |0=>okQ_zero h1
 |i+1=>by
  have ih:=okQ_bq h1 hn i
  unfold bq
  split
  ·next hi=>
   have:=ih.1 i hi
   exact okQ_visit _ _ ih (fun a ha=>hn _ (by omega) a ha)
  ·exact ih
theorem order_okQ {s:SSpec} (h:okSpec s):okQ s.states.length (order (solid s)):=by
 have:=okQ_bq (s:=solid s) (by rw[solid_len];exact h.few0) (fun k hk a ha=>by rw[solid_len] at hk ⊢;exact solid_bd h hk ha) (solid s).states.length
 rw[solid_len] at this
 unfold order
 rw[solid_len];exact this
theorem classes_len (s:SSpec):(classesR s).length=s.states.length:=itR_len s _
theorem classes_bd {s:SSpec} (h:okSpec s) {x:Nat} (hx:x<s.states.length):0≤ix (classesR s) x∧ix (classesR s) x<(s.states.length:Int):=by
 have h1:=(numOK (itR_eqOn h s.states.length) s.states.length (Nat.le_refl _)).cls x hx
 have h2:=num_le (rel:=alike (solid s) (itR s s.states.length).1) s.states.length
 exact⟨h1.1,by have:=h1.2.1;show ix (numBy _ _).1 x<_;omega⟩
def lstep (cl:List Int) (st:List Int × List Int × List Int) (x:Int):List Int × List Int × List Int:=
 if ix st.2.1 (ix cl x.toNat).toNat=0 then(st.1++ [x],st.2.1.set (ix cl x.toNat).toNat ((st.1.length+1:Nat):Int),st.2.2.set x.toNat (ix (st.2.1.set (ix cl x.toNat).toNat ((st.1.length+1:Nat):Int)) (ix cl x.toNat).toNat- 1))
 else(st.1,st.2.1,st.2.2.set x.toNat (ix st.2.1 (ix cl x.toNat).toNat- 1))
def lfold (cl:List Int) (n:Nat) (l:List Int):List Int × List Int × List Int:=l.foldl (lstep cl) ([],List.replicate n 0,List.replicate n (-1))
theorem lfold_snoc (cl:List Int) (n:Nat) (l:List Int) (x:Int):lfold cl n (l++ [x])=lstep cl (lfold cl n l) x:=by simp[lfold]
def mapK (tl:List Int) (k:Int):Int:=if 0≤k then ix tl k.toNat else k
def outState (so:SSpec) (tl:List Int) (x:Int):SState:=⟨(ix so.states x.toNat).accept,(ix so.states x.toNat).next.map (mapK tl)⟩
noncomputable def leastR (s:SSpec):SSpec × List Int:=
 if ix (hollow s) 0=true then(nothing s.actions,List.replicate s.states.length (-1))
 else let r:=lfold (classesR s) s.states.length (order (solid s));(⟨s.actions,r.1.map (outState (solid s) r.2.2)⟩,r.2.2)
theorem map_take_succ {α β:Type} [Inhabited α] {xs:List α} {k:Nat} (h:k<xs.length) (f:α→β):(xs.take (k+1)).map f=(xs.take k).map f++ [f (ix xs k)]:=by rw[take_s h,List.map_append];rfl
namespace T
theorem bool4:Tryd.prog.underlying 4=some .bool:=by kernel_rfl
theorem ent34:Ent Tryd.prog 34:=ent_of (by kernel_rfl)
theorem ent35:Ent Tryd.prog 35:=ent_of (by kernel_rfl)
theorem ent37:Ent Tryd.prog 37:=ent_of (by kernel_rfl)
theorem ent11:Ent Tryd.prog 11:=ent_of (by kernel_rfl)
theorem ent38:Ent Tryd.prog 38:=ent_of (by kernel_rfl)
end T
namespace ref06
theorem alike_ok (s:SSpec) (class_:List Int) (x y:Int) (hx:0≤x∧x<(s.states.length:Int)) (hy:0≤y∧y<(s.states.length:Int)) (hc:class_.length=s.states.length) (hl:(ix s.states x.toNat).next.length≤(ix s.states y.toNat).next.length) (hnx:∀a,a<(ix s.states x.toNat).next.length→ix (ix s.states x.toNat).next a<(s.states.length:Int)) (hny:∀a,a<(ix s.states y.toNat).next.length→ix (ix s.states y.toNat).next a<(s.states.length:Int)):
 Fn0 Tryd.prog 35 [spec s,ints class_,int x,int y] (bl (alike s class_ x.toNat y.toNat)):=by
 refine fnI Tryd.func35 rfl rfl (fun w0 F0=> ?_)
 refine fcC (inhS 0 rfl) (fun hS0=> ?_)
 obtain⟨hsa0,hss0,hse0⟩:=spec_lens hS0
 refine fcC (slenI 1 rfl) (fun hm1=> ?_)
 refine sq (rg (bx (key:=4) (cs:= [sl 1 strE s.actions,sl 2 stateE s.states]) rfl fun b4=>(ag (nl (th (sq ?_))))))
 refine drH (nh:=14) [0,1,0,7,15,0,32,0,224,480,0,0,3103,8191] [(none,[]),(none,[4]),(none,[]),(none,[]),(none,[]),(none,[]),(none,[4]),(none,[]),(none,[]),(none,[]),(some 9,[]),(some 10,[]),(some 9,[9]),(some 10,[10])] T.mixed (by kernel_rfl) (by kernel_rfl) ?_
 refine stv (d:=14) (fun β0=>ptr 4 b4 1) [] rfl (fun β β' hb=>rfl) (fun β0 _ _ _ _ gq gh kq=>fP (gq.1.trans rfl) T.fld25_1 kq) ?_
 refine stv (d:=15) (fun β0=>sl 2 stateE s.states) [4] rfl (fun β β' hb=>rfl) (fun β0 _ _ _ _ gq gh kq=>lP (gq.1.trans rfl) (gh.1.trans rfl) rfl T.one23 kq) ?_
 refine stv (d:=16) (fun β0=>int x) [] rfl (fun β β' hb=>rfl) (fun β0 _ _ _ _ gq gh kq=>mv' (gq.1.trans rfl) kq) ?_
 refine stv (d:=17) (fun β0=>fp [sl 1 intE ((ix s.states x.toNat).accept),sl 1 intE ((ix s.states x.toNat).next)]) [] rfl (fun β β' hb=>rfl) (fun β0 _ _ _ _ gq gh kq=>iF (gq.1.trans rfl) (gq.2.1.trans rfl) T.sl23 (by omega) (by first|exact gN (by omega)|exact gI (by omega) (by omega)) kq) ?_
 refine stv (d:=18) (fun β0=>agg [sl 1 intE ((ix s.states x.toNat).accept),sl 1 intE ((ix s.states x.toNat).next)]) [] rfl (fun β β' hb=>rfl) (fun β0 _ _ _ _ gq gh kq=>lFA (gq.1.trans rfl) T.agg69 (Nat.le_of_ble_eq_true rfl) kq) ?_
 refine stv (d:=19) (fun β0=>ptr 4 b4 1) [] rfl (fun β β' hb=>rfl) (fun β0 _ _ _ _ gq gh kq=>fP (gq.1.trans rfl) T.fld25_1 kq) ?_
 refine stv (d:=20) (fun β0=>sl 2 stateE s.states) [4] rfl (fun β β' hb=>rfl) (fun β0 _ _ _ _ gq gh kq=>lP (gq.1.trans rfl) (gh.1.trans rfl) rfl T.one23 kq) ?_
 refine stv (d:=21) (fun β0=>int y) [] rfl (fun β β' hb=>rfl) (fun β0 _ _ _ _ gq gh kq=>mv' (gq.1.trans rfl) kq) ?_
 refine stv (d:=22) (fun β0=>fp [sl 1 intE ((ix s.states y.toNat).accept),sl 1 intE ((ix s.states y.toNat).next)]) [] rfl (fun β β' hb=>rfl) (fun β0 _ _ _ _ gq gh kq=>iF (gq.1.trans rfl) (gq.2.1.trans rfl) T.sl23 (by omega) (by first|exact gN (by omega)|exact gI (by omega) (by omega)) kq) ?_
 refine stv (d:=23) (fun β0=>agg [sl 1 intE ((ix s.states y.toNat).accept),sl 1 intE ((ix s.states y.toNat).next)]) [] rfl (fun β β' hb=>rfl) (fun β0 _ _ _ _ gq gh kq=>lFA (gq.1.trans rfl) T.agg69 (Nat.le_of_ble_eq_true rfl) kq) ?_
 refine sta 9 T.z69 (ex_cons (ex_cons (ex_nil))) ?_
 refine sta 10 T.z69 (ex_cons (ex_cons (ex_nil))) ?_
 refine stw 9 (fun β0=>cell (gbk (β0 10)) [sl 1 intE ((ix s.states x.toNat).accept),sl 1 intE ((ix s.states x.toNat).next)]) [9] rfl (fun β β' hb=>by first|rw[hb 10 rfl]|(dsimp only;rw[hb 10 rfl])) (fun β0 _ _ _ _ gq gh kq=>sPA (cs':= [sl 1 intE ((ix s.states x.toNat).accept),sl 1 intE ((ix s.states x.toNat).next)]) (gq.1.trans rfl) (gh.1.trans rfl) (gq.2.1.trans rfl) T.agg69 rfl rfl kq) ?_
 refine stw 10 (fun β0=>cell (gbk (β0 11)) [sl 1 intE ((ix s.states y.toNat).accept),sl 1 intE ((ix s.states y.toNat).next)]) [10] rfl (fun β β' hb=>by first|rw[hb 11 rfl]|(dsimp only;rw[hb 11 rfl])) (fun β0 _ _ _ _ gq gh kq=>sPA (cs':= [sl 1 intE ((ix s.states y.toNat).accept),sl 1 intE ((ix s.states y.toNat).next)]) (gq.1.trans rfl) (gh.1.trans rfl) (gq.2.1.trans rfl) T.agg69 rfl rfl kq) ?_
 refine pnH fun β0=>(nl (th (sq (sq (dr (nh:=17) [0,0,3,7,0,0,48,112,255,511,1023,2047,1023,5119,16383,32767,65535] T.mixed (by kernel_rfl) ?_)))))
 refine st_ rfl (fun _ _ _ gq kq=>mv' (gq.1.trans rfl) kq) ?_
 refine st_ rfl (fun _ _ _ gq kq=>mv' (gq.1.trans rfl) kq) ?_
 refine st_ rfl (fun _ _ _ gq kq=>iF (gq.1.trans rfl) (gq.2.1.trans rfl) T.sl28 (by omega) (by first|exact gN (by omega)|exact gI (by omega) (by omega)) kq) ?_
 refine st_ rfl (fun _ _ _ gq kq=>lF (gq.1.trans rfl) rfl T.one3 kq) ?_
 refine st_ rfl (fun _ _ _ gq kq=>mv' (gq.1.trans rfl) kq) ?_
 refine st_ rfl (fun _ _ _ gq kq=>mv' (gq.1.trans rfl) kq) ?_
 refine st_ rfl (fun _ _ _ gq kq=>iF (gq.1.trans rfl) (gq.2.1.trans rfl) T.sl28 (by omega) (by first|exact gN (by omega)|exact gI (by omega) (by omega)) kq) ?_
 refine st_ rfl (fun _ _ _ gq kq=>lF (gq.1.trans rfl) rfl T.one3 kq) ?_
 refine st_ rfl (fun _ _ _ gq kq=>bi (gq.1.trans rfl) (gq.2.1.trans rfl) b_neq kq) ?_
 refine st_ rfl (fun _ _ _ gq kq=>mv' (gq.1.trans rfl) kq) ?_
 refine sg_ (φ:=ptr 9 (gbk (β0 10)) 0) rfl rfl rfl rfl (List.mem_of_elem_eq_true rfl) (fun hgd=> ?_) ?_
 ·have hgd':=hgd
  try simp at hgd'
  exact fun _ _ _ gq kq=>fP (gq.1.trans rfl) T.fld69_0 kq
 refine sg_ (φ:=sl 1 intE ((ix s.states x.toNat).accept)) rfl rfl rfl rfl (List.mem_of_elem_eq_true rfl) (fun hgd=> ?_) ?_
 ·have hgd':=hgd
  try simp at hgd'
  exact fun _ _ _ gq kq=>lP (gq.1.trans (gif_t hgd)) rfl rfl T.one28 kq
 refine sg_ (φ:=ptr 10 (gbk (β0 11)) 0) rfl rfl rfl rfl (List.mem_of_elem_eq_true rfl) (fun hgd=> ?_) ?_
 ·have hgd':=hgd
  try simp at hgd'
  exact fun _ _ _ gq kq=>fP (gq.1.trans rfl) T.fld69_0 kq
 refine sg_ (φ:=sl 1 intE ((ix s.states y.toNat).accept)) rfl rfl rfl rfl (List.mem_of_elem_eq_true rfl) (fun hgd=> ?_) ?_
 ·have hgd':=hgd
  try simp at hgd'
  exact fun _ _ _ gq kq=>lP (gq.1.trans (gif_t hgd)) rfl rfl T.one28 kq
 refine sg_ (φ:=bl (decide (((ix s.states x.toNat).accept)=((ix s.states y.toNat).accept)))) rfl rfl rfl rfl (List.mem_of_elem_eq_true rfl) (fun hgd=> ?_) ?_
 ·have hgd':=hgd
  try simp at hgd'
  exact fun _ _ _ gq kq=>cal0 (φs:= [sl 1 intE ((ix s.states x.toNat).accept),sl 1 intE ((ix s.states y.toNat).accept)]) (φ:=bl (decide (((ix s.states x.toNat).accept)=((ix s.states y.toNat).accept)))) ⟨(gq.1.trans (gif_t hgd)),(gq.2.1.trans (gif_t hgd)),trivial⟩ (ref01.SameInts_ok _ _) T.ent18 kq
 refine sg_ (φ:=bl (!(decide (((ix s.states x.toNat).accept)=((ix s.states y.toNat).accept))))) rfl rfl rfl rfl (List.mem_of_elem_eq_true rfl) (fun hgd=> ?_) ?_
 ·have hgd':=hgd
  try simp at hgd'
  exact fun _ _ _ gq kq=>no (gq.1.trans (gif_t hgd)) kq
 refine st_ rfl (fun _ _ _ gq kq=>pk (gq.1.trans rfl) (pk_or (x:= .tmp 33) (gq.1.trans rfl) (gq.2.1.trans rfl) rfl) kq) ?_
 refine pn (nl (th ?_))
 refine cd rfl (fun hc0=> ?_) (fun hc0=> ?_)
 ·try simp at hc0
  refine sq (rg (ag (nl (th (rt (rt_ ?_))))))
  have hr0:false=(alike s class_ x.toNat y.toNat):=by
   unfold alike
   by_cases h:ix class_ x.toNat=ix class_ y.toNat
   ·simp[h] at hc0
    simp[hc0]
   ·simp[h]
  have hall:∀x0,false=x0→resAV [bl false]=resAV [bl x0]:=by rintro _ rfl;rfl
  exact rE () [.tmp 8] rfl [bl false] ⟨.tmp rfl,trivial⟩ (hall _ hr0) trivial (by first|exact .inr rfl|exact .inl rfl)
 ·try simp at hc0
  refine sk (th (sq (sq (rg (fP rfl T.fld69_1 (lP rfl rfl rfl T.one28 (fc (slenI 42 rfl) fun hm42=>(lnF rfl T.sl28 (mv (nl (th (bk ?_))))))))))))
  have hI0_0:0≤((ix s.states x.toNat).next).length:=by
   first|omega|simp
  have hI0_1:(List.range 0).all (fun i=> !stepBad class_ (ix (ix s.states x.toNat).next i) (ix (ix s.states y.toNat).next i))=true:=by
   simp
  refine lp (κ:=Nat) (fun p=> [(1,sl 1 intE class_),(10,ptr 10 (gbk (β0 11)) 0),(42,sl 1 intE ((ix s.states x.toNat).next)),(43,int (((ix s.states x.toNat).next).length:Int)),(44,int (p:Int))]) (fun p=> [(4,cell b4 [sl 1 strE s.actions,sl 2 stateE s.states]),(9,cell (gbk (β0 10)) [sl 1 intE ((ix s.states x.toNat).accept),sl 1 intE ((ix s.states x.toNat).next)]),(10,cell (gbk (β0 11)) [sl 1 intE ((ix s.states y.toNat).accept),sl 1 intE ((ix s.states y.toNat).next)])]) (fun p=>(p≤((ix s.states x.toNat).next).length)∧((List.range p).all (fun i=> !stepBad class_ (ix (ix s.states x.toNat).next i) (ix (ix s.states y.toNat).next i))=true)) (fun p=>((ix s.states x.toNat).next).length- p) 0 ⟨hI0_0,hI0_1⟩ ⟨id,id,id,id,id,trivial⟩ ⟨⟨rfl,id⟩,⟨rfl,id⟩,⟨rfl,id⟩,trivial⟩ ?_
  intro k hG0
  obtain⟨hk0,hI0⟩:(k≤((ix s.states x.toNat).next).length)∧((List.range k).all (fun i=> !stepBad class_ (ix (ix s.states x.toNat).next i) (ix (ix s.states y.toNat).next i))=true):=hG0
  refine sq (rg (bi rfl rfl b_lss (nl (th (sq ?_)))))
  refine cd rfl (fun hc1=> ?_) (fun hc1=> ?_)
  ·try simp at hc1
   have hkx:=hnx k (by omega)
   have hky:=hny k (by omega)
   refine sk (th (sq (bk (sq (rg (mv (iF rfl rfl T.sl28 (by omega) (by first|exact gN (by omega)|exact gI (by omega) (by omega)) (lF rfl rfl T.one3 (ag (ag (nl (th (sq (rg (fP rfl T.fld69_1 (lP rfl rfl rfl T.one28 (mv (iF rfl rfl T.sl28 (by omega) (by first|exact gN (by omega)|exact gI (by omega) (by omega)) (lF rfl rfl T.one3 (ag (nl (th (sq (dr (nh:=20) [0,1,0,4,15,31,63,127,255,511,511,2047,4095,511,511,25087,57855,131071,262143,524287] T.mixed (by kernel_rfl) ?_))))))))))))))))))))))))
   refine st_ rfl (fun _ _ _ gq kq=>mv' (gq.1.trans rfl) kq) ?_
   refine st_ rfl (fun _ _ _ gq kq=>bi (gq.1.trans rfl) rfl b_lss kq) ?_
   refine st_ rfl (fun _ _ _ gq kq=>mv' (gq.1.trans rfl) kq) ?_
   refine st_ rfl (fun _ _ _ gq kq=>bi (gq.1.trans rfl) rfl b_lss kq) ?_
   refine st_ rfl (fun _ _ _ gq kq=>bi (gq.1.trans rfl) (gq.2.1.trans rfl) (b_neqB T.bool4) kq) ?_
   refine st_ rfl (fun _ _ _ gq kq=>mv' (gq.1.trans rfl) kq) ?_
   refine sg_ (φ:=int (ix ((ix s.states x.toNat).next) k)) rfl rfl rfl rfl (List.mem_of_elem_eq_true rfl) (fun hgd=> ?_) ?_
   ·have hgd':=hgd
    try simp at hgd'
    exact fun _ _ _ gq kq=>mv' (gq.1.trans rfl) kq
   refine sg_ (φ:=bl (decide (0≤(ix ((ix s.states x.toNat).next) k)))) rfl rfl rfl rfl (List.mem_of_elem_eq_true rfl) (fun hgd=> ?_) ?_
   ·have hgd':=hgd
    try simp at hgd'
    exact fun _ _ _ gq kq=>bi (gq.1.trans (gif_t hgd)) rfl b_geq kq
   refine sg_ (φ:=bl (decide (0≤(ix ((ix s.states x.toNat).next) k)))) rfl rfl rfl rfl (List.mem_of_elem_eq_true rfl) (fun hgd=> ?_) ?_
   ·have hgd':=hgd
    try simp at hgd'
    exact fun _ _ _ gq kq=>mv' (gq.1.trans (gif_t hgd)) kq
   refine sg2_ (φ:=sl 1 intE class_) rfl rfl rfl rfl (List.mem_of_elem_eq_true rfl) (fun hgd hgd2=> ?_) ?_
   ·have hgd':=hgd
    try simp at hgd'
    have hgd2':=hgd2
    try simp at hgd2'
    exact fun _ _ _ gq kq=>mv' (gq.1.trans rfl) kq
   refine sg2_ (φ:=int (ix ((ix s.states x.toNat).next) k)) rfl rfl rfl rfl (List.mem_of_elem_eq_true rfl) (fun hgd hgd2=> ?_) ?_
   ·have hgd':=hgd
    try simp at hgd'
    have hgd2':=hgd2
    try simp at hgd2'
    exact fun _ _ _ gq kq=>mv' (gq.1.trans rfl) kq
   refine sg2_ (φ:=fp [int (ix class_ ((ix ((ix s.states x.toNat).next) k).toNat))]) rfl rfl rfl rfl (List.mem_of_elem_eq_true rfl) (fun hgd hgd2=> ?_) ?_
   ·have hgd':=hgd
    try simp at hgd'
    have hgd2':=hgd2
    try simp at hgd2'
    exact fun _ _ _ gq kq=>iF (gq.1.trans (gif_t2 hgd hgd2)) (gq.2.1.trans (gif_t2 hgd hgd2)) T.sl28 (by omega) (by first|exact gN (by omega)|exact gI (by omega) (by omega)) kq
   refine sg2_ (φ:=int (ix class_ ((ix ((ix s.states x.toNat).next) k).toNat))) rfl rfl rfl rfl (List.mem_of_elem_eq_true rfl) (fun hgd hgd2=> ?_) ?_
   ·have hgd':=hgd
    try simp at hgd'
    have hgd2':=hgd2
    try simp at hgd2'
    exact fun _ _ _ gq kq=>lF (gq.1.trans (gif_t2 hgd hgd2)) rfl T.one3 kq
   refine sg2_ (φ:=sl 1 intE class_) rfl rfl rfl rfl (List.mem_of_elem_eq_true rfl) (fun hgd hgd2=> ?_) ?_
   ·have hgd':=hgd
    try simp at hgd'
    have hgd2':=hgd2
    try simp at hgd2'
    exact fun _ _ _ gq kq=>mv' (gq.1.trans rfl) kq
   refine sg2_ (φ:=int (ix ((ix s.states y.toNat).next) k)) rfl rfl rfl rfl (List.mem_of_elem_eq_true rfl) (fun hgd hgd2=> ?_) ?_
   ·have hgd':=hgd
    try simp at hgd'
    have hgd2':=hgd2
    try simp at hgd2'
    exact fun _ _ _ gq kq=>mv' (gq.1.trans rfl) kq
   refine sg2_ (φ:=fp [int (ix class_ ((ix ((ix s.states y.toNat).next) k).toNat))]) rfl rfl rfl rfl (List.mem_of_elem_eq_true rfl) (fun hgd hgd2=> ?_) ?_
   ·have hgd':=hgd
    try simp at hgd'
    have hgd2':=hgd2
    try simp at hgd2'
    exact fun _ _ _ gq kq=>iF (gq.1.trans (gif_t2 hgd hgd2)) (gq.2.1.trans (gif_t2 hgd hgd2)) T.sl28 (by omega) (by first|exact gN (by omega)|exact gI (by omega) (by omega)) kq
   refine sg2_ (φ:=int (ix class_ ((ix ((ix s.states y.toNat).next) k).toNat))) rfl rfl rfl rfl (List.mem_of_elem_eq_true rfl) (fun hgd hgd2=> ?_) ?_
   ·have hgd':=hgd
    try simp at hgd'
    have hgd2':=hgd2
    try simp at hgd2'
    exact fun _ _ _ gq kq=>lF (gq.1.trans (gif_t2 hgd hgd2)) rfl T.one3 kq
   refine sg2_ (φ:=bl (decide ((ix class_ ((ix ((ix s.states x.toNat).next) k).toNat))≠(ix class_ ((ix ((ix s.states y.toNat).next) k).toNat))))) rfl rfl rfl rfl (List.mem_of_elem_eq_true rfl) (fun hgd hgd2=> ?_) ?_
   ·have hgd':=hgd
    try simp at hgd'
    have hgd2':=hgd2
    try simp at hgd2'
    exact fun _ _ _ gq kq=>bi (gq.1.trans (gif_t2 hgd hgd2)) (gq.2.1.trans (gif_t2 hgd hgd2)) b_neq kq
   refine sg_ (φ:=bl ((decide (0≤(ix ((ix s.states x.toNat).next) k)))&&(decide ((ix class_ ((ix ((ix s.states x.toNat).next) k).toNat))≠(ix class_ ((ix ((ix s.states y.toNat).next) k).toNat)))))) rfl rfl rfl rfl (List.mem_of_elem_eq_true rfl) (fun hgd=> ?_) ?_
   ·have hgd':=hgd
    try simp at hgd'
    exact fun _ _ _ gq kq=>pk (gq.1.trans (gif_t hgd)) (pk_and (x:= .tmp 62) (gq.1.trans (gif_t hgd)) (gq.2.1.trans (gif_and hgd)) rfl) kq
   refine st_ rfl (fun _ _ _ gq kq=>pk (gq.1.trans rfl) (pk_or (x:= .tmp 59) (gq.1.trans rfl) (gq.2.1.trans rfl) rfl) kq) ?_
   refine pn (nl (th ?_))
   refine cd rfl (fun hc2=> ?_) (fun hc2=> ?_)
   ·try simp at hc2
    refine sq (rg (ag (nl (th (rt (rb (rt_ (rt_ (rb (rt_ ?_))))))))))
    have hr0:false=(alike s class_ x.toNat y.toNat):=by
     unfold alike alikeNext
     rw[all_range_not (i:=k) (by omega) (by
      unfold stepBad
      simp at hc2 ⊢
      intro hA
      rcases hc2 with h|h
      ·exact absurd hA h
      ·exact h)];simp
    have hall:∀x0,false=x0→resAV [bl false]=resAV [bl x0]:=by rintro _ rfl;rfl
    exact rE () [.tmp 8] rfl [bl false] ⟨.tmp rfl,trivial⟩ (hall _ hr0) trivial (by first|exact .inr rfl|exact .inl rfl)
   ·try simp at hc2
    refine sk (eb (th (rg (bi rfl rfl (b_add (by unfold I64;omega)) (mv (nl ?_))))))
    have hN0:(k+1)≤((ix s.states x.toNat).next).length:=by
     first|omega|simp_all
    have hN1:(List.range (k+1)).all (fun i=> !stepBad class_ (ix (ix s.states x.toNat).next i) (ix (ix s.states y.toNat).next i))=true:=by
     rw[all_range_succ,hI0]
     unfold stepBad
     simp at hc2 ⊢
     refine⟨hc2.1,?_⟩
     by_cases h:ix (ix s.states x.toNat).next k<0
     ·exact .inl h
     ·exact .inr (hc2.2 (by omega))
    exact ln (k+1) ⟨hN0,hN1⟩ (by first|omega|(dsimp only;omega)) ⟨id,id,id,id,id,trivial⟩ ⟨⟨rfl,id⟩,⟨rfl,id⟩,⟨rfl,id⟩,trivial⟩
  ·try simp at hc1
   refine ex (xt_ (xt_ (xb (th (sq (rg (ag (nl (th (rt ?_))))))))))
   have hr0:true=(alike s class_ x.toNat y.toNat):=by
    unfold alike alikeNext
    rw[show(ix s.states x.toNat).next.length=k by omega,hI0]
    simp[hc0]
   have hall:∀x0,true=x0→resAV [bl true]=resAV [bl x0]:=by rintro _ rfl;rfl
   exact rE () [.tmp 8] rfl [bl true] ⟨.tmp rfl,trivial⟩ (hall _ hr0) trivial (by first|exact .inr rfl|exact .inl rfl)
theorem Classes_ok (s:SSpec) (h:okSpec s):
 Fn0 Tryd.prog 11 [spec s] (ints (classesR s)):=by
 refine fnI Tryd.func11 rfl rfl (fun w0 F0=> ?_)
 have hf0:=h.few0;have hf1:=h.few1;have hsl:=solid_len s
 refine fcC (inhS 0 rfl) (fun hS0=> ?_)
 obtain⟨hsa0,hss0,hse0⟩:=spec_lens hS0
 refine sq (rg (bx (key:=1) (cs:= [sl 1 strE s.actions,sl 2 stateE s.states]) rfl fun b1=>(ag (nl (th (sq (rg (lPA rfl rfl T.agg25 rfl (cal0 (φs:= [agg [sl 1 strE s.actions,sl 2 stateE s.states]]) (φ:=agg [sl 1 strE ((solid s).actions),sl 2 stateE ((solid s).states)]) ⟨rfl,trivial⟩ (ref04.Solid_ok s (by assumption)) T.ent34 (al (key:=3) T.z25 (ex_cons (ex_cons (ex_nil))) fun b3=>(sPA (cs':= [sl 1 strE ((solid s).actions),sl 2 stateE ((solid s).states)]) rfl rfl rfl T.agg25 rfl rfl (nl (th (sq (rg (fP rfl T.fld25_1 (lP rfl rfl rfl T.one23 (fc (slenI 14 rfl) fun hm14=>(lnF rfl T.sl23 (mk (key:=16) (m:=s.states.length) (enc:=intE) (y:=(0:Int)) rfl rfl T.mk28 (ex_cons ex_nil) (by unfold maxL;omega) (by unfold maxL;omega) fun v16=>(ag (nl (th (sq (rg (ag (nl (th (bk ?_)))))))))))))))))))))))))))))
 refine fzC 16 4 rfl rfl ?_
 have hI0_0:(List.replicate s.states.length (0:Int))=(itR s 0).1∧0=(itR s 0).2∧0≤0:=by
  exact⟨rfl,rfl,Nat.le_refl _⟩
 refine lp (κ:=Nat × (List Int) × Nat) (fun p=> [(1,ptr 1 b1 0),(3,ptr 3 b3 0),(4,sl 1 intE p.2.1),(5,int (p.2.2:Int))]) (fun p=> [(1,cell b1 [sl 1 strE s.actions,sl 2 stateE s.states]),(3,cell b3 [sl 1 strE ((solid s).actions),sl 2 stateE ((solid s).states)])]) (fun p=>p.2.1=(itR s p.1).1∧p.2.2=(itR s p.1).2∧p.1≤p.2.2) (fun p=>s.states.length- p.2.2) ⟨0,List.replicate s.states.length (0:Int),0⟩ hI0_0 ⟨id,id,id,id,trivial⟩ ⟨⟨rfl,id⟩,⟨rfl,id⟩,trivial⟩ ?_
 intro⟨i,cl,m⟩ hG0
 have hI0:cl=(itR s i).1∧m=(itR s i).2∧i≤m:=hG0
 show Ct _ _ _ _ [(1,ptr 1 b1 0),(3,ptr 3 b3 0),(4,sl 1 intE cl),(5,int (m:Int))] [(1,cell b1 [sl 1 strE s.actions,sl 2 stateE s.states]),(3,cell b3 [sl 1 strE ((solid s).actions),sl 2 stateE ((solid s).states)])] _
 refine bk (sq (rg (fP rfl T.fld25_1 (lP rfl rfl rfl T.one23 (lnF rfl T.sl23 (mk (key:=20) (m:=s.states.length) (enc:=intE) (y:=(0:Int)) rfl rfl T.mk28 (ex_cons ex_nil) (by unfold maxL;omega) (by unfold maxL;omega) fun v20=>(ag (nl (th (sq (rg (nw 7 3 1 intE (ag (rtg (key:=7) 7 rfl (nl (th (sq (sq (rg (mv (lnO rfl rfl T.sl28 (mv (nl (th (bk ?_)))))))))))))))))))))))))
 have hI1_0:0≤s.states.length:=by
  first|omega|simp
 have hI1_1:(List.replicate s.states.length (0:Int))=(numBy (alike (solid s) cl) 0).1++List.replicate (s.states.length- 0) 0∧([]:List Int)=(numBy (alike (solid s) cl) 0).2:=by
  exact⟨rfl,rfl⟩
 refine lp (κ:=Nat × Value × (List Int) × (List Int)) (fun p=> [(1,ptr 1 b1 0),(3,ptr 3 b3 0),(4,sl 1 intE cl),(5,int (m:Int)),(6,osl 20 v20),(7,osl 7 p.2.1),(22,int ((List.replicate s.states.length (0:Int)).length:Int)),(23,int (p.1:Int))]) (fun p=> [(1,cell b1 [sl 1 strE s.actions,sl 2 stateE s.states]),(3,cell b3 [sl 1 strE ((solid s).actions),sl 2 stateE ((solid s).states)]),(7,own p.2.1 3 1 intE p.2.2.2),(20,own v20 3 1 intE p.2.2.1)]) (fun p=>(p.1≤s.states.length)∧(p.2.2.1=(numBy (alike (solid s) cl) p.1).1++List.replicate (s.states.length- p.1) 0∧p.2.2.2=(numBy (alike (solid s) cl) p.1).2)) (fun p=>s.states.length- p.1) ⟨0,(.slice none 0 0),List.replicate s.states.length (0:Int),([]:List Int)⟩ ⟨hI1_0,hI1_1⟩ ⟨id,id,id,id,id,id,id,id,trivial⟩ ⟨⟨rfl,id⟩,⟨rfl,id⟩,⟨rfl,id⟩,⟨rfl,id⟩,trivial⟩ ?_
 intro⟨k1,v7x,nx,fl⟩ hG1
 obtain⟨hk1,hI1⟩:(k1≤s.states.length)∧(nx=(numBy (alike (solid s) cl) k1).1++List.replicate (s.states.length- k1) 0∧fl=(numBy (alike (solid s) cl) k1).2):=hG1
 show Ct _ _ _ _ [(1,ptr 1 b1 0),(3,ptr 3 b3 0),(4,sl 1 intE cl),(5,int (m:Int)),(6,osl 20 v20),(7,osl 7 v7x),(22,int ((List.replicate s.states.length (0:Int)).length:Int)),(23,int (k1:Int))] [(1,cell b1 [sl 1 strE s.actions,sl 2 stateE s.states]),(3,cell b3 [sl 1 strE ((solid s).actions),sl 2 stateE ((solid s).states)]),(7,own v7x 3 1 intE fl),(20,own v20 3 1 intE nx)] _
 have hnl:nx.length=s.states.length:=by rw[hI1.1];simp[num_len];omega
 have hfll:fl.length≤k1:=by rw[hI1.2];exact num_le _
 refine sq (rg (bi rfl rfl b_lss (nl (th (sq ?_)))))
 refine cd rfl (fun hc0=> ?_) (fun hc0=> ?_)
 ·try simp at hc0
  refine sk (th (sq (bk (sq (rg (mv (ag (nl (th (sq (rg (mv (mv (iO rfl rfl rfl T.sl28 (by omega) (by omega) (sO (φ:=int (-1)) rfl rfl rfl T.one3 (by first|exact gN (by omega)|exact gI (by omega) (by omega)) rfl (y':=(-1)) rfl (nl (th (sq (sq (rg (mv (lnO rfl rfl T.sl28 (mv (nl (th (bk ?_))))))))))))))))))))))))))
  have hI2_0:0≤fl.length:=by
   first|omega|simp
  have hI2_1:(nx.set k1 (-1))=nx.set k1 (findI (fun y=>alike (solid s) cl k1 y.toNat) (fl.take 0)):=by
   simp[findI]
  refine lp (κ:=Nat × (List Int)) (fun p=> [(1,ptr 1 b1 0),(3,ptr 3 b3 0),(4,sl 1 intE cl),(5,int (m:Int)),(6,osl 20 v20),(7,osl 7 v7x),(8,int (k1:Int)),(22,int ((List.replicate s.states.length (0:Int)).length:Int)),(23,int (k1:Int)),(29,osl 7 v7x),(30,int (fl.length:Int)),(31,int (p.1:Int))]) (fun p=> [(1,cell b1 [sl 1 strE s.actions,sl 2 stateE s.states]),(3,cell b3 [sl 1 strE ((solid s).actions),sl 2 stateE ((solid s).states)]),(7,own v7x 3 1 intE fl),(20,own v20 3 1 intE p.2)]) (fun p=>(p.1≤fl.length)∧(p.2=nx.set k1 (findI (fun y=>alike (solid s) cl k1 y.toNat) (fl.take p.1)))) (fun p=>fl.length- p.1) ⟨0,nx.set k1 (-1)⟩ ⟨hI2_0,hI2_1⟩ ⟨id,id,id,id,id,id,id,id,id,id,id,id,trivial⟩ ⟨⟨rfl,id⟩,⟨rfl,id⟩,⟨rfl,id⟩,⟨rfl,id⟩,trivial⟩ ?_
  intro⟨k2,nx2⟩ hG2
  obtain⟨hk2,hI2⟩:(k2≤fl.length)∧(nx2=nx.set k1 (findI (fun y=>alike (solid s) cl k1 y.toNat) (fl.take k2))):=hG2
  show Ct _ _ _ _ [(1,ptr 1 b1 0),(3,ptr 3 b3 0),(4,sl 1 intE cl),(5,int (m:Int)),(6,osl 20 v20),(7,osl 7 v7x),(8,int (k1:Int)),(22,int ((List.replicate s.states.length (0:Int)).length:Int)),(23,int (k1:Int)),(29,osl 7 v7x),(30,int (fl.length:Int)),(31,int (k2:Int))] [(1,cell b1 [sl 1 strE s.actions,sl 2 stateE s.states]),(3,cell b3 [sl 1 strE ((solid s).actions),sl 2 stateE ((solid s).states)]),(7,own v7x 3 1 intE fl),(20,own v20 3 1 intE nx2)] _
  have hnl2:nx2.length=s.states.length:=by rw[hI2];simp[hnl]
  refine sq (rg (bi rfl rfl b_lss (nl (th (sq ?_)))))
  refine cd rfl (fun hc1=> ?_) (fun hc1=> ?_)
  ·try simp at hc1
   have hfx:=(numOK (itR_eqOn h i) k1 (by omega)).fs0 k2 (by rw[←hI0.1,←hI1.2];omega)
   rw[←hI0.1,←hI1.2] at hfx
   refine sk (th (sq (bk (sq (rg (mv (iO rfl rfl rfl T.sl28 (by omega) (by omega) (lO rfl rfl (by first|exact gN (by omega)|exact gI (by omega) (by omega)) rfl T.one3 (ag (ag (nl (th (sq (rg (mv (mv (iO rfl rfl rfl T.sl28 (by omega) (by omega) (lO rfl rfl (by first|exact gN (by omega)|exact gI (by omega) (by omega)) rfl T.one3 (bi rfl rfl b_lss (mv ?_))))))))))))))))))))
   apply gAnd (t:=41) (pd:=47) rfl
   rotate_left
   ·intro hg0 fin
    have hg0':=hg0
    try simp at hg0'
    exact gy rfl rfl rfl hg0 (lPA rfl rfl T.agg25 rfl (gy rfl rfl rfl hg0 (mv (gy rfl rfl rfl hg0 (mv (gy rfl rfl rfl hg0 (mv (gy rfl rfl rfl hg0 (cal0 (φs:= [agg [sl 1 strE ((solid s).actions),sl 2 stateE ((solid s).states)],sl 1 intE cl,int (k1:Int),int (ix fl k2)]) (φ:=bl (alike (solid s) cl k1 (ix fl k2).toNat)) ⟨rfl,rfl,rfl,rfl,trivial⟩ (ref06.alike_ok (solid s) _ _ _ (by omega) (by rw[hsl];omega) (by rw[hI0.1,itR_len,hsl]) (by rw[solid_next h (by omega),solid_next h (by omega)];exact Nat.le_refl _) (fun a ha=>by rw[hsl];exact solid_bd h (by omega) ha) (fun a ha=>by rw[hsl];exact solid_bd h (by omega) ha)) T.ent35 (pkT rfl hg0 rfl (drp (X:= [(46,_),(45,_),(44,_),(43,_),(42,_)]) ⟨rfl,rfl,rfl,rfl,rfl,trivial⟩ (fin))))))))))))
   ·intro hg0 fin
    exact gn rfl rfl rfl hg0 rfl rfl (gn rfl rfl rfl hg0 rfl rfl (gn rfl rfl rfl hg0 rfl rfl (gn rfl rfl rfl hg0 rfl rfl (gn rfl rfl rfl hg0 rfl rfl (pkF rfl hg0 rfl (drp (X:= [(46,_),(45,_),(44,_),(43,_),(42,_)]) ⟨rfl,rfl,rfl,rfl,rfl,trivial⟩ (fin)))))))
   refine nl (th ?_)
   refine cd rfl (fun hc2=> ?_) (fun hc2=> ?_)
   ·try simp at hc2
    refine rg (mv (mv (mv (iO rfl rfl rfl T.sl28 (by omega) (by omega) (sO (φ:=int (k2:Int)) rfl rfl rfl T.one3 (by first|exact gN (by omega)|exact gI (by omega) (by omega)) rfl (y':=(k2:Int)) rfl (nl (eb (th (rg (bi rfl rfl (b_add (by unfold I64;omega)) (mv (nl ?_))))))))))))
    have hN0:(k2+1)≤fl.length:=by
     first|omega|simp_all
    have hN1:(nx2.set k1 (k2:Int))=nx.set k1 (findI (fun y=>alike (solid s) cl k1 y.toNat) (fl.take (k2+1))):=by
     have hv:ix nx2 k1=findI (fun y=>alike (solid s) cl k1 y.toNat) (fl.take k2):=by rw[hI2,ix_set (by omega),if_pos rfl]
     rw[findI_succ (by omega),if_pos ⟨by rw[←hv];exact hc2.1,hc2.2⟩,hI2,List.set_set]
    exact ln (⟨k2+1,nx2.set k1 (k2:Int)⟩:Nat × (List Int)) ⟨hN0,hN1⟩ (by first|omega|(dsimp only;omega)) ⟨id,id,id,id,id,id,id,id,id,id,id,id,trivial⟩ ⟨⟨rfl,id⟩,⟨rfl,id⟩,⟨rfl,id⟩,⟨rfl,id⟩,trivial⟩
   ·try simp at hc2
    refine sk (eb (th (rg (bi rfl rfl (b_add (by unfold I64;omega)) (mv (nl ?_))))))
    have hN0:(k2+1)≤fl.length:=by
     first|omega|simp_all
    have hN1:nx2=nx.set k1 (findI (fun y=>alike (solid s) cl k1 y.toNat) (fl.take (k2+1))):=by
     have hv:ix nx2 k1=findI (fun y=>alike (solid s) cl k1 y.toNat) (fl.take k2):=by rw[hI2,ix_set (by omega),if_pos rfl]
     rw[findI_succ (by omega),if_neg (fun hh=>by
      have:=hc2 (by rw[hv];exact hh.1)
      rw[hh.2] at this;cases this),hI2]
    exact ln (⟨k2+1,nx2⟩:Nat × (List Int)) ⟨hN0,hN1⟩ (by first|omega|(dsimp only;omega)) ⟨id,id,id,id,id,id,id,id,id,id,id,id,trivial⟩ ⟨⟨rfl,id⟩,⟨rfl,id⟩,⟨rfl,id⟩,⟨rfl,id⟩,trivial⟩
  ·try simp at hc1
   refine ex (xt_ (xt_ (xb (th (sq (rg (mv (mv (iO rfl rfl rfl T.sl28 (by omega) (by omega) (lO rfl rfl (by first|exact gN (by omega)|exact gI (by omega) (by omega)) rfl T.one3 (bi rfl rfl b_lss (nl (th ?_)))))))))))))
   refine cd rfl (fun hc3=> ?_) (fun hc3=> ?_)
   ·try simp at hc3
    refine sq (rg (mv (mv (mv (lnO rfl rfl T.sl28 (iO rfl rfl rfl T.sl28 (by omega) (by omega) (sO (φ:=int (fl.length:Int)) rfl rfl rfl T.one3 (by first|exact gN (by omega)|exact gI (by omega) (by omega)) rfl (y':=(fl.length:Int)) rfl (nl (th (rg (mv (mv (bsE (enc:=intE) (xs:= [(k1:Int)]) (css:= [[int (k1:Int)]]) T.mk28 ⟨rfl,rfl,p1 (φ:=int (k1:Int)) rfl,trivial⟩ rfl rfl rfl rfl (ap (key:=7) (zs:= [(k1:Int)]) osl_eq rfl rfl rfl T.mk28 (by unfold maxL at*;simp;omega) (by unfold maxL at*;simp;omega) fun v66=>(ag (nl (eb (th (rg (bi rfl rfl (b_add (by unfold I64;omega)) (mv (nl ?_))))))))))))))))))))))
    have hN0:(k1+1)≤s.states.length:=by
     first|omega|simp_all
    have hN1:(nx2.set k1 (fl.length:Int))=(numBy (alike (solid s) cl) (k1+1)).1++List.replicate (s.states.length- (k1+1)) 0∧(fl++ [(k1:Int)])=(numBy (alike (solid s) cl) (k1+1)).2:=by
     have hk2:k2=fl.length:=by omega
     rw[hk2,List.take_length] at hI2
     have hv:ix nx2 k1=findI (fun y=>alike (solid s) cl k1 y.toNat) fl:=by rw[hI2,ix_set (by omega),if_pos rfl]
     rw[hI1.2] at hv
     rw[numBy_none (by rw[←hv];exact hc3)]
     refine⟨?_,by rw[hI1.2]⟩
     rw[hI2,List.set_set,hI1.1,set_mid (num_len _) _ (by omega),hI1.2]
     rw[show s.states.length- k1- 1=s.states.length- (k1+1) by omega]
    exact ln (⟨k1+1,v66,nx2.set k1 (fl.length:Int),fl++ [(k1:Int)]⟩:Nat × Value × (List Int) × (List Int)) ⟨hN0,hN1⟩ (by first|omega|(dsimp only;omega)) ⟨id,id,id,id,id,id,id,id,trivial⟩ ⟨⟨rfl,id⟩,⟨rfl,id⟩,⟨rfl,id⟩,⟨rfl,id⟩,trivial⟩
   ·try simp at hc3
    refine sk (eb (th (rg (bi rfl rfl (b_add (by unfold I64;omega)) (mv (nl ?_))))))
    have hN0:(k1+1)≤s.states.length:=by
     first|omega|simp_all
    have hN1:nx2=(numBy (alike (solid s) cl) (k1+1)).1++List.replicate (s.states.length- (k1+1)) 0∧fl=(numBy (alike (solid s) cl) (k1+1)).2:=by
     have hk2:k2=fl.length:=by omega
     rw[hk2,List.take_length] at hI2
     have hv:ix nx2 k1=findI (fun y=>alike (solid s) cl k1 y.toNat) fl:=by rw[hI2,ix_set (by omega),if_pos rfl]
     rw[hI1.2] at hv
     rw[numBy_some (by rw[←hv];omega)]
     refine⟨?_,hI1.2⟩
     rw[hI2,hI1.1,set_mid (num_len _) _ (by omega),hI1.2]
     rw[show s.states.length- k1- 1=s.states.length- (k1+1) by omega]
    exact ln (⟨k1+1,v7x,nx2,fl⟩:Nat × Value × (List Int) × (List Int)) ⟨hN0,hN1⟩ (by first|omega|(dsimp only;omega)) ⟨id,id,id,id,id,id,id,id,trivial⟩ ⟨⟨rfl,id⟩,⟨rfl,id⟩,⟨rfl,id⟩,⟨rfl,id⟩,trivial⟩
 ·try simp at hc0
  refine ex (xt_ (xt_ (xb (th (sq (rg (mv (ag (nl (th (sq (sq (fzC 20 4 rfl rfl (rg (mv (lnO rfl rfl T.sl28 (mv (bi rfl rfl b_eql (nl (th ?_))))))))))))))))))))
  refine cd rfl (fun hc4=> ?_) (fun hc4=> ?_)
  ·try simp at hc4
   refine sq (rg (mv (ag (nl (th (rt (rt_ (rb (rt_ (rb ?_))))))))))
   have hr0:nx=(classesR s):=by
    have hk:k1=s.states.length:=by omega
    have h2:fl.length=(itR s (i+1)).2:=by rw[hI1.2,hk,hI0.1];rfl
    have h3:=itR_le (s:=s) i
    rw[itR_end h (i:=i) (by omega) (by omega),hI1.1,hk,Nat.sub_self,hI0.1];simp[itR]
   have hall:∀x0,nx=x0→resAV [sl 1 intE nx]=resAV [sl 1 intE x0]:=by rintro _ rfl;rfl
   exact rE () [.tmp 2] rfl [sl 1 intE nx] ⟨.tmp rfl,trivial⟩ (hall _ hr0) trivial (by first|exact .inr rfl|exact .inl rfl)
  ·try simp at hc4
   refine sk (th (rg (mv (lnO rfl rfl T.sl28 (ag (nl (eb ?_)))))))
   have hN0:nx=(itR s (i+1)).1∧fl.length=(itR s (i+1)).2∧(i+1)≤fl.length:=by
    have hk:k1=s.states.length:=by omega
    have h2:fl.length=(itR s (i+1)).2:=by rw[hI1.2,hk,hI0.1];rfl
    have h1:=(itR_step h i).1
    refine⟨?_,h2,by omega⟩
    rw[hI1.1,hk,Nat.sub_self,hI0.1];simp[itR]
   exact ln (⟨i+1,nx,fl.length⟩:Nat × (List Int) × Nat) hN0 (by have h1:=(itR_step h i).1;have h2:=hN0.2.1;have h3:=itR_le (s:=s) (i+1);have h4:=hI0.2.1;(try dsimp only);omega) ⟨id,id,id,id,trivial⟩ ⟨⟨rfl,id⟩,⟨rfl,id⟩,trivial⟩
theorem Least_ok (s:SSpec) (h:okSpec s):
 Fn0 Tryd.prog 12 [spec s] (tup [spec (leastR s).1,ints (leastR s).2]):=by
 refine fnI Tryd.func12 rfl rfl (fun w0 F0=> ?_)
 have hf0:=h.few0;have hf1:=h.few1;have hn8:=h.n8;have hsl:=solid_len s;have hhl:=hollow_len s;have hcl:=classes_len s;have hoq:=order_okQ h;have hol:=hoq.le
 refine fcC (inhS 0 rfl) (fun hS0=> ?_)
 obtain⟨hsa0,hss0,hse0⟩:=spec_lens hS0
 refine sq (rg (bx (key:=1) (cs:= [sl 1 strE s.actions,sl 2 stateE s.states]) rfl fun b1=>(al (key:=2) T.z25 (ex_cons (ex_cons (ex_nil))) fun b2=>(ag (nl (th (sq (rg (fP rfl T.fld25_1 (lP rfl rfl rfl T.one23 (fc (slenI 19 rfl) fun hm19=>(lnF rfl T.sl23 (mk (key:=21) (m:=s.states.length) (enc:=intE) (y:=(0:Int)) rfl rfl T.mk28 (ex_cons ex_nil) (by unfold maxL;omega) (by unfold maxL;omega) fun v21=>(ag (nl (th (sq (sq (rg (mv (lnO rfl rfl T.sl28 (mv (nl (th (bk ?_)))))))))))))))))))))))))
 have hI0_0:0≤s.states.length:=by
  first|omega|simp
 have hI0_1:(List.replicate s.states.length (0:Int))=List.replicate 0 (-1)++List.replicate (s.states.length- 0) 0:=by
  simp
 refine lp (κ:=Nat × (List Int)) (fun p=> [(1,ptr 1 b1 0),(2,ptr 2 b2 0),(3,eqv (.slice none 0 0)),(4,osl 21 v21),(23,int ((List.replicate s.states.length (0:Int)).length:Int)),(24,int (p.1:Int))]) (fun p=> [(1,cell b1 [sl 1 strE s.actions,sl 2 stateE s.states]),(2,cell b2 [eqv (.slice none 0 0),eqv (.slice none 0 0)]),(21,own v21 3 1 intE p.2)]) (fun p=>(p.1≤s.states.length)∧(p.2=List.replicate p.1 (-1)++List.replicate (s.states.length- p.1) 0)) (fun p=>s.states.length- p.1) ⟨0,List.replicate s.states.length (0:Int)⟩ ⟨hI0_0,hI0_1⟩ ⟨id,id,id,id,id,id,trivial⟩ ⟨⟨rfl,id⟩,⟨rfl,id⟩,⟨rfl,id⟩,trivial⟩ ?_
 intro⟨k,tl⟩ hG0
 obtain⟨hk0,hI0⟩:(k≤s.states.length)∧(tl=List.replicate k (-1)++List.replicate (s.states.length- k) 0):=hG0
 show Ct _ _ _ _ [(1,ptr 1 b1 0),(2,ptr 2 b2 0),(3,eqv (.slice none 0 0)),(4,osl 21 v21),(23,int ((List.replicate s.states.length (0:Int)).length:Int)),(24,int (k:Int))] [(1,cell b1 [sl 1 strE s.actions,sl 2 stateE s.states]),(2,cell b2 [eqv (.slice none 0 0),eqv (.slice none 0 0)]),(21,own v21 3 1 intE tl)] _
 have htl:tl.length=s.states.length:=by rw[hI0];simp;omega
 refine sq (rg (bi rfl rfl b_lss (nl (th (sq ?_)))))
 refine cd rfl (fun hc0=> ?_) (fun hc0=> ?_)
 ·try simp at hc0
  refine sk (th (sq (bk (sq (rg (mv (ag (nl (th (rg (mv (mv (iO rfl rfl rfl T.sl28 (by omega) (by omega) (sO (φ:=int (-1)) rfl rfl rfl T.one3 (by first|exact gN (by omega)|exact gI (by omega) (by omega)) rfl (y':=(-1)) rfl (nl (eb (th (rg (bi rfl rfl (b_add (by unfold I64;omega)) (mv (nl ?_)))))))))))))))))))))
  have hN0:(k+1)≤s.states.length:=by
   first|omega|simp_all
  have hN1:(tl.set k (-1))=List.replicate (k+1) (-1)++List.replicate (s.states.length- (k+1)) 0:=by
   rw[hI0,set_mid (by simp) _ (by omega),List.replicate_succ']
   rw[show s.states.length- k- 1=s.states.length- (k+1) by omega]
  exact ln (⟨k+1,tl.set k (-1)⟩:Nat × (List Int)) ⟨hN0,hN1⟩ (by first|omega|(dsimp only;omega)) ⟨id,id,id,id,id,id,trivial⟩ ⟨⟨rfl,id⟩,⟨rfl,id⟩,⟨rfl,id⟩,trivial⟩
 ·try simp at hc0
  refine ex (xt_ (xt_ (xb (th (sq (sq (rg (lPA rfl rfl T.agg25 rfl (cal0 (φs:= [agg [sl 1 strE s.actions,sl 2 stateE s.states]]) (φ:=sl 1 blE (hollow s)) ⟨rfl,trivial⟩ (ref04.Hollow_ok s (by assumption)) T.ent36 (iF rfl rfl T.sl72 (by omega) (gK (k:=0) (by omega)) (lF rfl rfl T.one4 (nl (th ?_)))))))))))))
  refine cd rfl (fun hc1=> ?_) (fun hc1=> ?_)
  ·try simp at hc1
   refine sq (rg (fP rfl T.fld25_0 (lP rfl rfl rfl T.one22 (cal0 (φs:= [sl 1 strE s.actions]) (φ:=agg [sl 1 strE ((nothing s.actions).actions),sl 2 stateE ((nothing s.actions).states)]) ⟨rfl,trivial⟩ (ref03.Nothing_ok s.actions (by omega)) T.ent37 (mv (sPA (cs':= [sl 1 strE ((nothing s.actions).actions),sl 2 stateE ((nothing s.actions).states)]) rfl rfl rfl T.agg25 rfl rfl (ag (nl (th (rt (rt_ ?_)))))))))))
   have hL:leastR s=(nothing s.actions,List.replicate s.states.length (-1)):=by unfold leastR;rw[if_pos hc1]
   refine fzA 21 3 rfl rfl ?_
   have hr0:((nothing s.actions).actions)=(((leastR s).1).actions):=by
    rw[hL]
   have hr1:((nothing s.actions).states)=(((leastR s).1).states):=by
    rw[hL]
   have hr2:tl=((leastR s).2):=by
    rw[hL,hI0,show k=s.states.length by omega];simp
   have hall:∀x0 x1 x2,((nothing s.actions).actions)=x0→((nothing s.actions).states)=x1→tl=x2→resAV [agg [sl 1 strE ((nothing s.actions).actions),sl 2 stateE ((nothing s.actions).states)],sl 1 intE tl]=resAV [agg [sl 1 strE x0,sl 2 stateE x1],sl 1 intE x2]:=by rintro _ _ _ rfl rfl rfl;rfl
   exact rE () [.cell 2 25,.tmp 3] rfl [agg [sl 1 strE ((nothing s.actions).actions),sl 2 stateE ((nothing s.actions).states)],sl 1 intE tl] ⟨.agg rfl rfl T.agg25 rfl rfl,.tmp rfl,trivial⟩ (hall _ _ _ hr0 hr1 hr2) trivial (by first|exact .inr rfl|exact .inl rfl)
  ·try simp at hc1
   refine sk (th (sq ?_))
   refine drH (nh:=7) [0,1,0,7,0,31,63] [(none,[1]),(none,[]),(none,[1]),(none,[]),(some 7,[]),(none,[]),(some 7,[7])] T.mixed (by kernel_rfl) (by kernel_rfl) ?_
   refine stv (d:=39) (fun β0=>agg [sl 1 strE s.actions,sl 2 stateE s.states]) [1] rfl (fun β β' hb=>rfl) (fun β0 _ _ _ _ gq gh kq=>lPA (gq.1.trans rfl) (gh.1.trans rfl) T.agg25 rfl kq) ?_
   refine stv (d:=40) (fun β0=>sl 1 intE (classesR s)) [] rfl (fun β β' hb=>rfl) (fun β0 _ _ _ _ gq gh kq=>cal0 (φs:= [agg [sl 1 strE s.actions,sl 2 stateE s.states]]) (φ:=sl 1 intE (classesR s)) ⟨(gq.1.trans rfl),trivial⟩ (ref06.Classes_ok s (by assumption)) T.ent11 kq) ?_
   refine stv (d:=41) (fun β0=>agg [sl 1 strE s.actions,sl 2 stateE s.states]) [1] rfl (fun β β' hb=>rfl) (fun β0 _ _ _ _ gq gh kq=>lPA (gq.1.trans rfl) (gh.1.trans rfl) T.agg25 rfl kq) ?_
   refine stv (d:=42) (fun β0=>agg [sl 1 strE ((solid s).actions),sl 2 stateE ((solid s).states)]) [] rfl (fun β β' hb=>rfl) (fun β0 _ _ _ _ gq gh kq=>cal0 (φs:= [agg [sl 1 strE s.actions,sl 2 stateE s.states]]) (φ:=agg [sl 1 strE ((solid s).actions),sl 2 stateE ((solid s).states)]) ⟨(gq.1.trans rfl),trivial⟩ (ref04.Solid_ok s (by assumption)) T.ent34 kq) ?_
   refine sta 7 T.z25 (ex_cons (ex_cons (ex_nil))) ?_
   refine stv (d:=6) (fun β0=>sl 1 intE (classesR s)) [] rfl (fun β β' hb=>rfl) (fun β0 _ _ _ _ gq gh kq=>ag' (gq.1.trans rfl) kq) ?_
   refine stw 7 (fun β0=>cell (gbk (β0 4)) [sl 1 strE ((solid s).actions),sl 2 stateE ((solid s).states)]) [7] rfl (fun β β' hb=>by first|rw[hb 4 rfl]|(dsimp only;rw[hb 4 rfl])) (fun β0 _ _ _ _ gq gh kq=>sPA (cs':= [sl 1 strE ((solid s).actions),sl 2 stateE ((solid s).states)]) (gq.1.trans rfl) (gh.1.trans rfl) (gq.2.1.trans rfl) T.agg25 rfl rfl kq) ?_
   refine pnH fun β0=>(nl (th (sq (rg (fP rfl T.fld25_1 (lP rfl rfl rfl T.one23 (lnF rfl T.sl23 (mk (key:=46) (m:=s.states.length) (enc:=intE) (y:=(0:Int)) rfl rfl T.mk28 (ex_cons ex_nil) (by unfold maxL;omega) (by unfold maxL;omega) fun v46=>(ag (nl (th (sq (rg (nw 9 3 1 intE (ag (rtg (key:=9) 9 rfl (nl (th (sq (sq (rg (lPA rfl rfl T.agg25 rfl (cal0 (φs:= [agg [sl 1 strE ((solid s).actions),sl 2 stateE ((solid s).states)]]) (φ:=sl 1 intE (order (solid s))) ⟨rfl,trivial⟩ (ref04.Order_ok (solid s) (by rw[hsl];omega) (by rw[hsl];omega) (fun k hk=>by rw[hsl] at hk;exact⟨by rw[solid_next h hk];omega,fun a ha=>by rw[hsl];exact solid_bd h hk ha⟩)) T.ent38 (fc (slenI 48 rfl) fun hm48=>(lnF rfl T.sl28 (mv (nl (th (bk ?_)))))))))))))))))))))))))))))
   have hI1_0:0≤(order (solid s)).length:=by
    first|omega|simp
   have hI1_1:(([]:List Int),(List.replicate s.states.length (0:Int)),tl)=lfold (classesR s) s.states.length ((order (solid s)).take 0)∧([]:List Int).length≤0∧(List.replicate s.states.length (0:Int)).length=s.states.length∧tl.length=s.states.length∧(∀i,i<([]:List Int).length→0≤ix ([]:List Int) i∧ix ([]:List Int) i<(s.states.length:Int))∧∀c,0≤ix (List.replicate s.states.length (0:Int)) c∧ix (List.replicate s.states.length (0:Int)) c≤100000:=by
    have hk:k=s.states.length:=by omega
    refine⟨?_,by simp,by simp,by rw[hI0];simp;omega,by simp,fun c=> ?_⟩
    ·rw[hI0,hk,Nat.sub_self];simp[lfold]
    ·have e:ix (List.replicate s.states.length (0:Int)) c=0:=by
      unfold ix
      rw[List.getD_eq_getElem?_getD,List.getElem?_replicate]
      split<;>rfl
     rw[e];omega
   refine lp (κ:=Nat × Value × (List Int) × (List Int) × (List Int)) (fun p=> [(1,ptr 1 b1 0),(2,ptr 2 b2 0),(3,eqv (.slice none 0 0)),(4,osl 21 v21),(6,sl 1 intE (classesR s)),(7,ptr 7 (gbk (β0 4)) 0),(8,osl 46 v46),(9,osl 9 p.2.1),(48,sl 1 intE (order (solid s))),(49,int ((order (solid s)).length:Int)),(50,int (p.1:Int))]) (fun p=> [(1,cell b1 [sl 1 strE s.actions,sl 2 stateE s.states]),(2,cell b2 [eqv (.slice none 0 0),eqv (.slice none 0 0)]),(7,cell (gbk (β0 4)) [sl 1 strE ((solid s).actions),sl 2 stateE ((solid s).states)]),(9,own p.2.1 3 1 intE p.2.2.1),(21,own v21 3 1 intE p.2.2.2.2),(46,own v46 3 1 intE p.2.2.2.1)]) (fun p=>(p.1≤(order (solid s)).length)∧((p.2.2.1,p.2.2.2.1,p.2.2.2.2)=lfold (classesR s) s.states.length ((order (solid s)).take p.1)∧p.2.2.1.length≤p.1∧p.2.2.2.1.length=s.states.length∧p.2.2.2.2.length=s.states.length∧(∀i,i<p.2.2.1.length→0≤ix p.2.2.1 i∧ix p.2.2.1 i<(s.states.length:Int))∧∀c,0≤ix p.2.2.2.1 c∧ix p.2.2.2.1 c≤100000)) (fun p=>(order (solid s)).length- p.1) ⟨0,(.slice none 0 0),([]:List Int),List.replicate s.states.length (0:Int),tl⟩ ⟨hI1_0,hI1_1⟩ ⟨id,id,id,id,id,id,id,id,id,id,id,trivial⟩ ⟨⟨rfl,id⟩,⟨rfl,id⟩,⟨rfl,id⟩,⟨rfl,id⟩,⟨rfl,id⟩,⟨rfl,id⟩,trivial⟩ ?_
   intro⟨k1,v9x,fi,pl,tm⟩ hG1
   obtain⟨hk1,hI1⟩:(k1≤(order (solid s)).length)∧((fi,pl,tm)=lfold (classesR s) s.states.length ((order (solid s)).take k1)∧fi.length≤k1∧pl.length=s.states.length∧tm.length=s.states.length∧(∀i,i<fi.length→0≤ix fi i∧ix fi i<(s.states.length:Int))∧∀c,0≤ix pl c∧ix pl c≤100000):=hG1
   show Ct _ _ _ _ [(1,ptr 1 b1 0),(2,ptr 2 b2 0),(3,eqv (.slice none 0 0)),(4,osl 21 v21),(6,sl 1 intE (classesR s)),(7,ptr 7 (gbk (β0 4)) 0),(8,osl 46 v46),(9,osl 9 v9x),(48,sl 1 intE (order (solid s))),(49,int ((order (solid s)).length:Int)),(50,int (k1:Int))] [(1,cell b1 [sl 1 strE s.actions,sl 2 stateE s.states]),(2,cell b2 [eqv (.slice none 0 0),eqv (.slice none 0 0)]),(7,cell (gbk (β0 4)) [sl 1 strE ((solid s).actions),sl 2 stateE ((solid s).states)]),(9,own v9x 3 1 intE fi),(21,own v21 3 1 intE tm),(46,own v46 3 1 intE pl)] _
   refine sq (rg (bi rfl rfl b_lss (nl (th (sq ?_)))))
   refine cd rfl (fun hc2=> ?_) (fun hc2=> ?_)
   ·try simp at hc2
    have hox:=hoq.1 k1 (by omega)
    have hcx:=classes_bd h (x:=(ix (order (solid s)) k1).toNat) (by omega)
    refine sk (th (sq (bk (sq (rg (iF rfl rfl T.sl28 (by omega) (by first|exact gN (by omega)|exact gI (by omega) (by omega)) (lF rfl rfl T.one3 (ag (nl (th (sq (sq (rg (mv (mv (mv (iF rfl rfl T.sl28 (by omega) (by first|exact gN (by omega)|exact gI (by omega) (by omega)) (lF rfl rfl T.one3 (iO rfl rfl rfl T.sl28 (by omega) (by omega) (lO rfl rfl (by first|exact gN (by omega)|exact gI (by omega) (by omega)) rfl T.one3 (bi rfl rfl b_eql (nl (th ?_)))))))))))))))))))))))
    refine cd rfl (fun hc3=> ?_) (fun hc3=> ?_)
    ·try simp at hc3
     have hpv:∀v:Int,ix (pl.set (ix (classesR s) (ix (order (solid s)) k1).toNat).toNat v) (ix (classesR s) (ix (order (solid s)) k1).toNat).toNat=v:=fun v=>by rw[ix_set (by omega),if_pos rfl]
     refine sq (rg (mv (mv (bsE (enc:=intE) (xs:= [(ix (order (solid s)) k1)]) (css:= [[int (ix (order (solid s)) k1)]]) T.mk28 ⟨rfl,rfl,p1 (φ:=int (ix (order (solid s)) k1)) rfl,trivial⟩ rfl rfl rfl rfl (ap (key:=9) (zs:= [(ix (order (solid s)) k1)]) osl_eq rfl rfl rfl T.mk28 (by unfold maxL at*;simp;omega) (by unfold maxL at*;simp;omega) fun v65=>(ag (nl (th (rg (mv (mv (mv (iF rfl rfl T.sl28 (by omega) (by first|exact gN (by omega)|exact gI (by omega) (by omega)) (lF rfl rfl T.one3 (mv (lnO rfl rfl T.sl28 (iO rfl rfl rfl T.sl28 (by omega) (by omega) (sO (φ:=int ((fi++ [(ix (order (solid s)) k1)]).length:Int)) rfl rfl rfl T.one3 (by first|exact gN (by omega)|exact gI (by omega) (by omega)) rfl (y':=((fi++ [(ix (order (solid s)) k1)]).length:Int)) rfl (nl (th (rg (mv (mv (mv (mv (mv (iF rfl rfl T.sl28 (by omega) (by first|exact gN (by omega)|exact gI (by omega) (by omega)) (lF rfl rfl T.one3 (iO rfl rfl rfl T.sl28 (by omega) (by first|omega|(simp;omega)) (lO rfl rfl (by first|exact gI (by omega) (by omega)|exact gI (by omega) (by simp;omega)) rfl T.one3 (bi rfl rfl (b_sub (by first|(rw[hpv];unfold I64;simp;omega)|(unfold I64;omega))) (iO rfl rfl rfl T.sl28 (by omega) (by omega) (sO (φ:=int ((ix (pl.set ((ix (classesR s) ((ix (order (solid s)) k1).toNat)).toNat) ((fi++ [(ix (order (solid s)) k1)]).length:Int)) ((ix (classesR s) ((ix (order (solid s)) k1).toNat)).toNat))- 1)) rfl rfl rfl T.one3 (by first|exact gN (by omega)|exact gI (by omega) (by omega)) rfl (y':=((ix (pl.set ((ix (classesR s) ((ix (order (solid s)) k1).toNat)).toNat) ((fi++ [(ix (order (solid s)) k1)]).length:Int)) ((ix (classesR s) ((ix (order (solid s)) k1).toNat)).toNat))- 1)) rfl (nl (eb (th (rg (bi rfl rfl (b_add (by unfold I64;omega)) (mv (nl ?_))))))))))))))))))))))))))))))))))))))))
     have hN0:(k1+1)≤(order (solid s)).length:=by
      first|omega|simp_all
     have hN1:((fi++ [(ix (order (solid s)) k1)]),(pl.set ((ix (classesR s) ((ix (order (solid s)) k1).toNat)).toNat) ((fi++ [(ix (order (solid s)) k1)]).length:Int)),(tm.set ((ix (order (solid s)) k1).toNat) ((ix (pl.set ((ix (classesR s) ((ix (order (solid s)) k1).toNat)).toNat) ((fi++ [(ix (order (solid s)) k1)]).length:Int)) ((ix (classesR s) ((ix (order (solid s)) k1).toNat)).toNat))- 1)))=lfold (classesR s) s.states.length ((order (solid s)).take (k1+1))∧(fi++ [(ix (order (solid s)) k1)]).length≤(k1+1)∧(pl.set ((ix (classesR s) ((ix (order (solid s)) k1).toNat)).toNat) ((fi++ [(ix (order (solid s)) k1)]).length:Int)).length=s.states.length∧(tm.set ((ix (order (solid s)) k1).toNat) ((ix (pl.set ((ix (classesR s) ((ix (order (solid s)) k1).toNat)).toNat) ((fi++ [(ix (order (solid s)) k1)]).length:Int)) ((ix (classesR s) ((ix (order (solid s)) k1).toNat)).toNat))- 1)).length=s.states.length∧(∀i,i<(fi++ [(ix (order (solid s)) k1)]).length→0≤ix (fi++ [(ix (order (solid s)) k1)]) i∧ix (fi++ [(ix (order (solid s)) k1)]) i<(s.states.length:Int))∧∀c,0≤ix (pl.set ((ix (classesR s) ((ix (order (solid s)) k1).toNat)).toNat) ((fi++ [(ix (order (solid s)) k1)]).length:Int)) c∧ix (pl.set ((ix (classesR s) ((ix (order (solid s)) k1).toNat)).toNat) ((fi++ [(ix (order (solid s)) k1)]).length:Int)) c≤100000:=by
      refine⟨?_,by simp;omega,by simp;omega,by simp;omega,fun i hi=> ?_,fun c=> ?_⟩
      ·rw[take_s (by omega),lfold_snoc,←hI1.1]
       unfold lstep
       rw[if_pos hc3]
       simp
      ·rw[ix_snoc]
       simp at hi
       split
       ·exact hI1.2.2.2.2.1 i (by omega)
       ·rw[if_pos (by omega)];exact hox
      ·rw[ix_set (by omega)]
       split
       ·simp;omega
       ·exact hI1.2.2.2.2.2 c
     exact ln (⟨k1+1,v65,fi++ [(ix (order (solid s)) k1)],pl.set ((ix (classesR s) ((ix (order (solid s)) k1).toNat)).toNat) ((fi++ [(ix (order (solid s)) k1)]).length:Int),tm.set ((ix (order (solid s)) k1).toNat) ((ix (pl.set ((ix (classesR s) ((ix (order (solid s)) k1).toNat)).toNat) ((fi++ [(ix (order (solid s)) k1)]).length:Int)) ((ix (classesR s) ((ix (order (solid s)) k1).toNat)).toNat))- 1)⟩:Nat × Value × (List Int) × (List Int) × (List Int)) ⟨hN0,hN1⟩ (by first|omega|(dsimp only;omega)) ⟨id,id,id,id,id,id,id,id,id,id,id,trivial⟩ ⟨⟨rfl,id⟩,⟨rfl,id⟩,⟨rfl,id⟩,⟨rfl,id⟩,⟨rfl,id⟩,⟨rfl,id⟩,trivial⟩
    ·try simp at hc3
     have hpw:=hI1.2.2.2.2.2 (ix (classesR s) (ix (order (solid s)) k1).toNat).toNat
     refine sk (th (rg (mv (mv (mv (mv (mv (iF rfl rfl T.sl28 (by omega) (by first|exact gN (by omega)|exact gI (by omega) (by omega)) (lF rfl rfl T.one3 (iO rfl rfl rfl T.sl28 (by omega) (by first|omega|(simp;omega)) (lO rfl rfl (by first|exact gI (by omega) (by omega)|exact gI (by omega) (by simp;omega)) rfl T.one3 (bi rfl rfl (b_sub (by first|(rw[hpv];unfold I64;simp;omega)|(unfold I64;omega))) (iO rfl rfl rfl T.sl28 (by omega) (by omega) (sO (φ:=int ((ix pl ((ix (classesR s) ((ix (order (solid s)) k1).toNat)).toNat))- 1)) rfl rfl rfl T.one3 (by first|exact gN (by omega)|exact gI (by omega) (by omega)) rfl (y':=((ix pl ((ix (classesR s) ((ix (order (solid s)) k1).toNat)).toNat))- 1)) rfl (nl (eb (th (rg (bi rfl rfl (b_add (by unfold I64;omega)) (mv (nl ?_)))))))))))))))))))))
     have hN0:(k1+1)≤(order (solid s)).length:=by
      first|omega|simp_all
     have hN1:(fi,pl,(tm.set ((ix (order (solid s)) k1).toNat) ((ix pl ((ix (classesR s) ((ix (order (solid s)) k1).toNat)).toNat))- 1)))=lfold (classesR s) s.states.length ((order (solid s)).take (k1+1))∧fi.length≤(k1+1)∧pl.length=s.states.length∧(tm.set ((ix (order (solid s)) k1).toNat) ((ix pl ((ix (classesR s) ((ix (order (solid s)) k1).toNat)).toNat))- 1)).length=s.states.length∧(∀i,i<fi.length→0≤ix fi i∧ix fi i<(s.states.length:Int))∧∀c,0≤ix pl c∧ix pl c≤100000:=by
      refine⟨?_,by omega,hI1.2.2.1,by simp;omega,hI1.2.2.2.2⟩
      rw[take_s (by omega),lfold_snoc,←hI1.1]
      unfold lstep
      rw[if_neg hc3]
     exact ln (⟨k1+1,v9x,fi,pl,tm.set ((ix (order (solid s)) k1).toNat) ((ix pl ((ix (classesR s) ((ix (order (solid s)) k1).toNat)).toNat))- 1)⟩:Nat × Value × (List Int) × (List Int) × (List Int)) ⟨hN0,hN1⟩ (by first|omega|(dsimp only;omega)) ⟨id,id,id,id,id,id,id,id,id,id,id,trivial⟩ ⟨⟨rfl,id⟩,⟨rfl,id⟩,⟨rfl,id⟩,⟨rfl,id⟩,⟨rfl,id⟩,⟨rfl,id⟩,trivial⟩
   ·try simp at hc2
    refine ex (xt_ (xt_ (xb (th (sq (rg (fP rfl T.fld25_0 (lP rfl rfl rfl T.one22 (appendF (enc:=strE) (ys:=s.actions) rfl rfl T.mk22 (by unfold maxL;omega) (bd (css:= [(0,_)]) T.st25 (ex_cons (ex_cons (ex_nil))) ⟨rfl,rfl,p1 (φ:=sl 1 strE s.actions) rfl,trivial⟩ (al (key:=12) T.z25 (ex_cons (ex_cons (ex_nil))) fun b12=>(sPA (cs':= [sl 1 strE s.actions,eqv (.slice none 0 0)]) rfl rfl rfl T.agg25 rfl rfl (nl (th (sq (sq (rg (mv (lnO rfl rfl T.sl28 (mv (nl (th (bk ?_)))))))))))))))))))))))
    refine nwC 120 69 2 stateE (kncC 12 1 (osl 120 (.slice none 0 0)) rfl rfl eq_osl ?_)
    have hI2_0:0≤fi.length:=by
     first|omega|simp
    have hI2_1:([]:List SState)=(fi.take 0).map (outState (solid s) tm):=by
     simp
    refine lp (κ:=Nat × Value × (List SState)) (fun p=> [(2,ptr 2 b2 0),(3,eqv (.slice none 0 0)),(4,osl 21 v21),(7,ptr 7 (gbk (β0 4)) 0),(12,ptr 12 b12 0),(90,osl 9 v9x),(91,int (fi.length:Int)),(92,int (p.1:Int))]) (fun p=> [(1,cell b1 [sl 1 strE s.actions,sl 2 stateE s.states]),(2,cell b2 [eqv (.slice none 0 0),eqv (.slice none 0 0)]),(7,cell (gbk (β0 4)) [sl 1 strE ((solid s).actions),sl 2 stateE ((solid s).states)]),(9,own v9x 3 1 intE fi),(12,cell b12 [sl 1 strE s.actions,osl 120 p.2.1]),(21,own v21 3 1 intE tm),(46,own v46 3 1 intE pl),(120,own p.2.1 69 2 stateE p.2.2)]) (fun p=>(p.1≤fi.length)∧(p.2.2=(fi.take p.1).map (outState (solid s) tm))) (fun p=>fi.length- p.1) ⟨0,(.slice none 0 0),([]:List SState)⟩ ⟨hI2_0,hI2_1⟩ ⟨id,id,id,id,id,id,id,id,trivial⟩ ⟨⟨rfl,id⟩,⟨rfl,id⟩,⟨rfl,id⟩,⟨rfl,id⟩,⟨rfl,id⟩,⟨rfl,id⟩,⟨rfl,id⟩,⟨rfl,id⟩,trivial⟩ ?_
    intro⟨k2,v2x,acc⟩ hG2
    obtain⟨hk2,hI2⟩:(k2≤fi.length)∧(acc=(fi.take k2).map (outState (solid s) tm)):=hG2
    show Ct _ _ _ _ [(2,ptr 2 b2 0),(3,eqv (.slice none 0 0)),(4,osl 21 v21),(7,ptr 7 (gbk (β0 4)) 0),(12,ptr 12 b12 0),(90,osl 9 v9x),(91,int (fi.length:Int)),(92,int (k2:Int))] [(1,cell b1 [sl 1 strE s.actions,sl 2 stateE s.states]),(2,cell b2 [eqv (.slice none 0 0),eqv (.slice none 0 0)]),(7,cell (gbk (β0 4)) [sl 1 strE ((solid s).actions),sl 2 stateE ((solid s).states)]),(9,own v9x 3 1 intE fi),(12,cell b12 [sl 1 strE s.actions,osl 120 v2x]),(21,own v21 3 1 intE tm),(46,own v46 3 1 intE pl),(120,own v2x 69 2 stateE acc)] _
    have hal:acc.length≤k2:=by rw[hI2];simp;omega
    have hF:=hI1.2.2.2.2.1
    refine sq (rg (bi rfl rfl b_lss (nl (th (sq ?_)))))
    refine cd rfl (fun hc4=> ?_) (fun hc4=> ?_)
    ·try simp at hc4
     have hfx:=hF k2 (by omega)
     have hsn:=solid_next h (x:=(ix fi k2).toNat) (by omega)
     refine sk (th (sq (bk (sq (rg (iO rfl rfl rfl T.sl28 (by omega) (by omega) (lO rfl rfl (by first|exact gN (by omega)|exact gI (by omega) (by omega)) rfl T.one3 (ag (nl (th (sq (rg (fP rfl T.fld25_1 (lP rfl rfl rfl T.one23 (mv (iF rfl rfl T.sl23 (by omega) (by first|exact gN (by omega)|exact gI (by omega) (by omega)) (fF rfl T.fld69_0 (lF rfl rfl T.one28 (bd (css:= [(0,_)]) T.st69 (ex_cons (ex_cons (ex_nil))) ⟨rfl,rfl,p1 (φ:=sl 1 intE ((ix ((solid s).states) ((ix fi k2).toNat)).accept)) rfl,trivial⟩ (al (key:=15) T.z69 (ex_cons (ex_cons (ex_nil))) fun b15=>(sPA (cs':= [sl 1 intE ((ix ((solid s).states) ((ix fi k2).toNat)).accept),eqv (.slice none 0 0)]) rfl rfl rfl T.agg69 rfl rfl (nl (th (sq (sq (rg (fP rfl T.fld25_1 (lP rfl rfl rfl T.one23 (mv (iF rfl rfl T.sl23 (by omega) (by first|exact gN (by omega)|exact gI (by omega) (by omega)) (fF rfl T.fld69_1 (lF rfl rfl T.one28 (fc (slenI 108 rfl) fun hm108=>(lnF rfl T.sl28 (mv (nl (th (bk ?_))))))))))))))))))))))))))))))))))))))
     refine nwC 151 3 1 intE (kncC 15 1 (osl 151 (.slice none 0 0)) rfl rfl eq_osl ?_)
     have hI3_0:0≤((ix ((solid s).states) ((ix fi k2).toNat)).next).length:=by
      first|omega|simp
     have hI3_1:([]:List Int)=((ix (solid s).states (ix fi k2).toNat).next.take 0).map (mapK tm):=by
      simp
     refine lp (κ:=Nat × Value × (List Int)) (fun p=> [(2,ptr 2 b2 0),(3,eqv (.slice none 0 0)),(4,osl 21 v21),(7,ptr 7 (gbk (β0 4)) 0),(12,ptr 12 b12 0),(15,ptr 15 b15 0),(90,osl 9 v9x),(91,int (fi.length:Int)),(92,int (k2:Int)),(108,sl 1 intE ((ix ((solid s).states) ((ix fi k2).toNat)).next)),(109,int (((ix ((solid s).states) ((ix fi k2).toNat)).next).length:Int)),(110,int (p.1:Int))]) (fun p=> [(1,cell b1 [sl 1 strE s.actions,sl 2 stateE s.states]),(2,cell b2 [eqv (.slice none 0 0),eqv (.slice none 0 0)]),(7,cell (gbk (β0 4)) [sl 1 strE ((solid s).actions),sl 2 stateE ((solid s).states)]),(9,own v9x 3 1 intE fi),(12,cell b12 [sl 1 strE s.actions,osl 120 v2x]),(15,cell b15 [sl 1 intE ((ix (solid s).states (ix fi k2).toNat).accept),osl 151 p.2.1]),(21,own v21 3 1 intE tm),(46,own v46 3 1 intE pl),(120,own v2x 69 2 stateE acc),(151,own p.2.1 3 1 intE p.2.2)]) (fun p=>(p.1≤((ix ((solid s).states) ((ix fi k2).toNat)).next).length)∧(p.2.2=((ix (solid s).states (ix fi k2).toNat).next.take p.1).map (mapK tm))) (fun p=>((ix ((solid s).states) ((ix fi k2).toNat)).next).length- p.1) ⟨0,(.slice none 0 0),([]:List Int)⟩ ⟨hI3_0,hI3_1⟩ ⟨id,id,id,id,id,id,id,id,id,id,id,id,trivial⟩ ⟨⟨rfl,id⟩,⟨rfl,id⟩,⟨rfl,id⟩,⟨rfl,id⟩,⟨rfl,id⟩,⟨rfl,id⟩,⟨rfl,id⟩,⟨rfl,id⟩,⟨rfl,id⟩,⟨rfl,id⟩,trivial⟩ ?_
     intro⟨k3,v3x,l3⟩ hG3
     obtain⟨hk3,hI3⟩:(k3≤((ix ((solid s).states) ((ix fi k2).toNat)).next).length)∧(l3=((ix (solid s).states (ix fi k2).toNat).next.take k3).map (mapK tm)):=hG3
     show Ct _ _ _ _ [(2,ptr 2 b2 0),(3,eqv (.slice none 0 0)),(4,osl 21 v21),(7,ptr 7 (gbk (β0 4)) 0),(12,ptr 12 b12 0),(15,ptr 15 b15 0),(90,osl 9 v9x),(91,int (fi.length:Int)),(92,int (k2:Int)),(108,sl 1 intE ((ix ((solid s).states) ((ix fi k2).toNat)).next)),(109,int (((ix ((solid s).states) ((ix fi k2).toNat)).next).length:Int)),(110,int (k3:Int))] [(1,cell b1 [sl 1 strE s.actions,sl 2 stateE s.states]),(2,cell b2 [eqv (.slice none 0 0),eqv (.slice none 0 0)]),(7,cell (gbk (β0 4)) [sl 1 strE ((solid s).actions),sl 2 stateE ((solid s).states)]),(9,own v9x 3 1 intE fi),(12,cell b12 [sl 1 strE s.actions,osl 120 v2x]),(15,cell b15 [sl 1 intE ((ix (solid s).states (ix fi k2).toNat).accept),osl 151 v3x]),(21,own v21 3 1 intE tm),(46,own v46 3 1 intE pl),(120,own v2x 69 2 stateE acc),(151,own v3x 3 1 intE l3)] _
     have hl3:l3.length≤k3:=by rw[hI3];simp;omega
     refine sq (rg (bi rfl rfl b_lss (nl (th (sq ?_)))))
     refine cd rfl (fun hc5=> ?_) (fun hc5=> ?_)
     ·try simp at hc5
      have hbd:=solid_bd h (x:=(ix fi k2).toNat) (by omega) (a:=k3) (by omega)
      refine sk (th (sq (bk (sq (rg (iF rfl rfl T.sl28 (by omega) (by first|exact gN (by omega)|exact gI (by omega) (by omega)) (lF rfl rfl T.one3 (ag (nl (th (sq (sq (rg (mv (bi rfl rfl b_geq (nl (th ?_)))))))))))))))))
      refine cd rfl (fun hc6=> ?_) (fun hc6=> ?_)
      ·try simp at hc6
       refine rg (mv (mv (iO rfl rfl rfl T.sl28 (by omega) (by omega) (lO rfl rfl (by first|exact gN (by omega)|exact gI (by omega) (by omega)) rfl T.one3 (ag (nl (th (rg (fP rfl T.fld69_1 (lP rfl rfl rfl T.one28 (mv (bsE (enc:=intE) (xs:= [(ix tm ((ix ((ix ((solid s).states) ((ix fi k2).toNat)).next) k3).toNat))]) (css:= [[int (ix tm ((ix ((ix ((solid s).states) ((ix fi k2).toNat)).next) k3).toNat))]]) T.mk28 ⟨rfl,rfl,p1 (φ:=int (ix tm ((ix ((ix ((solid s).states) ((ix fi k2).toNat)).next) k3).toNat))) rfl,trivial⟩ rfl rfl rfl rfl (ap (key:=151) (zs:= [(ix tm ((ix ((ix ((solid s).states) ((ix fi k2).toNat)).next) k3).toNat))]) osl_eq rfl rfl rfl T.mk28 (by unfold maxL at*;simp;omega) (by unfold maxL at*;simp;omega) fun v124=>(fP rfl T.fld69_1 (storePO rfl rfl rfl rfl T.one28 rfl (nl (eb (th (rg (bi rfl rfl (b_add (by unfold I64;omega)) (mv (nl ?_))))))))))))))))))))))
       have hN0:(k3+1)≤((ix ((solid s).states) ((ix fi k2).toNat)).next).length:=by
        first|omega|simp_all
       have hN1:(l3++ [(ix tm ((ix ((ix ((solid s).states) ((ix fi k2).toNat)).next) k3).toNat))])=((ix (solid s).states (ix fi k2).toNat).next.take (k3+1)).map (mapK tm):=by
        rw[map_take_succ (by omega),hI3];simp[mapK,hc6]
       exact ln (⟨k3+1,v124,l3++ [(ix tm ((ix ((ix ((solid s).states) ((ix fi k2).toNat)).next) k3).toNat))]⟩:Nat × Value × (List Int)) ⟨hN0,hN1⟩ (by first|omega|(dsimp only;omega)) ⟨id,id,id,id,id,id,id,id,id,id,id,id,trivial⟩ ⟨⟨rfl,id⟩,⟨rfl,id⟩,⟨rfl,id⟩,⟨rfl,id⟩,⟨rfl,id⟩,⟨rfl,id⟩,⟨rfl,id⟩,⟨rfl,id⟩,⟨rfl,id⟩,⟨rfl,id⟩,trivial⟩
      ·try simp at hc6
       refine sk (th (rg (fP rfl T.fld69_1 (lP rfl rfl rfl T.one28 (mv (bsE (enc:=intE) (xs:= [(ix ((ix ((solid s).states) ((ix fi k2).toNat)).next) k3)]) (css:= [[int (ix ((ix ((solid s).states) ((ix fi k2).toNat)).next) k3)]]) T.mk28 ⟨rfl,rfl,p1 (φ:=int (ix ((ix ((solid s).states) ((ix fi k2).toNat)).next) k3)) rfl,trivial⟩ rfl rfl rfl rfl (ap (key:=151) (zs:= [(ix ((ix ((solid s).states) ((ix fi k2).toNat)).next) k3)]) osl_eq rfl rfl rfl T.mk28 (by unfold maxL at*;simp;omega) (by unfold maxL at*;simp;omega) fun v124=>(fP rfl T.fld69_1 (storePO rfl rfl rfl rfl T.one28 rfl (nl (eb (th (rg (bi rfl rfl (b_add (by unfold I64;omega)) (mv (nl ?_))))))))))))))))
       have hN0:(k3+1)≤((ix ((solid s).states) ((ix fi k2).toNat)).next).length:=by
        first|omega|simp_all
       have hN1:(l3++ [(ix ((ix ((solid s).states) ((ix fi k2).toNat)).next) k3)])=((ix (solid s).states (ix fi k2).toNat).next.take (k3+1)).map (mapK tm):=by
        rw[map_take_succ (by omega),hI3];simp[mapK];omega
       exact ln (⟨k3+1,v124,l3++ [(ix ((ix ((solid s).states) ((ix fi k2).toNat)).next) k3)]⟩:Nat × Value × (List Int)) ⟨hN0,hN1⟩ (by first|omega|(dsimp only;omega)) ⟨id,id,id,id,id,id,id,id,id,id,id,id,trivial⟩ ⟨⟨rfl,id⟩,⟨rfl,id⟩,⟨rfl,id⟩,⟨rfl,id⟩,⟨rfl,id⟩,⟨rfl,id⟩,⟨rfl,id⟩,⟨rfl,id⟩,⟨rfl,id⟩,⟨rfl,id⟩,trivial⟩
     ·try simp at hc5
      refine ex (xt_ (xt_ (xb (th (rg (fP rfl T.fld25_1 (lP rfl rfl rfl T.one23 (fzc 15 151 1 rfl rfl rfl rfl (lPA rfl rfl T.agg69 rfl (bsE (enc:=stateE) (xs:= [(⟨(ix (solid s).states (ix fi k2).toNat).accept,l3⟩)]) (css:= [[sl 1 intE ((ix (solid s).states (ix fi k2).toNat).accept),sl 1 intE l3]]) T.mk23 ⟨rfl,rfl,pA (cs:= [sl 1 intE ((ix (solid s).states (ix fi k2).toNat).accept),sl 1 intE l3]) rfl,trivial⟩ rfl rfl rfl rfl (ap (key:=120) (zs:= [(⟨(ix (solid s).states (ix fi k2).toNat).accept,l3⟩)]) osl_eq rfl rfl rfl T.mk23 (by unfold maxL at*;simp;omega) (by unfold maxL at*;simp;omega) fun v131=>(fP rfl T.fld25_1 (storePO rfl rfl rfl rfl T.one23 rfl (nl (eb (th (rg (bi rfl rfl (b_add (by unfold I64;omega)) (mv (nl ?_))))))))))))))))))))
      have hN0:(k2+1)≤fi.length:=by
       first|omega|simp_all
      have hN1:(acc++ [(⟨(ix (solid s).states (ix fi k2).toNat).accept,l3⟩)])=(fi.take (k2+1)).map (outState (solid s) tm):=by
       rw[map_take_succ (by omega),hI2]
       congr 2
       unfold outState
       rw[hI3,show k3=(ix (solid s).states (ix fi k2).toNat).next.length by omega,List.take_length]
      exact ln (⟨k2+1,v131,acc++ [(⟨(ix (solid s).states (ix fi k2).toNat).accept,l3⟩)]⟩:Nat × Value × (List SState)) ⟨hN0,hN1⟩ (by first|omega|(dsimp only;omega)) ⟨id,id,id,id,id,id,id,id,trivial⟩ ⟨⟨rfl,id⟩,⟨rfl,id⟩,⟨rfl,id⟩,⟨rfl,id⟩,⟨rfl,id⟩,⟨rfl,id⟩,⟨rfl,id⟩,⟨rfl,id⟩,trivial⟩
    ·try simp at hc4
     refine ex (xt_ (xt_ (xb (th (sq (rg (fzc 12 120 1 rfl rfl rfl rfl (lPA rfl rfl T.agg25 rfl (mv (sPA (cs':= [sl 1 strE s.actions,sl 2 stateE acc]) rfl rfl rfl T.agg25 rfl rfl (ag (nl (th (rt ?_))))))))))))))
     have hL:leastR s=(⟨s.actions,fi.map (outState (solid s) tm)⟩,tm):=by
      have h1:=hI1.1
      rw[show k1=(order (solid s)).length by omega,List.take_length] at h1
      unfold leastR
      rw[if_neg (by simp[hc1])]
      simp only [←h1]
     refine fzA 21 3 rfl rfl ?_
     have hr0:s.actions=(((leastR s).1).actions):=by
      rw[hL]
     have hr1:acc=(((leastR s).1).states):=by
      rw[hL,hI2,show k2=fi.length by omega,List.take_length]
     have hr2:tm=((leastR s).2):=by
      rw[hL]
     have hall:∀x0 x1 x2,s.actions=x0→acc=x1→tm=x2→resAV [agg [sl 1 strE s.actions,sl 2 stateE acc],sl 1 intE tm]=resAV [agg [sl 1 strE x0,sl 2 stateE x1],sl 1 intE x2]:=by rintro _ _ _ rfl rfl rfl;rfl
     exact rE () [.cell 2 25,.tmp 3] rfl [agg [sl 1 strE s.actions,sl 2 stateE acc],sl 1 intE tm] ⟨.agg rfl rfl T.agg25 rfl rfl,.tmp rfl,trivial⟩ (hall _ _ _ hr0 hr1 hr2) trivial (by first|exact .inr rfl|exact .inl rfl)
end ref06
end Go.Proofs.YtolpjmllmlahfaaDoor
namespace Go.Proofs.YtolpjmllmlahfaaDoor
open AL Go
set_option maxRecDepth 100000
set_option linter.all false
open ref01 ref03 ref04 ref06 Part
theorem indexOf_bd (l:List ByteArray) (s:ByteArray):(0≤indexOf l s↔s∈l):=by
 unfold indexOf
 cases h:l.findIdx? (fun x=>decide (x=s)) with
 |none=>
  rw[List.findIdx?_eq_none_iff] at h
  simp
  intro hm
  have:=h s hm
  simp at this
 |some i=>
  rw[List.findIdx?_eq_some_iff_getElem] at h
  obtain⟨h1,h2,_⟩:=h
  simp at h2
  simp
  rw[←h2];exact List.getElem_mem h1
theorem bsize {s:ByteArray} (h:¬s=⟨#[]⟩):1≤s.size:=by
 rcases Nat.eq_zero_or_pos s.size with h0|h0
 ·exact absurd (by
   cases s with
   |mk d=>simp[ByteArray.size] at h0;simp[h0]) h
 ·exact h0
theorem indexOf_self {l:List ByteArray} {k:Nat} (hk:k<l.length):(indexOf l (ix l k)=(k:Int))↔¬ix l k∈l.take k:=by
 unfold indexOf
 cases h:l.findIdx? (fun x=>decide (x=ix l k)) with
 |none=>
  rw[List.findIdx?_eq_none_iff] at h
  have:=h (ix l k) (by rw[ix_get hk];exact List.getElem_mem hk)
  simp at this
 |some i=>
  rw[List.findIdx?_eq_some_iff_getElem] at h
  obtain⟨h1,h2,h3⟩:=h
  simp at h2
  constructor
  ·intro e hm
   have e:(i:Int)=(k:Int):=e
   have e:i=k:=by omega
   subst e
   obtain⟨j,hj,he⟩:=List.mem_take_iff_getElem.1 hm
   have:=h3 j (by omega)
   simp at this
   exact this he
  ·intro hn
   rcases Nat.lt_trichotomy i k with hlt|e|hgt
   ·exact absurd (List.mem_take_iff_getElem.2 ⟨i,by omega,h2⟩) hn
   ·simp[e]
   ·have:=h3 k hgt
    rw[ix_get hk] at this
    simp at this
namespace T
theorem ent112:Ent Tryd.prog 112:=ent_of (by kernel_rfl)
theorem ent113:Ent Tryd.prog 113:=ent_of (by kernel_rfl)
theorem ent86:Ent Tryd.prog 86:=ent_of (by kernel_rfl)
theorem ent87:Ent Tryd.prog 87:=ent_of (by kernel_rfl)
end T
namespace prog
theorem aletter_ok (c:Int):
 Fn0 Tryd.prog 112 [u8 c] (bl (isLetter c)):=by
 refine fnI Tryd.func112 rfl rfl (fun w0 F0=> ?_)
 refine sq (rg (ag (nl (th (sq (rg (mv (bi rfl rfl b_geq (mv ?_)))))))))
 apply gAnd (t:=5) (pd:=8) rfl
 rotate_left
 ·intro hg0 fin
  have hg0':=hg0
  try simp at hg0'
  exact gy rfl rfl rfl hg0 (mv (gy rfl rfl rfl hg0 (bi rfl rfl b_leq (pkT rfl hg0 rfl (drp (X:= [(7,_),(6,_)]) ⟨rfl,rfl,trivial⟩ (fin))))))
 ·intro hg0 fin
  exact gn rfl rfl rfl hg0 rfl rfl (gn rfl rfl rfl hg0 rfl rfl (pkF rfl hg0 rfl (drp (X:= [(7,_),(6,_)]) ⟨rfl,rfl,trivial⟩ (fin))))
 refine mv ?_
 apply gOr (t:=9) (pd:=16) rfl
 rotate_left
 ·intro hg1 fin
  have hg1':=hg1
  try simp at hg1'
  refine gy rfl rfl rfl hg1 (mv (gy rfl rfl rfl hg1 (bi rfl rfl b_geq (gy rfl rfl rfl hg1 (mv ?_)))))
  apply gAnd (t:=12) (pd:=15) rfl
  rotate_left
  ·intro hg2 fin
   have hg2':=hg2
   try simp at hg2'
   exact gy rfl rfl rfl hg2 (mv (gy rfl rfl rfl hg2 (bi rfl rfl b_leq (gy rfl rfl rfl hg1 (pkT rfl hg2 rfl (drp (X:= [(14,_),(13,_)]) ⟨rfl,rfl,trivial⟩ (fin)))))))
  ·intro hg2 fin
   exact gn rfl rfl rfl hg2 rfl rfl (gn rfl rfl rfl hg2 rfl rfl (gy rfl rfl rfl hg1 (pkF rfl hg2 rfl (drp (X:= [(14,_),(13,_)]) ⟨rfl,rfl,trivial⟩ (fin)))))
  exact pkF rfl hg1 rfl (drp (X:= [(15,_),(12,_),(11,_),(10,_)]) ⟨rfl,rfl,rfl,rfl,trivial⟩ (fin))
 ·intro hg1 fin
  exact gn rfl rfl rfl hg1 rfl rfl (gn rfl rfl rfl hg1 rfl rfl (gn rfl rfl rfl hg1 rfl rfl (gu rfl rfl rfl rfl rfl (gu rfl rfl rfl rfl rfl (gn rfl rfl rfl hg1 rfl rfl (pkT rfl hg1 rfl (drp (X:= [(15,_),(14,_),(13,_),(12,_),(11,_),(10,_)]) ⟨rfl,rfl,rfl,rfl,rfl,rfl,trivial⟩ (fin))))))))
 refine ag (nl (th (rt ?_)))
 have hr0:(((decide (97≤c))&&(decide (c≤122)))||((decide (65≤c))&&(decide (c≤90))))=(isLetter c):=by
  first|rfl|simp_all|omega
 have hall:∀x0,(((decide (97≤c))&&(decide (c≤122)))||((decide (65≤c))&&(decide (c≤90))))=x0→resAV [bl (((decide (97≤c))&&(decide (c≤122)))||((decide (65≤c))&&(decide (c≤90))))]=resAV [bl x0]:=by rintro _ rfl;rfl
 exact rE () [.tmp 2] rfl [bl (((decide (97≤c))&&(decide (c≤122)))||((decide (65≤c))&&(decide (c≤90))))] ⟨.tmp rfl,trivial⟩ (hall _ hr0) trivial (by first|exact .inr rfl|exact .inl rfl)
theorem aName_ok (s:ByteArray):
 Fn0 Tryd.prog 86 [str s] (bl (isName s)):=by
 refine fnI Tryd.func86 rfl rfl (fun w0 F0=> ?_)
 refine sq (rg (ag (nl (th (sq (sq (rg (mv (bi rfl rfl b_eqlS (mv ?_))))))))))
 apply gOr (t:=7) (pd:=11) rfl
 rotate_left
 ·intro hg0 fin
  have hg0':=hg0
  try simp at hg0'
  exact gy rfl rfl rfl hg0 (mv (gy rfl rfl rfl hg0 (lnS rfl T.str9 (gy rfl rfl rfl hg0 (bi rfl rfl b_gtr (pkF rfl hg0 rfl (drp (X:= [(10,_),(9,_),(8,_)]) ⟨rfl,rfl,rfl,trivial⟩ (fin))))))))
 ·intro hg0 fin
  exact gn rfl rfl rfl hg0 rfl rfl (gn rfl rfl rfl hg0 rfl rfl (gn rfl rfl rfl hg0 rfl rfl (pkT rfl hg0 rfl (drp (X:= [(10,_),(9,_),(8,_)]) ⟨rfl,rfl,rfl,trivial⟩ (fin)))))
 refine mv ?_
 apply gOr (t:=12) (pd:=17) rfl
 rotate_left
 ·intro hg1 fin
  have hg1':=hg1
  try simp at hg1'
  have hs1:1≤s.size:=bsize (fun e=>by rw[decide_eq_true e] at hg1;cases hg1)
  exact gy rfl rfl rfl hg1 (mv (gy rfl rfl rfl hg1 (idxS rfl rfl T.str9 (by omega) (by omega) (gy rfl rfl rfl hg1 (cal0 (φs:= [u8 (byteAt s 0)]) (φ:=bl (isLetter (byteAt s 0))) ⟨rfl,trivial⟩ (prog.aletter_ok _) T.ent112 (gy rfl rfl rfl hg1 (no rfl (pkF rfl hg1 rfl (drp (X:= [(16,_),(15,_),(14,_),(13,_)]) ⟨rfl,rfl,rfl,rfl,trivial⟩ (fin))))))))))
 ·intro hg1 fin
  exact gn rfl rfl rfl hg1 rfl rfl (gn rfl rfl rfl hg1 rfl rfl (gn rfl rfl rfl hg1 rfl rfl (gn rfl rfl rfl hg1 rfl rfl (pkT rfl hg1 rfl (drp (X:= [(16,_),(15,_),(14,_),(13,_)]) ⟨rfl,rfl,rfl,rfl,trivial⟩ (fin))))))
 refine nl (th ?_)
 refine cd rfl (fun hc0=> ?_) (fun hc0=> ?_)
 ·try simp at hc0
  refine sq (rg (ag (nl (th (rt (rt_ ?_))))))
  have hr0:false=(isName s):=by
   unfold isName
   by_cases h0:1≤s.size
   ·by_cases h2:s.size≤20
    ·by_cases h1:isLetter (byteAt s 0)=true
     ·exfalso
      rcases hc0 with(h|h)|h
      ·subst h;simp[ByteArray.size] at h0
      ·omega
      ·rw[h1] at h;cases h
     ·simp[h1]
    ·simp[h2]
   ·simp[h0]
  have hall:∀x0,false=x0→resAV [bl false]=resAV [bl x0]:=by rintro _ rfl;rfl
  exact rE () [.tmp 2] rfl [bl false] ⟨.tmp rfl,trivial⟩ (hall _ hr0) trivial (by first|exact .inr rfl|exact .inl rfl)
 ·try simp at hc0
  have hs1:1≤s.size:=bsize (by simpa using hc0.1.1)
  refine sk (th (sq (sq (rg (mv (lnS rfl T.str9 (mv (nl (th (bk ?_))))))))))
  have hI0_0:0≤s.size:=by
   first|omega|simp
  have hI0_1:(List.range 0).all (fun i=>nameByte (byteAt s i))=true:=by
   simp
  refine lp (κ:=Nat) (fun p=> [(0,str s),(19,int (s.size:Int)),(20,int (p:Int))]) (fun p=> []) (fun p=>(p≤s.size)∧((List.range p).all (fun i=>nameByte (byteAt s i))=true)) (fun p=>s.size- p) 0 ⟨hI0_0,hI0_1⟩ ⟨id,id,id,trivial⟩ trivial ?_
  intro k hG0
  obtain⟨hk0,hI0⟩:(k≤s.size)∧((List.range k).all (fun i=>nameByte (byteAt s i))=true):=hG0
  refine sq (rg (bi rfl rfl b_lss (nl (th (sq ?_)))))
  refine cd rfl (fun hc1=> ?_) (fun hc1=> ?_)
  ·try simp at hc1
   refine sk (th (sq (bk (sq (rg (mv (ag (nl (th (sq (rg (mv (mv (idxS rfl rfl T.str9 (by omega) (by omega) (ag (nl (th (sq (rg (mv (cal0 (φs:= [u8 (byteAt s k)]) (φ:=bl (isLetter (byteAt s k))) ⟨rfl,trivial⟩ (prog.aletter_ok _) T.ent112 (no rfl (mv ?_)))))))))))))))))))))))
   apply gAnd (t:=29) (pd:=36) rfl
   rotate_left
   ·intro hg2 fin
    have hg2':=hg2
    try simp at hg2'
    refine gy rfl rfl rfl hg2 (mv (gy rfl rfl rfl hg2 (bi rfl rfl b_lss (gy rfl rfl rfl hg2 (mv ?_)))))
    apply gOr (t:=32) (pd:=35) rfl
    rotate_left
    ·intro hg3 fin
     have hg3':=hg3
     try simp at hg3'
     exact gy rfl rfl rfl hg3 (mv (gy rfl rfl rfl hg3 (bi rfl rfl b_gtr (gy rfl rfl rfl hg2 (pkF rfl hg3 rfl (drp (X:= [(34,_),(33,_)]) ⟨rfl,rfl,trivial⟩ (fin)))))))
    ·intro hg3 fin
     exact gn rfl rfl rfl hg3 rfl rfl (gn rfl rfl rfl hg3 rfl rfl (gy rfl rfl rfl hg2 (pkT rfl hg3 rfl (drp (X:= [(34,_),(33,_)]) ⟨rfl,rfl,trivial⟩ (fin)))))
    exact pkT rfl hg2 rfl (drp (X:= [(35,_),(32,_),(31,_),(30,_)]) ⟨rfl,rfl,rfl,rfl,trivial⟩ (fin))
   ·intro hg2 fin
    exact gn rfl rfl rfl hg2 rfl rfl (gn rfl rfl rfl hg2 rfl rfl (gn rfl rfl rfl hg2 rfl rfl (gu rfl rfl rfl rfl rfl (gu rfl rfl rfl rfl rfl (gn rfl rfl rfl hg2 rfl rfl (pkF rfl hg2 rfl (drp (X:= [(35,_),(34,_),(33,_),(32,_),(31,_),(30,_)]) ⟨rfl,rfl,rfl,rfl,rfl,rfl,trivial⟩ (fin))))))))
   refine mv ?_
   apply gAnd (t:=37) (pd:=40) rfl
   rotate_left
   ·intro hg4 fin
    have hg4':=hg4
    try simp at hg4'
    exact gy rfl rfl rfl hg4 (mv (gy rfl rfl rfl hg4 (bi rfl rfl b_neq (pkT rfl hg4 rfl (drp (X:= [(39,_),(38,_)]) ⟨rfl,rfl,trivial⟩ (fin))))))
   ·intro hg4 fin
    exact gn rfl rfl rfl hg4 rfl rfl (gn rfl rfl rfl hg4 rfl rfl (pkF rfl hg4 rfl (drp (X:= [(39,_),(38,_)]) ⟨rfl,rfl,trivial⟩ (fin))))
   refine mv ?_
   apply gAnd (t:=41) (pd:=44) rfl
   rotate_left
   ·intro hg5 fin
    have hg5':=hg5
    try simp at hg5'
    exact gy rfl rfl rfl hg5 (mv (gy rfl rfl rfl hg5 (bi rfl rfl b_neq (pkT rfl hg5 rfl (drp (X:= [(43,_),(42,_)]) ⟨rfl,rfl,trivial⟩ (fin))))))
   ·intro hg5 fin
    exact gn rfl rfl rfl hg5 rfl rfl (gn rfl rfl rfl hg5 rfl rfl (pkF rfl hg5 rfl (drp (X:= [(43,_),(42,_)]) ⟨rfl,rfl,trivial⟩ (fin))))
   refine nl (th ?_)
   refine cd rfl (fun hc2=> ?_) (fun hc2=> ?_)
   ·try simp at hc2
    refine sq (rg (ag (nl (th (rt (rb (rt_ (rt_ (rb (rt_ ?_))))))))))
    have hr0:false=(isName s):=by
     unfold isName
     rw[all_range_not (i:=k) (by omega) ?_]
     ·simp
     ·simp[nameByte,hc2.1.1.1]
      omega
    have hall:∀x0,false=x0→resAV [bl false]=resAV [bl x0]:=by rintro _ rfl;rfl
    exact rE () [.tmp 2] rfl [bl false] ⟨.tmp rfl,trivial⟩ (hall _ hr0) trivial (by first|exact .inr rfl|exact .inl rfl)
   ·try simp at hc2
    refine sk (eb (th (rg (bi rfl rfl (b_add (by unfold I64;omega)) (mv (nl ?_))))))
    have hN0:(k+1)≤s.size:=by
     first|omega|simp_all
    have hN1:(List.range (k+1)).all (fun i=>nameByte (byteAt s i))=true:=by
     rw[all_range_succ,hI0]
     simp[nameByte]
     by_cases h1:isLetter (byteAt s k)=true
     ·simp[h1]
     ·simp[h1] at hc2
      simp[h1]
      omega
    exact ln (k+1) ⟨hN0,hN1⟩ (by first|omega|(dsimp only;omega)) ⟨id,id,id,trivial⟩ trivial
  ·try simp at hc1
   refine ex (xt_ (xt_ (xb (th (sq (rg (ag (nl (th (rt ?_))))))))))
   have hr0:true=(isName s):=by
    unfold isName
    rw[show s.size=k by omega,hI0]
    simp[hc0.2]
    omega
   have hall:∀x0,true=x0→resAV [bl true]=resAV [bl x0]:=by rintro _ rfl;rfl
   exact rE () [.tmp 2] rfl [bl true] ⟨.tmp rfl,trivial⟩ (hall _ hr0) trivial (by first|exact .inr rfl|exact .inl rfl)
theorem sIndex_ok (l:List ByteArray) (s:ByteArray):
 Fn0 Tryd.prog 113 [strs l,str s] (int (indexOf l s)):=by
 refine fnI Tryd.func113 rfl rfl (fun w0 F0=> ?_)
 refine fcC (slenI 0 rfl) (fun hm0=> ?_)
 refine sq (rg (ag (nl (th (sq (sq (rg (mv (lnF rfl T.sl22 (mv (nl (th (bk ?_)))))))))))))
 have hI0_0:0≤l.length:=by
  first|omega|simp
 have hI0_1:∀x∈l.take 0,x≠s:=by
  simp
 refine lp (κ:=Nat) (fun p=> [(0,sl 1 strE l),(1,str s),(7,int (l.length:Int)),(8,int (p:Int))]) (fun p=> []) (fun p=>(p≤l.length)∧(∀x∈l.take p,x≠s)) (fun p=>l.length- p) 0 ⟨hI0_0,hI0_1⟩ ⟨id,id,id,id,trivial⟩ trivial ?_
 intro k hG0
 obtain⟨hk0,hI0⟩:(k≤l.length)∧(∀x∈l.take k,x≠s):=hG0
 refine sq (rg (bi rfl rfl b_lss (nl (th (sq ?_)))))
 refine cd rfl (fun hc0=> ?_) (fun hc0=> ?_)
 ·try simp at hc0
  refine sk (th (sq (bk (sq (rg (mv (ag (nl (th (sq (rg (mv (mv (mv (iF rfl rfl T.sl22 (by omega) (by first|exact gN (by omega)|exact gI (by omega) (by omega)) (lF rfl rfl T.one9 (bi rfl rfl b_eqlS (nl (th ?_)))))))))))))))))))
  refine cd rfl (fun hc1=> ?_) (fun hc1=> ?_)
  ·try simp at hc1
   refine sq (rg (mv (ag (nl (th (rt (rb (rt_ (rt_ (rb (rt_ ?_)))))))))))
   have hr0:((k:Int):Int)=(indexOf l s):=by
    unfold indexOf
    have:l.findIdx? (fun x=>decide (x=s))=some k:=by
     rw[List.findIdx?_eq_some_iff_getElem]
     refine⟨by omega,by simpa [ix_get (show k<l.length by omega)] using hc1.symm,fun j hj=> ?_⟩
     have:=hI0 l[j] (List.mem_take_iff_getElem.2 ⟨j,by omega,rfl⟩)
     simpa using this
    rw[this]
   have hall:∀x0,(k:Int)=x0→resAV [int (k:Int)]=resAV [int x0]:=by rintro _ rfl;rfl
   exact rE () [.tmp 4] rfl [int (k:Int)] ⟨.tmp rfl,trivial⟩ (hall _ hr0) trivial (by first|exact .inr rfl|exact .inl rfl)
  ·try simp at hc1
   refine sk (eb (th (rg (bi rfl rfl (b_add (by unfold I64;omega)) (mv (nl ?_))))))
   have hN0:(k+1)≤l.length:=by
    first|omega|simp_all
   have hN1:∀x∈l.take (k+1),x≠s:=by
    rw[take_s (by omega)]
    intro x hx
    rcases List.mem_append.1 hx with hx|hx
    ·exact hI0 x hx
    ·simp at hx;subst hx;exact fun e=>hc1 e.symm
   exact ln (k+1) ⟨hN0,hN1⟩ (by first|omega|(dsimp only;omega)) ⟨id,id,id,id,trivial⟩ trivial
 ·try simp at hc0
  refine ex (xt_ (xt_ (xb (th (sq (rg (ag (nl (th (rt ?_))))))))))
  have hr0:((-1):Int)=(indexOf l s):=by
   unfold indexOf
   have:l.findIdx? (fun x=>decide (x=s))=none:=by
    rw[List.findIdx?_eq_none_iff]
    intro x hx
    have hk2:k=l.length:=by omega
    rw[hk2,List.take_length] at hI0
    simp[hI0 x hx]
   rw[this]
  have hall:∀x0,(-1)=x0→resAV [int (-1)]=resAV [int x0]:=by rintro _ rfl;rfl
  exact rE () [.tmp 4] rfl [int (-1)] ⟨.tmp rfl,trivial⟩ (hall _ hr0) trivial (by first|exact .inr rfl|exact .inl rfl)
theorem sContains_ok (l:List ByteArray) (s:ByteArray):
 Fn0 Tryd.prog 87 [strs l,str s] (bl (decide (0≤indexOf l s))):=by
 refine fnI Tryd.func87 rfl rfl (fun w0 F0=> ?_)
 refine fcC (slenI 0 rfl) (fun hm0=> ?_)
 refine sq (rg (ag (nl (th (sq (rg (mv (mv (cal0 (φs:= [sl 1 strE l,str s]) (φ:=int (indexOf l s)) ⟨rfl,rfl,trivial⟩ (prog.sIndex_ok _ _) T.ent113 (bi rfl rfl b_geq (ag (nl (th (rt ?_))))))))))))))
 have hr0:(decide (0≤(indexOf l s)))=(decide (0≤indexOf l s)):=by
  first|rfl|simp_all|omega
 have hall:∀x0,(decide (0≤(indexOf l s)))=x0→resAV [bl (decide (0≤(indexOf l s)))]=resAV [bl x0]:=by rintro _ rfl;rfl
 exact rE () [.tmp 4] rfl [bl (decide (0≤(indexOf l s)))] ⟨.tmp rfl,trivial⟩ (hall _ hr0) trivial (by first|exact .inr rfl|exact .inl rfl)
theorem aValid_ok (l:List ByteArray):
 Fn0 Tryd.prog 61 [strs l] (bl (actionsOK l)):=by
 refine fnI Tryd.func61 rfl rfl (fun w0 F0=> ?_)
 refine fcC (slenI 0 rfl) (fun hm0=> ?_)
 refine sq (rg (ag (nl (th (sq (sq (rg (mv (lnF rfl T.sl22 (bi rfl rfl b_gtr (nl (th ?_))))))))))))
 refine cd rfl (fun hc0=> ?_) (fun hc0=> ?_)
 ·try simp at hc0
  refine sq (rg (ag (nl (th (rt (rt_ ?_))))))
  have hr0:false=(actionsOK l):=by
   unfold actionsOK
   rw[decide_eq_false (by omega)];rfl
  have hall:∀x0,false=x0→resAV [bl false]=resAV [bl x0]:=by rintro _ rfl;rfl
  exact rE () [.tmp 2] rfl [bl false] ⟨.tmp rfl,trivial⟩ (hall _ hr0) trivial (by first|exact .inr rfl|exact .inl rfl)
 ·try simp at hc0
  refine sk (th (sq (sq (rg (mv (lnF rfl T.sl22 (mv (nl (th (bk ?_))))))))))
  have hI0_0:0≤l.length:=by
   first|omega|simp
  have hI0_1:(List.range 0).all (fun i=>isName (ix l i)&&decide (indexOf l (ix l i)=(i:Int)))=true:=by
   simp
  refine lp (κ:=Nat) (fun p=> [(0,sl 1 strE l),(8,sl 1 strE l),(9,int (l.length:Int)),(10,int (p:Int))]) (fun p=> []) (fun p=>(p≤l.length)∧((List.range p).all (fun i=>isName (ix l i)&&decide (indexOf l (ix l i)=(i:Int)))=true)) (fun p=>l.length- p) 0 ⟨hI0_0,hI0_1⟩ ⟨id,id,id,id,trivial⟩ trivial ?_
  intro k hG0
  obtain⟨hk0,hI0⟩:(k≤l.length)∧((List.range k).all (fun i=>isName (ix l i)&&decide (indexOf l (ix l i)=(i:Int)))=true):=hG0
  refine sq (rg (bi rfl rfl b_lss (nl (th (sq ?_)))))
  refine cd rfl (fun hc1=> ?_) (fun hc1=> ?_)
  ·try simp at hc1
   refine sk (th (sq (bk (sq (rg (mv (iF rfl rfl T.sl22 (by omega) (by first|exact gN (by omega)|exact gI (by omega) (by omega)) (lF rfl rfl T.one9 (ag (ag (nl (th (sq (rg (mv (cal0 (φs:= [str (ix l k)]) (φ:=bl (isName (ix l k))) ⟨rfl,trivial⟩ (prog.aName_ok _) T.ent86 (no rfl (mv ?_))))))))))))))))))
   apply gOr (t:=18) (pd:=24) rfl
   rotate_left
   ·intro hg0 fin
    have hg0':=hg0
    try simp at hg0'
    exact gy rfl rfl rfl hg0 (mv (gy rfl rfl rfl hg0 (mv (gy rfl rfl rfl hg0 (sliceF (l:=0) (m:=k) rfl T.sl22 rfl rfl (by omega) (by omega) (gy rfl rfl rfl hg0 (mv (gy rfl rfl rfl hg0 (cal0 (φs:= [sl 1 strE (l.take k),str (ix l k)]) (φ:=bl (decide (0≤indexOf (l.take k) (ix l k)))) ⟨rfl,rfl,trivial⟩ (prog.sContains_ok _ _) T.ent87 (pkF rfl hg0 rfl (drp (X:= [(23,_),(22,_),(21,_),(20,_),(19,_)]) ⟨rfl,rfl,rfl,rfl,rfl,trivial⟩ (fin))))))))))))
   ·intro hg0 fin
    exact gn rfl rfl rfl hg0 rfl rfl (gn rfl rfl rfl hg0 rfl rfl (gn rfl rfl rfl hg0 rfl rfl (gn rfl rfl rfl hg0 rfl rfl (gn rfl rfl rfl hg0 rfl rfl (pkT rfl hg0 rfl (drp (X:= [(23,_),(22,_),(21,_),(20,_),(19,_)]) ⟨rfl,rfl,rfl,rfl,rfl,trivial⟩ (fin)))))))
   refine nl (th ?_)
   refine cd rfl (fun hc2=> ?_) (fun hc2=> ?_)
   ·try simp at hc2
    refine sq (rg (ag (nl (th (rt (rb (rt_ (rt_ (rb (rt_ ?_))))))))))
    have hr0:false=(actionsOK l):=by
     unfold actionsOK
     rw[all_range_not (i:=k) (by omega) ?_]
     ·simp
     ·by_cases h:isName (ix l k)=true
      ·have h2:=(indexOf_bd (l.take k) (ix l k)).1 (by simpa [h] using hc2)
       have h3:¬indexOf l (ix l k)=(k:Int):=fun e=>(indexOf_self (by omega)).1 e h2
       simp[h3]
      ·simp[h]
    have hall:∀x0,false=x0→resAV [bl false]=resAV [bl x0]:=by rintro _ rfl;rfl
    exact rE () [.tmp 2] rfl [bl false] ⟨.tmp rfl,trivial⟩ (hall _ hr0) trivial (by first|exact .inr rfl|exact .inl rfl)
   ·try simp at hc2
    refine sk (eb (th (rg (bi rfl rfl (b_add (by unfold I64;omega)) (mv (nl ?_))))))
    have hN0:(k+1)≤l.length:=by
     first|omega|simp_all
    have hN1:(List.range (k+1)).all (fun i=>isName (ix l i)&&decide (indexOf l (ix l i)=(i:Int)))=true:=by
     rw[all_range_succ,hI0]
     have h1:indexOf l (ix l k)=(k:Int):=(indexOf_self (by omega)).2 (fun hm=>by
      have h2:=(indexOf_bd (l.take k) (ix l k)).2 hm
      have:=hc2.2;omega)
     simp[hc2.1,h1]
    exact ln (k+1) ⟨hN0,hN1⟩ (by first|omega|(dsimp only;omega)) ⟨id,id,id,id,trivial⟩ trivial
  ·try simp at hc1
   refine ex (xt_ (xt_ (xb (th (sq (rg (ag (nl (th (rt ?_))))))))))
   have hr0:true=(actionsOK l):=by
    unfold actionsOK
    rw[show l.length=k by omega,hI0,decide_eq_true (by omega)];rfl
   have hall:∀x0,true=x0→resAV [bl true]=resAV [bl x0]:=by rintro _ rfl;rfl
   exact rE () [.tmp 2] rfl [bl true] ⟨.tmp rfl,trivial⟩ (hall _ hr0) trivial (by first|exact .inr rfl|exact .inl rfl)
theorem sClonestrE_ok (l:List ByteArray) (hl:l.length≤1000000):
 AL.Fn Tryd.prog 97 [strs l] [] (ι:=Unit) (fun N _=>fre N (strs l)) (fun _=> []):=by
 refine fnI Tryd.func97 rfl rfl (fun w0 F0=> ?_)
 refine fcC (slenI 0 rfl) (fun hm0=> ?_)
 refine sq (rg (ag (nl (th (sq (sq (rg (mv (nilF rfl T.sl22.und fun nb4 hnb4=>(nl (th ?_)))))))))))
 refine cd rfl (fun hc0=> ?_) (fun hc0=> ?_)
 ·try simp at hc0
  refine sq (rg (ag (nl (th (rt (rt_ ?_))))))
  refine knA 2 (fre w0.heap.size (sl 1 strE [])) rfl nw_nil ?_
  have hr0: []=l:=by
   rw[hnb4 hc0]
  have hall:∀x0,[]=x0→resAV [fre w0.heap.size (sl 1 strE [])]=resAV [fre w0.heap.size (sl 1 strE x0)]:=by rintro _ rfl;rfl
  exact rE () [.tmp 2] rfl [fre w0.heap.size (sl 1 strE [])] ⟨.tmp rfl,trivial⟩ (hall _ hr0) trivial (by first|exact .inr rfl|exact .inl rfl)
 ·try simp at hc0
  refine sk (th (sq (rg (bs0 5 strE T.mk22 fun v5=>(mv (ap (key:=5) (zs:=l) osl_eq rfl rfl rfl T.mk22 (by unfold maxL at*;simp;omega) (by unfold maxL at*;simp;omega) fun v7=>(ag (nl (th (rt ?_))))))))))
  refine fzNA strE 5 2 noM flat rfl rfl ?_
  have hr0:([]++l)=l:=by
   first|rfl|simp_all|omega
  have hall:∀x0,([]++l)=x0→resAV [fre w0.heap.size (sl 1 strE ([]++l))]=resAV [fre w0.heap.size (sl 1 strE x0)]:=by rintro _ rfl;rfl
  exact rE () [.tmp 2] rfl [fre w0.heap.size (sl 1 strE ([]++l))] ⟨.tmp rfl,trivial⟩ (hall _ hr0) trivial (by first|exact .inr rfl|exact .inl rfl)
theorem sCloneintE_ok (l:List Int) (hl:l.length≤1000000):
 AL.Fn Tryd.prog 65 [ints l] [] (ι:=Unit) (fun N _=>fre N (ints l)) (fun _=> []):=by
 refine fnI Tryd.func65 rfl rfl (fun w0 F0=> ?_)
 refine fcC (slenI 0 rfl) (fun hm0=> ?_)
 refine sq (rg (ag (nl (th (sq (sq (rg (mv (nilF rfl T.sl28.und fun nb4 hnb4=>(nl (th ?_)))))))))))
 refine cd rfl (fun hc0=> ?_) (fun hc0=> ?_)
 ·try simp at hc0
  refine sq (rg (ag (nl (th (rt (rt_ ?_))))))
  refine knA 2 (fre w0.heap.size (sl 1 intE [])) rfl nw_nil ?_
  have hr0: []=l:=by
   rw[hnb4 hc0]
  have hall:∀x0,[]=x0→resAV [fre w0.heap.size (sl 1 intE [])]=resAV [fre w0.heap.size (sl 1 intE x0)]:=by rintro _ rfl;rfl
  exact rE () [.tmp 2] rfl [fre w0.heap.size (sl 1 intE [])] ⟨.tmp rfl,trivial⟩ (hall _ hr0) trivial (by first|exact .inr rfl|exact .inl rfl)
 ·try simp at hc0
  refine sk (th (sq (rg (bs0 5 intE T.mk28 fun v5=>(mv (ap (key:=5) (zs:=l) osl_eq rfl rfl rfl T.mk28 (by unfold maxL at*;simp;omega) (by unfold maxL at*;simp;omega) fun v7=>(ag (nl (th (rt ?_))))))))))
  refine fzNA intE 5 2 noM flat rfl rfl ?_
  have hr0:([]++l)=l:=by
   first|rfl|simp_all|omega
  have hall:∀x0,([]++l)=x0→resAV [fre w0.heap.size (sl 1 intE ([]++l))]=resAV [fre w0.heap.size (sl 1 intE x0)]:=by rintro _ rfl;rfl
  exact rE () [.tmp 2] rfl [fre w0.heap.size (sl 1 intE ([]++l))] ⟨.tmp rfl,trivial⟩ (hall _ hr0) trivial (by first|exact .inr rfl|exact .inl rfl)
theorem sEqualstrE_ok (xs ys:List ByteArray):
 Fn0 Tryd.prog 66 [strs xs,strs ys] (bl (decide (xs=ys))):=by
 refine fnI Tryd.func66 rfl rfl (fun w0 F0=> ?_)
 refine fcC (slenI 0 rfl) (fun hm0=> ?_)
 refine fcC (slenI 1 rfl) (fun hm1=> ?_)
 refine sq (rg (ag (nl (th (sq (sq (rg (mv (lnF rfl T.sl22 (mv (lnF rfl T.sl22 (bi rfl rfl b_neq (nl (th ?_))))))))))))))
 refine cd rfl (fun hc0=> ?_) (fun hc0=> ?_)
 ·try simp at hc0
  refine sq (rg (ag (nl (th (rt (rt_ ?_))))))
  have hr0:false=(decide (xs=ys)):=by
   rw[decide_eq_false];intro h;subst h;simp at hc0
  have hall:∀x0,false=x0→resAV [bl false]=resAV [bl x0]:=by rintro _ rfl;rfl
  exact rE () [.tmp 4] rfl [bl false] ⟨.tmp rfl,trivial⟩ (hall _ hr0) trivial (by first|exact .inr rfl|exact .inl rfl)
 ·try simp at hc0
  refine sk (th (sq (sq (rg (mv (lnF rfl T.sl22 (mv (nl (th (bk ?_))))))))))
  have hI0_0:0≤xs.length:=by
   first|omega|simp
  have hI0_1:xs.take 0=ys.take 0:=by
   simp
  refine lp (κ:=Nat) (fun p=> [(0,sl 1 strE xs),(1,sl 1 strE ys),(12,int (xs.length:Int)),(13,int (p:Int))]) (fun p=> []) (fun p=>(p≤xs.length)∧(xs.take p=ys.take p)) (fun p=>xs.length- p) 0 ⟨hI0_0,hI0_1⟩ ⟨id,id,id,id,trivial⟩ trivial ?_
  intro k hG0
  obtain⟨hk0,hI0⟩:(k≤xs.length)∧(xs.take k=ys.take k):=hG0
  refine sq (rg (bi rfl rfl b_lss (nl (th (sq ?_)))))
  refine cd rfl (fun hc1=> ?_) (fun hc1=> ?_)
  ·try simp at hc1
   refine sk (th (sq (bk (sq (rg (mv (ag (nl (th (sq (dr (nh:=9) [0,0,3,7,0,0,48,112,255] T.mixed (by kernel_rfl) ?_)))))))))))
   refine st_ rfl (fun _ _ _ gq kq=>mv' (gq.1.trans rfl) kq) ?_
   refine st_ rfl (fun _ _ _ gq kq=>mv' (gq.1.trans rfl) kq) ?_
   refine st_ rfl (fun _ _ _ gq kq=>iF (gq.1.trans rfl) (gq.2.1.trans rfl) T.sl22 (by omega) (by first|exact gN (by omega)|exact gI (by omega) (by omega)) kq) ?_
   refine st_ rfl (fun _ _ _ gq kq=>lF (gq.1.trans rfl) rfl T.one9 kq) ?_
   refine st_ rfl (fun _ _ _ gq kq=>mv' (gq.1.trans rfl) kq) ?_
   refine st_ rfl (fun _ _ _ gq kq=>mv' (gq.1.trans rfl) kq) ?_
   refine st_ rfl (fun _ _ _ gq kq=>iF (gq.1.trans rfl) (gq.2.1.trans rfl) T.sl22 (by omega) (by first|exact gN (by omega)|exact gI (by omega) (by omega)) kq) ?_
   refine st_ rfl (fun _ _ _ gq kq=>lF (gq.1.trans rfl) rfl T.one9 kq) ?_
   refine st_ rfl (fun _ _ _ gq kq=>bi (gq.1.trans rfl) (gq.2.1.trans rfl) b_neqS kq) ?_
   refine pn (nl (th ?_))
   refine cd rfl (fun hc2=> ?_) (fun hc2=> ?_)
   ·try simp at hc2
    refine sq (rg (ag (nl (th (rt (rb (rt_ (rt_ (rb (rt_ ?_))))))))))
    have hr0:false=(decide (xs=ys)):=by
     rw[decide_eq_false];intro h;subst h;simp at hc2
    have hall:∀x0,false=x0→resAV [bl false]=resAV [bl x0]:=by rintro _ rfl;rfl
    exact rE () [.tmp 4] rfl [bl false] ⟨.tmp rfl,trivial⟩ (hall _ hr0) trivial (by first|exact .inr rfl|exact .inl rfl)
   ·try simp at hc2
    refine sk (eb (th (rg (bi rfl rfl (b_add (by unfold I64;omega)) (mv (nl ?_))))))
    have hN0:(k+1)≤xs.length:=by
     first|omega|simp_all
    have hN1:xs.take (k+1)=ys.take (k+1):=by
     rw[take_s (by omega),take_s (by omega),hI0];try simp at hc2
     rw[hc2]
    exact ln (k+1) ⟨hN0,hN1⟩ (by first|omega|(dsimp only;omega)) ⟨id,id,id,id,trivial⟩ trivial
  ·try simp at hc1
   refine ex (xt_ (xt_ (xb (th (sq (rg (ag (nl (th (rt ?_))))))))))
   have hr0:true=(decide (xs=ys)):=by
    rw[decide_eq_true]
    rw[show k=xs.length by omega,List.take_length] at hI0
    rw[hI0,show xs.length=ys.length by omega,List.take_length]
   have hall:∀x0,true=x0→resAV [bl true]=resAV [bl x0]:=by rintro _ rfl;rfl
   exact rE () [.tmp 4] rfl [bl true] ⟨.tmp rfl,trivial⟩ (hall _ hr0) trivial (by first|exact .inr rfl|exact .inl rfl)
theorem sEqualintE_ok (xs ys:List Int):
 Fn0 Tryd.prog 69 [ints xs,ints ys] (bl (decide (xs=ys))):=by
 refine fnI Tryd.func69 rfl rfl (fun w0 F0=> ?_)
 refine fcC (slenI 0 rfl) (fun hm0=> ?_)
 refine fcC (slenI 1 rfl) (fun hm1=> ?_)
 refine sq (rg (ag (nl (th (sq (sq (rg (mv (lnF rfl T.sl28 (mv (lnF rfl T.sl28 (bi rfl rfl b_neq (nl (th ?_))))))))))))))
 refine cd rfl (fun hc0=> ?_) (fun hc0=> ?_)
 ·try simp at hc0
  refine sq (rg (ag (nl (th (rt (rt_ ?_))))))
  have hr0:false=(decide (xs=ys)):=by
   rw[decide_eq_false];intro h;subst h;simp at hc0
  have hall:∀x0,false=x0→resAV [bl false]=resAV [bl x0]:=by rintro _ rfl;rfl
  exact rE () [.tmp 4] rfl [bl false] ⟨.tmp rfl,trivial⟩ (hall _ hr0) trivial (by first|exact .inr rfl|exact .inl rfl)
 ·try simp at hc0
  refine sk (th (sq (sq (rg (mv (lnF rfl T.sl28 (mv (nl (th (bk ?_))))))))))
  have hI0_0:0≤xs.length:=by
   first|omega|simp
  have hI0_1:xs.take 0=ys.take 0:=by
   simp
  refine lp (κ:=Nat) (fun p=> [(0,sl 1 intE xs),(1,sl 1 intE ys),(12,int (xs.length:Int)),(13,int (p:Int))]) (fun p=> []) (fun p=>(p≤xs.length)∧(xs.take p=ys.take p)) (fun p=>xs.length- p) 0 ⟨hI0_0,hI0_1⟩ ⟨id,id,id,id,trivial⟩ trivial ?_
  intro k hG0
  obtain⟨hk0,hI0⟩:(k≤xs.length)∧(xs.take k=ys.take k):=hG0
  refine sq (rg (bi rfl rfl b_lss (nl (th (sq ?_)))))
  refine cd rfl (fun hc1=> ?_) (fun hc1=> ?_)
  ·try simp at hc1
   refine sk (th (sq (bk (sq (rg (mv (ag (nl (th (sq (dr (nh:=9) [0,0,3,7,0,0,48,112,255] T.mixed (by kernel_rfl) ?_)))))))))))
   refine st_ rfl (fun _ _ _ gq kq=>mv' (gq.1.trans rfl) kq) ?_
   refine st_ rfl (fun _ _ _ gq kq=>mv' (gq.1.trans rfl) kq) ?_
   refine st_ rfl (fun _ _ _ gq kq=>iF (gq.1.trans rfl) (gq.2.1.trans rfl) T.sl28 (by omega) (by first|exact gN (by omega)|exact gI (by omega) (by omega)) kq) ?_
   refine st_ rfl (fun _ _ _ gq kq=>lF (gq.1.trans rfl) rfl T.one3 kq) ?_
   refine st_ rfl (fun _ _ _ gq kq=>mv' (gq.1.trans rfl) kq) ?_
   refine st_ rfl (fun _ _ _ gq kq=>mv' (gq.1.trans rfl) kq) ?_
   refine st_ rfl (fun _ _ _ gq kq=>iF (gq.1.trans rfl) (gq.2.1.trans rfl) T.sl28 (by omega) (by first|exact gN (by omega)|exact gI (by omega) (by omega)) kq) ?_
   refine st_ rfl (fun _ _ _ gq kq=>lF (gq.1.trans rfl) rfl T.one3 kq) ?_
   refine st_ rfl (fun _ _ _ gq kq=>bi (gq.1.trans rfl) (gq.2.1.trans rfl) b_neq kq) ?_
   refine pn (nl (th ?_))
   refine cd rfl (fun hc2=> ?_) (fun hc2=> ?_)
   ·try simp at hc2
    refine sq (rg (ag (nl (th (rt (rb (rt_ (rt_ (rb (rt_ ?_))))))))))
    have hr0:false=(decide (xs=ys)):=by
     rw[decide_eq_false];intro h;subst h;simp at hc2
    have hall:∀x0,false=x0→resAV [bl false]=resAV [bl x0]:=by rintro _ rfl;rfl
    exact rE () [.tmp 4] rfl [bl false] ⟨.tmp rfl,trivial⟩ (hall _ hr0) trivial (by first|exact .inr rfl|exact .inl rfl)
   ·try simp at hc2
    refine sk (eb (th (rg (bi rfl rfl (b_add (by unfold I64;omega)) (mv (nl ?_))))))
    have hN0:(k+1)≤xs.length:=by
     first|omega|simp_all
    have hN1:xs.take (k+1)=ys.take (k+1):=by
     rw[take_s (by omega),take_s (by omega),hI0];try simp at hc2
     rw[hc2]
    exact ln (k+1) ⟨hN0,hN1⟩ (by first|omega|(dsimp only;omega)) ⟨id,id,id,id,trivial⟩ trivial
  ·try simp at hc1
   refine ex (xt_ (xt_ (xb (th (sq (rg (ag (nl (th (rt ?_))))))))))
   have hr0:true=(decide (xs=ys)):=by
    rw[decide_eq_true]
    rw[show k=xs.length by omega,List.take_length] at hI0
    rw[hI0,show xs.length=ys.length by omega,List.take_length]
   have hall:∀x0,true=x0→resAV [bl true]=resAV [bl x0]:=by rintro _ rfl;rfl
   exact rE () [.tmp 4] rfl [bl true] ⟨.tmp rfl,trivial⟩ (hall _ hr0) trivial (by first|exact .inr rfl|exact .inl rfl)
end prog
end Go.Proofs.YtolpjmllmlahfaaDoor
namespace Go.Proofs.YtolpjmllmlahfaaDoor
open AL Go
set_option maxRecDepth 100000
set_option linter.all false
open ref01 ref03 ref04 ref06 prog Part
def smallSpec (s:SSpec):Prop:=∀k,k<s.states.length→∀i,i<(ix s.states k).accept.length→ix (ix s.states k).accept i<2^63
def canIs (u:Int) (nx:List Int) (k:Nat):Prop:=∀a:Nat,u.toNat.testBit a=true↔a<k∧0≤ix nx a
theorem canIs_yes {u:Int} {nx:List Int} {k:Nat} (h:canIs u nx k) (h0:0≤ix nx k):canIs (((u.toNat|||2^k:Nat):Int)) nx (k+1):=fun a=>by
 rw[Int.toNat_natCast,Nat.testBit_or,Nat.testBit_two_pow,Bool.or_eq_true,h a,decide_eq_true_eq]
 constructor
 ·rintro(h1|rfl)
  ·exact⟨by omega,h1.2⟩
  ·exact⟨by omega,h0⟩
 ·intro h1
  by_cases e:k=a
  ·exact .inr e
  ·exact .inl ⟨by omega,h1.2⟩
theorem canIs_no {u:Int} {nx:List Int} {k:Nat} (h:canIs u nx k) (h0:ix nx k<0):canIs u nx (k+1):=fun a=>by
 rw[h a]
 constructor
 ·exact fun h1=>⟨by omega,h1.2⟩
 ·intro h1
  refine⟨?_,h1.2⟩
  by_cases e:k=a
  ·subst e;omega
  ·omega
theorem xor_and_zero {m n:Nat}:m^^^ (m&&&n)=0↔∀a,m.testBit a=true→n.testBit a=true:=by
 constructor
 ·intro h a ha
  have:=congrArg (fun z=>z.testBit a) h
  simp only [Nat.testBit_xor,Nat.testBit_and,ha,Nat.zero_testBit,Bool.true_and] at this
  cases hn:n.testBit a
  ·rw[hn] at this;cases this
  ·rfl
 ·intro h
  apply Nat.eq_of_testBit_eq
  intro a
  simp only [Nat.testBit_xor,Nat.testBit_and,Nat.zero_testBit]
  cases hm:m.testBit a
  ·rfl
  ·rw[h a hm];rfl
theorem setOK_iff {x:SState} {n:Nat} {u t:Int} (hn:n≤8) (hl:x.next.length=n) (hc:canIs u x.next n) (h0:0≤t):setOK x n t=true↔t.toNat^^^ (t.toNat&&&u.toNat)=0:=by
 rw[xor_and_zero]
 constructor
 ·intro h a ha
  unfold setOK at h
  simp only [Bool.and_eq_true] at h
  have hb:=h.1
  unfold isSet at hb
  simp only [Bool.and_eq_true,decide_eq_true_eq,Int.toNat_natCast] at hb
  have han:a<n:=by
   have h7:2^a≤t.toNat:=Nat.ge_two_pow_of_testBit ha
   have h9:2^a<2^n:=by omega
   exact(Nat.pow_lt_pow_iff_right (by omega)).1 h9
  have hm:(a:Int)∈listOf n t:=List.mem_map.2 ⟨a,List.mem_filter.2 ⟨List.mem_range.2 han,by unfold has;rw[Int.toNat_natCast];exact ha⟩,rfl⟩
  have:=List.all_eq_true.1 h.2 _ hm
  exact(hc a).2 ⟨han,by simpa using this⟩
 ·intro h
  have hlt:t.toNat<2^n:=Nat.lt_pow_two_of_testBit _ (fun i hi=>by
   cases hti:t.toNat.testBit i
   ·rfl
   ·have:=((hc i).1 (h i hti)).1;omega)
  unfold setOK isSet
  simp only [Bool.and_eq_true,decide_eq_true_eq,Int.toNat_natCast]
  refine⟨⟨h0,by omega⟩,List.all_eq_true.2 (fun z hz=> ?_)⟩
  obtain⟨a,ha,rfl⟩:=List.mem_map.1 hz
  have h1:=(List.mem_filter.1 ha).2
  unfold has at h1
  rw[Int.toNat_natCast] at h1
  have:=((hc a).1 (h a h1)).2
  simpa using this
theorem setOK_neg {x:SState} {n:Nat} {t:Int} (h0:t<0):setOK x n t=false:=by
 unfold setOK isSet
 rw[decide_eq_false (by omega)];rfl
theorem rising_of {l:List Int} (h:∀j,j+1<l.length→ix l j<ix l (j+1)):rising l=true:=by
 unfold rising
 exact List.all_eq_true.2 (fun i hi=>by have:=List.mem_range.1 hi;simpa using h i (by omega))
theorem rising_not {l:List Int} {j:Nat} (h:j+1<l.length) (hh:ix l (j+1)≤ix l j):rising l=false:=by
 unfold rising
 exact all_range_not (i:=j) (by omega) (by simp;omega)
theorem all_of_ix {l:List Int} {p:Int→Bool} (h:∀j,j<l.length→p (ix l j)=true):l.all p=true:=List.all_eq_true.2 (fun x hx=>by
 obtain⟨j,hj,rfl⟩:=List.getElem_of_mem hx
 rw[←ix_get hj];exact h j hj)
namespace T
theorem ent61:Ent Tryd.prog 61:=ent_of (by kernel_rfl)
end T
namespace prog2
theorem Valid_ok (s:SSpec) (hsm:smallSpec s):
 Fn0 Tryd.prog 39 [spec s] (bl (specOK s)):=by
 refine fnI Tryd.func39 rfl rfl (fun w0 F0=> ?_)
 refine fcC (inhS 0 rfl) (fun hS0=> ?_)
 obtain⟨hsa0,hss0,hse0⟩:=spec_lens hS0
 refine sq (rg (bx (key:=1) (cs:= [sl 1 strE s.actions,sl 2 stateE s.states]) rfl fun b1=>(ag (nl (th (sq (rg (fP rfl T.fld25_1 (lP rfl rfl rfl T.one23 (fc (slenI 12 rfl) fun hm12=>(lnF rfl T.sl23 (ag (nl (th (sq (sq (rg (fP rfl T.fld25_0 (lP rfl rfl rfl T.one22 (cal0 (φs:= [sl 1 strE s.actions]) (φ:=bl (actionsOK s.actions)) ⟨rfl,trivial⟩ (prog.aValid_ok _) T.ent61 (no rfl (mv ?_))))))))))))))))))))))
 apply gOr (t:=18) (pd:=21) rfl
 rotate_left
 ·intro hg0 fin
  have hg0':=hg0
  try simp at hg0'
  exact gy rfl rfl rfl hg0 (mv (gy rfl rfl rfl hg0 (bi rfl rfl b_lss (pkF rfl hg0 rfl (drp (X:= [(20,_),(19,_)]) ⟨rfl,rfl,trivial⟩ (fin))))))
 ·intro hg0 fin
  exact gn rfl rfl rfl hg0 rfl rfl (gn rfl rfl rfl hg0 rfl rfl (pkT rfl hg0 rfl (drp (X:= [(20,_),(19,_)]) ⟨rfl,rfl,trivial⟩ (fin))))
 refine mv ?_
 apply gOr (t:=22) (pd:=25) rfl
 rotate_left
 ·intro hg1 fin
  have hg1':=hg1
  try simp at hg1'
  exact gy rfl rfl rfl hg1 (mv (gy rfl rfl rfl hg1 (bi rfl rfl b_gtr (pkF rfl hg1 rfl (drp (X:= [(24,_),(23,_)]) ⟨rfl,rfl,trivial⟩ (fin))))))
 ·intro hg1 fin
  exact gn rfl rfl rfl hg1 rfl rfl (gn rfl rfl rfl hg1 rfl rfl (pkT rfl hg1 rfl (drp (X:= [(24,_),(23,_)]) ⟨rfl,rfl,trivial⟩ (fin))))
 refine nl (th ?_)
 refine cd rfl (fun hc0=> ?_) (fun hc0=> ?_)
 ·try simp at hc0
  refine sq (rg (ag (nl (th (rt (rt_ ?_))))))
  have hr0:false=(specOK s):=by
   unfold specOK
   by_cases h:actionsOK s.actions=true
   ·simp[h] at hc0 ⊢
    omega
   ·simp[h]
  have hall:∀x0,false=x0→resAV [bl false]=resAV [bl x0]:=by rintro _ rfl;rfl
  exact rE () [.tmp 2] rfl [bl false] ⟨.tmp rfl,trivial⟩ (hall _ hr0) trivial (by first|exact .inr rfl|exact .inl rfl)
 ·try simp at hc0
  have hact:=actionsOK_len (l:=s.actions) (by simp_all)
  refine sk (th (sq (sq (rg (fP rfl T.fld25_1 (lP rfl rfl rfl T.one23 (lnF rfl T.sl23 (mv (nl (th (bk ?_)))))))))))
  have hI0_0:0≤s.states.length:=by
   first|omega|simp
  have hI0_1:(s.states.take 0).all (fun x=>stateOK x (s.states.length:Int) s.actions.length)=true:=by
   simp
  refine lp (κ:=Nat) (fun p=> [(1,ptr 1 b1 0),(3,int (s.states.length:Int)),(27,sl 2 stateE s.states),(28,int (s.states.length:Int)),(29,int (p:Int))]) (fun p=> [(1,cell b1 [sl 1 strE s.actions,sl 2 stateE s.states])]) (fun p=>(p≤s.states.length)∧((s.states.take p).all (fun x=>stateOK x (s.states.length:Int) s.actions.length)=true)) (fun p=>s.states.length- p) 0 ⟨hI0_0,hI0_1⟩ ⟨id,id,id,id,id,trivial⟩ ⟨⟨rfl,id⟩,trivial⟩ ?_
  intro k hG0
  obtain⟨hk0,hI0⟩:(k≤s.states.length)∧((s.states.take k).all (fun x=>stateOK x (s.states.length:Int) s.actions.length)=true):=hG0
  refine sq (rg (bi rfl rfl b_lss (nl (th (sq ?_)))))
  refine cd rfl (fun hc1=> ?_) (fun hc1=> ?_)
  ·try simp at hc1
   refine sk (th (sq (bk (sq (rg (iF rfl rfl T.sl23 (by omega) (by first|exact gN (by omega)|exact gI (by omega) (by omega)) (lFA rfl T.agg69 (Nat.le_of_ble_eq_true rfl) (al (key:=5) T.z69 (ex_cons (ex_cons (ex_nil))) fun b5=>(sPA (cs':= [sl 1 intE ((ix s.states k).accept),sl 1 intE ((ix s.states k).next)]) rfl rfl rfl T.agg69 rfl rfl (nl (th (sq (sq (rg (fP rfl T.fld69_1 (lP rfl rfl rfl T.one28 (fc (slenI 34 rfl) fun hm34=>(lnF rfl T.sl28 (fP rfl T.fld25_0 (lP rfl rfl rfl T.one22 (fc (slenI 37 rfl) fun hm37=>(lnF rfl T.sl22 (bi rfl rfl b_neq (nl (th ?_)))))))))))))))))))))))))
   refine cd rfl (fun hc2=> ?_) (fun hc2=> ?_)
   ·try simp at hc2
    refine sq (rg (ag (nl (th (rt (rt_ (rb (rt_ (rt_ (rb (rt_ ?_)))))))))))
    have hr0:false=(specOK s):=by
     unfold specOK
     rw[all_fail (xs:=s.states) (k:=k) (by omega) ?_];simp
     unfold stateOK
     rw[decide_eq_false (by omega)];simp
    have hall:∀x0,false=x0→resAV [bl false]=resAV [bl x0]:=by rintro _ rfl;rfl
    exact rE () [.tmp 2] rfl [bl false] ⟨.tmp rfl,trivial⟩ (hall _ hr0) trivial (by first|exact .inr rfl|exact .inl rfl)
   ·try simp at hc2
    refine sk (th (sq (rg (ag (nl (th (sq (sq (rg (fP rfl T.fld69_1 (lP rfl rfl rfl T.one28 (lnF rfl T.sl28 (mv (nl (th (bk ?_))))))))))))))))
    have hI1_0:0≤((ix s.states k).next).length:=by
     first|omega|simp
    have hI1_1:0≤(0:Int)∧(0:Int)<256∧canIs (0:Int) (ix s.states k).next 0∧((ix s.states k).next.take 0).all (fun j=>decide (-1≤j)&&decide (j<(s.states.length:Int)))=true:=by
     refine⟨by omega,by omega,fun a=> ?_,by simp⟩
     simp
    refine lp (κ:=Nat × Int) (fun p=> [(1,ptr 1 b1 0),(3,int (s.states.length:Int)),(5,ptr 5 b5 0),(6,int p.2),(27,sl 2 stateE s.states),(28,int (s.states.length:Int)),(29,int (k:Int)),(41,sl 1 intE ((ix s.states k).next)),(42,int (((ix s.states k).next).length:Int)),(43,int (p.1:Int))]) (fun p=> [(1,cell b1 [sl 1 strE s.actions,sl 2 stateE s.states]),(5,cell b5 [sl 1 intE ((ix s.states k).accept),sl 1 intE ((ix s.states k).next)])]) (fun p=>(p.1≤((ix s.states k).next).length)∧(0≤p.2∧p.2<256∧canIs p.2 (ix s.states k).next p.1∧((ix s.states k).next.take p.1).all (fun j=>decide (-1≤j)&&decide (j<(s.states.length:Int)))=true)) (fun p=>((ix s.states k).next).length- p.1) ⟨0,(0:Int)⟩ ⟨hI1_0,hI1_1⟩ ⟨id,id,id,id,id,id,id,id,id,id,trivial⟩ ⟨⟨rfl,id⟩,⟨rfl,id⟩,trivial⟩ ?_
    intro⟨k1,u⟩ hG1
    obtain⟨hk1,hI1⟩:(k1≤((ix s.states k).next).length)∧(0≤u∧u<256∧canIs u (ix s.states k).next k1∧((ix s.states k).next.take k1).all (fun j=>decide (-1≤j)&&decide (j<(s.states.length:Int)))=true):=hG1
    show Ct _ _ _ _ [(1,ptr 1 b1 0),(3,int (s.states.length:Int)),(5,ptr 5 b5 0),(6,int u),(27,sl 2 stateE s.states),(28,int (s.states.length:Int)),(29,int (k:Int)),(41,sl 1 intE ((ix s.states k).next)),(42,int (((ix s.states k).next).length:Int)),(43,int (k1:Int))] [(1,cell b1 [sl 1 strE s.actions,sl 2 stateE s.states]),(5,cell b5 [sl 1 intE ((ix s.states k).accept),sl 1 intE ((ix s.states k).next)])] _
    refine sq (rg (bi rfl rfl b_lss (nl (th (sq ?_)))))
    refine cd rfl (fun hc3=> ?_) (fun hc3=> ?_)
    ·try simp at hc3
     refine sk (th (sq (bk (sq (rg (mv (iF rfl rfl T.sl28 (by omega) (by first|exact gN (by omega)|exact gI (by omega) (by omega)) (lF rfl rfl T.one3 (ag (ag (nl (th (sq (sq (rg (mv (bi rfl rfl b_lss (mv ?_))))))))))))))))))
     apply gOr (t:=50) (pd:=54) rfl
     rotate_left
     ·intro hg2 fin
      have hg2':=hg2
      try simp at hg2'
      exact gy rfl rfl rfl hg2 (mv (gy rfl rfl rfl hg2 (mv (gy rfl rfl rfl hg2 (bi rfl rfl b_geq (pkF rfl hg2 rfl (drp (X:= [(53,_),(52,_),(51,_)]) ⟨rfl,rfl,rfl,trivial⟩ (fin))))))))
     ·intro hg2 fin
      exact gn rfl rfl rfl hg2 rfl rfl (gn rfl rfl rfl hg2 rfl rfl (gn rfl rfl rfl hg2 rfl rfl (pkT rfl hg2 rfl (drp (X:= [(53,_),(52,_),(51,_)]) ⟨rfl,rfl,rfl,trivial⟩ (fin)))))
     refine nl (th ?_)
     refine cd rfl (fun hc4=> ?_) (fun hc4=> ?_)
     ·try simp at hc4
      refine sq (rg (ag (nl (th (rt (rt_ (rb (rt_ (rt_ (rb (rt_ (rb (rt_ (rt_ (rb (rt_ ?_))))))))))))))))
      have hr0:false=(specOK s):=by
       unfold specOK
       rw[all_fail (xs:=s.states) (k:=k) (by omega) ?_];simp
       unfold stateOK
       rw[all_fail (xs:=(ix s.states k).next) (k:=k1) (by omega) (by simp;omega)];simp
      have hall:∀x0,false=x0→resAV [bl false]=resAV [bl x0]:=by rintro _ rfl;rfl
      exact rE () [.tmp 2] rfl [bl false] ⟨.tmp rfl,trivial⟩ (hall _ hr0) trivial (by first|exact .inr rfl|exact .inl rfl)
     ·try simp at hc4
      refine sk (th (sq (rg (mv (bi rfl rfl b_geq (nl (th ?_)))))))
      refine cd rfl (fun hc5=> ?_) (fun hc5=> ?_)
      ·try simp at hc5
       have hp:2^k1≤2^7:=Nat.pow_le_pow_right (by omega) (by omega)
       refine rg (mv (mv (bi rfl rfl (b_shlI (by omega) (by omega)) (bi rfl rfl (b_orI (by omega) (by omega) (Int.natCast_nonneg _) (by rw[Int.toNat_natCast];omega)) (ag (nl (eb (th (rg (bi rfl rfl (b_add (by unfold I64;omega)) (mv (nl ?_))))))))))))
       have hN0:(k1+1)≤((ix s.states k).next).length:=by
        first|omega|simp_all
       have hN1:0≤((u.toNat|||(2^k1):Nat):Int)∧((u.toNat|||(2^k1):Nat):Int)<256∧canIs ((u.toNat|||(2^k1):Nat):Int) (ix s.states k).next (k1+1)∧((ix s.states k).next.take (k1+1)).all (fun j=>decide (-1≤j)&&decide (j<(s.states.length:Int)))=true:=by
        refine⟨by omega,or_lt256 (b:=((2^k1:Nat):Int)) hI1.2.1 (by omega),canIs_yes hI1.2.2.1 hc5,?_⟩
        rw[all_take_succ (by omega),hI1.2.2.2];simp;omega
       exact ln (⟨k1+1,((u.toNat|||(2^k1):Nat):Int)⟩:Nat × Int) ⟨hN0,hN1⟩ (by first|omega|(dsimp only;omega)) ⟨id,id,id,id,id,id,id,id,id,id,trivial⟩ ⟨⟨rfl,id⟩,⟨rfl,id⟩,trivial⟩
      ·try simp at hc5
       refine sk (eb (th (rg (bi rfl rfl (b_add (by unfold I64;omega)) (mv (nl ?_))))))
       have hN0:(k1+1)≤((ix s.states k).next).length:=by
        first|omega|simp_all
       have hN1:0≤u∧u<256∧canIs u (ix s.states k).next (k1+1)∧((ix s.states k).next.take (k1+1)).all (fun j=>decide (-1≤j)&&decide (j<(s.states.length:Int)))=true:=by
        refine⟨hI1.1,hI1.2.1,canIs_no hI1.2.2.1 hc5,?_⟩
        rw[all_take_succ (by omega),hI1.2.2.2];simp;omega
       exact ln (⟨k1+1,u⟩:Nat × Int) ⟨hN0,hN1⟩ (by first|omega|(dsimp only;omega)) ⟨id,id,id,id,id,id,id,id,id,id,trivial⟩ ⟨⟨rfl,id⟩,⟨rfl,id⟩,trivial⟩
    ·try simp at hc3
     refine ex (xt_ (xt_ (xb (th (sq (rg (fP rfl T.fld69_0 (lP rfl rfl rfl T.one28 (fc (slenI 63 rfl) fun hm63=>(lnF rfl T.sl28 (mv (nl (th (bk ?_))))))))))))))
     have hI2_0:0≤((ix s.states k).accept).length:=by
      first|omega|simp
     have hI2_1:(∀j,j<0→setOK (ix s.states k) s.actions.length (ix (ix s.states k).accept j)=true)∧∀j,j+1<0→ix (ix s.states k).accept j<ix (ix s.states k).accept (j+1):=by
      exact⟨fun j hj=>by omega,fun j hj=>by omega⟩
     refine lp (κ:=Nat) (fun p=> [(1,ptr 1 b1 0),(3,int (s.states.length:Int)),(5,ptr 5 b5 0),(6,int u),(27,sl 2 stateE s.states),(28,int (s.states.length:Int)),(29,int (k:Int)),(63,sl 1 intE ((ix s.states k).accept)),(64,int (((ix s.states k).accept).length:Int)),(65,int (p:Int))]) (fun p=> [(1,cell b1 [sl 1 strE s.actions,sl 2 stateE s.states]),(5,cell b5 [sl 1 intE ((ix s.states k).accept),sl 1 intE ((ix s.states k).next)])]) (fun p=>(p≤((ix s.states k).accept).length)∧((∀j,j<p→setOK (ix s.states k) s.actions.length (ix (ix s.states k).accept j)=true)∧∀j,j+1<p→ix (ix s.states k).accept j<ix (ix s.states k).accept (j+1))) (fun p=>((ix s.states k).accept).length- p) 0 ⟨hI2_0,hI2_1⟩ ⟨id,id,id,id,id,id,id,id,id,id,trivial⟩ ⟨⟨rfl,id⟩,⟨rfl,id⟩,trivial⟩ ?_
     intro k2 hG2
     obtain⟨hk2,hI2⟩:(k2≤((ix s.states k).accept).length)∧((∀j,j<k2→setOK (ix s.states k) s.actions.length (ix (ix s.states k).accept j)=true)∧∀j,j+1<k2→ix (ix s.states k).accept j<ix (ix s.states k).accept (j+1)):=hG2
     refine sq (rg (bi rfl rfl b_lss (nl (th (sq ?_)))))
     refine cd rfl (fun hc6=> ?_) (fun hc6=> ?_)
     ·try simp at hc6
      have hsk:=hsm k (by omega) k2 (by omega)
      refine sk (th (sq (bk (sq (rg (mv (iF rfl rfl T.sl28 (by omega) (by first|exact gN (by omega)|exact gI (by omega) (by omega)) (lF rfl rfl T.one3 (ag (ag (nl (th (sq (rg (mv (bi rfl rfl b_lss (mv ?_)))))))))))))))))
      apply gOr (t:=72) (pd:=77) rfl
      rotate_left
      ·intro hg3 fin
       have hg3':=hg3
       try simp at hg3'
       exact gy rfl rfl rfl hg3 (mv (gy rfl rfl rfl hg3 (mv (gy rfl rfl rfl hg3 (bi rfl rfl (b_andNotI (by omega) (by omega) (by omega) (by omega)) (gy rfl rfl rfl hg3 (bi rfl rfl b_neq (pkF rfl hg3 rfl (drp (X:= [(76,_),(75,_),(74,_),(73,_)]) ⟨rfl,rfl,rfl,rfl,trivial⟩ (fin))))))))))
      ·intro hg3 fin
       exact gn rfl rfl rfl hg3 rfl rfl (gn rfl rfl rfl hg3 rfl rfl (gn rfl rfl rfl hg3 rfl rfl (gn rfl rfl rfl hg3 rfl rfl (pkT rfl hg3 rfl (drp (X:= [(76,_),(75,_),(74,_),(73,_)]) ⟨rfl,rfl,rfl,rfl,trivial⟩ (fin))))))
      refine mv ?_
      apply gOr (t:=78) (pd:=91) rfl
      rotate_left
      ·intro hg4 fin
       have hg4':=hg4
       try simp at hg4'
       refine gy rfl rfl rfl hg4 (mv (gy rfl rfl rfl hg4 (bi rfl rfl b_gtr (gy rfl rfl rfl hg4 (mv ?_)))))
       apply gAnd (t:=81) (pd:=90) rfl
       rotate_left
       ·intro hg5 fin
        have hg5':=hg5
        try simp at hg5'
        exact gy rfl rfl rfl hg5 (fP rfl T.fld69_0 (gy rfl rfl rfl hg5 (lP rfl rfl rfl T.one28 (gy rfl rfl rfl hg5 (mv (gy rfl rfl rfl hg5 (bi rfl rfl (b_sub (by unfold I64;omega)) (gy rfl rfl rfl hg5 (iF rfl rfl T.sl28 (by omega) (by first|exact gN (by omega)|exact gI (by omega) (by omega)) (gy rfl rfl rfl hg5 (lF rfl rfl T.one3 (gy rfl rfl rfl hg5 (mv (gy rfl rfl rfl hg5 (bi rfl rfl b_geq (gy rfl rfl rfl hg4 (pkT rfl hg5 rfl (drp (X:= [(89,_),(88,_),(87,_),(86,_),(85,_),(84,_),(83,_),(82,_)]) ⟨rfl,rfl,rfl,rfl,rfl,rfl,rfl,rfl,trivial⟩ (fin)))))))))))))))))))
       ·intro hg5 fin
        exact gn rfl rfl rfl hg5 rfl rfl (gn rfl rfl rfl hg5 rfl rfl (gn rfl rfl rfl hg5 rfl rfl (gn rfl rfl rfl hg5 rfl rfl (gn rfl rfl rfl hg5 rfl rfl (gn rfl rfl rfl hg5 rfl rfl (gn rfl rfl rfl hg5 rfl rfl (gn rfl rfl rfl hg5 rfl rfl (gy rfl rfl rfl hg4 (pkF rfl hg5 rfl (drp (X:= [(89,_),(88,_),(87,_),(86,_),(85,_),(84,_),(83,_),(82,_)]) ⟨rfl,rfl,rfl,rfl,rfl,rfl,rfl,rfl,trivial⟩ (fin)))))))))))
       exact pkF rfl hg4 rfl (drp (X:= [(90,_),(81,_),(80,_),(79,_)]) ⟨rfl,rfl,rfl,rfl,trivial⟩ (fin))
      ·intro hg4 fin
       exact gn rfl rfl rfl hg4 rfl rfl (gn rfl rfl rfl hg4 rfl rfl (gn rfl rfl rfl hg4 rfl rfl (gu rfl rfl rfl rfl rfl (gu rfl rfl rfl rfl rfl (gu rfl rfl rfl rfl rfl (gu rfl rfl rfl rfl rfl (gu rfl rfl rfl rfl rfl (gu rfl rfl rfl rfl rfl (gu rfl rfl rfl rfl rfl (gu rfl rfl rfl rfl rfl (gn rfl rfl rfl hg4 rfl rfl (pkT rfl hg4 rfl (drp (X:= [(90,_),(89,_),(88,_),(87,_),(86,_),(85,_),(84,_),(83,_),(82,_),(81,_),(80,_),(79,_)]) ⟨rfl,rfl,rfl,rfl,rfl,rfl,rfl,rfl,rfl,rfl,rfl,rfl,trivial⟩ (fin))))))))))))))
      refine nl (th ?_)
      refine cd rfl (fun hc7=> ?_) (fun hc7=> ?_)
      ·try simp at hc7
       refine sq (rg (ag (nl (th (rt (rb (rt_ (rt_ (rb (rb (rt_ (rt_ (rb (rt_ ?_))))))))))))))
       have hr0:false=(specOK s):=by
        unfold specOK
        rw[all_fail (xs:=s.states) (k:=k) (by omega) ?_];simp
        unfold stateOK
        have hnl:(ix s.states k).next.length=s.actions.length:=by omega
        have hcan:canIs u (ix s.states k).next s.actions.length:=by rw[show s.actions.length=k1 by omega];exact hI1.2.2.1
        rcases Int.lt_or_le (ix (ix s.states k).accept k2) 0 with h0|h0
        ·rw[all_fail (xs:=(ix s.states k).accept) (k:=k2) (by omega) (setOK_neg h0)];simp
        ·rcases hc7 with(h|h)|h
         ·omega
         ·have hq:setOK (ix s.states k) s.actions.length (ix (ix s.states k).accept k2)=false:=by
                   cases hq:setOK (ix s.states k) s.actions.length (ix (ix s.states k).accept k2)
                   ·rfl
                   ·exact absurd ((setOK_iff hact hnl hcan h0).1 hq) h
          rw[all_fail (xs:=(ix s.states k).accept) (k:=k2) (by omega) hq];simp
         ·rw[rising_not (l:=(ix s.states k).accept) (j:=k2- 1) (by omega) (by rw[show k2- 1+1=k2 by omega];exact h.2)];simp
       have hall:∀x0,false=x0→resAV [bl false]=resAV [bl x0]:=by rintro _ rfl;rfl
       exact rE () [.tmp 2] rfl [bl false] ⟨.tmp rfl,trivial⟩ (hall _ hr0) trivial (by first|exact .inr rfl|exact .inl rfl)
      ·try simp at hc7
       refine sk (eb (th (rg (bi rfl rfl (b_add (by unfold I64;omega)) (mv (nl ?_))))))
       have hN0:(k2+1)≤((ix s.states k).accept).length:=by
        first|omega|simp_all
       have hN1:(∀j,j<(k2+1)→setOK (ix s.states k) s.actions.length (ix (ix s.states k).accept j)=true)∧∀j,j+1<(k2+1)→ix (ix s.states k).accept j<ix (ix s.states k).accept (j+1):=by
        have hnl:(ix s.states k).next.length=s.actions.length:=by omega
        have hcan:canIs u (ix s.states k).next s.actions.length:=by rw[show s.actions.length=k1 by omega];exact hI1.2.2.1
        refine⟨fun j hj=> ?_,fun j hj=> ?_⟩
        ·by_cases e:j=k2
         ·subst e;exact(setOK_iff hact hnl hcan (by omega)).2 (by omega)
         ·exact hI2.1 j (by omega)
        ·by_cases e:j+1=k2
         ·have h3:=hc7.2 (by omega)
          rw[show k2- 1=j by omega] at h3;rw[e];exact h3
         ·exact hI2.2 j (by omega)
       exact ln (k2+1) ⟨hN0,hN1⟩ (by first|omega|(dsimp only;omega)) ⟨id,id,id,id,id,id,id,id,id,id,trivial⟩ ⟨⟨rfl,id⟩,⟨rfl,id⟩,trivial⟩
     ·try simp at hc6
      refine ex (xt_ (xt_ (xb (eb (th (rg (bi rfl rfl (b_add (by unfold I64;omega)) (mv (nl ?_)))))))))
      have hN0:(k+1)≤s.states.length:=by
       first|omega|simp_all
      have hN1:(s.states.take (k+1)).all (fun x=>stateOK x (s.states.length:Int) s.actions.length)=true:=by
       rw[all_take_succ (by omega),hI0]
       have hnl:(ix s.states k).next.length=s.actions.length:=by omega
       have hk1:k1=s.actions.length:=by omega
       have hk2:k2=(ix s.states k).accept.length:=by omega
       have hall:=hI1.2.2.2
       rw[show k1=(ix s.states k).next.length by omega,List.take_length] at hall
       unfold stateOK
       rw[hall,rising_of (fun j hj=>hI2.2 j (by omega)),all_of_ix (fun j hj=>hI2.1 j (by omega))]
       simp;omega
      exact ln (k+1) ⟨hN0,hN1⟩ (by first|omega|(dsimp only;omega)) ⟨id,id,id,id,id,trivial⟩ ⟨⟨rfl,id⟩,trivial⟩
  ·try simp at hc1
   refine ex (xt_ (xt_ (xb (th (sq (rg (ag (nl (th (rt ?_))))))))))
   have hr0:true=(specOK s):=by
    unfold specOK
    rw[show k=s.states.length by omega,List.take_length] at hI0
    rw[hI0]
    simp[hc0];omega
   have hall:∀x0,true=x0→resAV [bl true]=resAV [bl x0]:=by rintro _ rfl;rfl
   exact rE () [.tmp 2] rfl [bl true] ⟨.tmp rfl,trivial⟩ (hall _ hr0) trivial (by first|exact .inr rfl|exact .inl rfl)
end prog2
end Go.Proofs.YtolpjmllmlahfaaDoor
namespace Go.Proofs.YtolpjmllmlahfaaDoor
open AL Go
set_option maxRecDepth 100000
set_option linter.all false
open ref01 ref03 ref04 ref06 prog prog2 Part
theorem fn_args {P:Program} {f:FuncId} {args args':List AV} {Hi:Hp} {ι:Type} {res:Nat→ι→AV} {Ho:ι→Hp} (h:∀{w F vs},All2 w F args' vs→All2 w F args vs) (hf:AL.Fn P f args Hi res Ho):AL.Fn P f args' Hi res Ho:=fun w F vs hv hb hH=>hf w F vs (h hv) hb hH
def pairP (p:SState→SState→Bool):AV:=pf Tryd.prog (fun _:SState × SState=>True) (fun x=> [state x.1,state x.2]) (fun x=>bl (p x.1 x.2))
def eqFunc (p:SState→SState→Bool) (l m:List SState):Bool:=decide (l.length=m.length)&&(List.range l.length).all fun i=>p (ix l i) (ix m i)
theorem eqFunc_eq {l m:List SState}:eqFunc (fun x y=>decide (x.accept=y.accept)&&decide (x.next=y.next)) l m=decide (l=m):=by
 by_cases h:l=m
 ·subst h
  simp[eqFunc]
 ·rw[decide_eq_false h]
  unfold eqFunc
  by_cases hl:l.length=m.length
  ·have:¬ ∀i,i<l.length→ix l i=ix m i:=fun hh=>h (by
     apply List.ext_getElem hl
     intro i h1 h2
     have:=hh i h1
     rwa [ix_get h1,ix_get h2] at this)
   rw[decide_eq_true hl,Bool.true_and]
   cases hq:(List.range l.length).all fun i=>decide ((ix l i).accept=(ix m i).accept)&&decide ((ix l i).next=(ix m i).next)
   ·rfl
   ·refine absurd (fun i hi=> ?_) this
    have:=List.all_eq_true.1 hq i (List.mem_range.2 hi)
    simp at this
    exact SState.ext this.1 this.2
  ·rw[decide_eq_false hl];rfl
namespace T
theorem ent68:Ent Tryd.prog 68:=ent_of (by kernel_rfl)
theorem ent69:Ent Tryd.prog 69:=ent_of (by kernel_rfl)
theorem ent66:Ent Tryd.prog 66:=ent_of (by kernel_rfl)
theorem ent67:Ent Tryd.prog 67:=ent_of (by kernel_rfl)
end T
namespace prog3
theorem Same1_ok (x y:SState):
 Fn0 Tryd.prog 68 [state x,state y] (bl (decide (x.accept=y.accept)&&decide (x.next=y.next))):=by
 refine fnI Tryd.func68 rfl rfl (fun w0 F0=> ?_)
 refine fcC (inhS 0 rfl) (fun hS0=> ?_)
 obtain⟨hxa0,hxn0⟩:=state_lens hS0
 refine fcC (inhS 1 rfl) (fun hS1=> ?_)
 obtain⟨hxa1,hxn1⟩:=state_lens hS1
 refine sq (rg (bx (key:=2) (cs:= [sl 1 intE x.accept,sl 1 intE x.next]) rfl fun b2=>(bx (key:=3) (cs:= [sl 1 intE y.accept,sl 1 intE y.next]) rfl fun b3=>(ag (nl (th (sq (rg (fP rfl T.fld69_0 (lP rfl rfl rfl T.one28 (fP rfl T.fld69_0 (lP rfl rfl rfl T.one28 (cal0 (φs:= [sl 1 intE x.accept,sl 1 intE y.accept]) (φ:=bl (decide (x.accept=y.accept))) ⟨rfl,rfl,trivial⟩ (prog.sEqualintE_ok _ _) T.ent69 (mv ?_))))))))))))))
 apply gAnd (t:=10) (pd:=16) rfl
 rotate_left
 ·intro hg0 fin
  have hg0':=hg0
  try simp at hg0'
  exact gy rfl rfl rfl hg0 (fP rfl T.fld69_1 (gy rfl rfl rfl hg0 (lP rfl rfl rfl T.one28 (gy rfl rfl rfl hg0 (fP rfl T.fld69_1 (gy rfl rfl rfl hg0 (lP rfl rfl rfl T.one28 (gy rfl rfl rfl hg0 (cal0 (φs:= [sl 1 intE x.next,sl 1 intE y.next]) (φ:=bl (decide (x.next=y.next))) ⟨rfl,rfl,trivial⟩ (prog.sEqualintE_ok _ _) T.ent69 (pkT rfl hg0 rfl (drp (X:= [(15,_),(14,_),(13,_),(12,_),(11,_)]) ⟨rfl,rfl,rfl,rfl,rfl,trivial⟩ (fin))))))))))))
 ·intro hg0 fin
  exact gn rfl rfl rfl hg0 rfl rfl (gn rfl rfl rfl hg0 rfl rfl (gn rfl rfl rfl hg0 rfl rfl (gn rfl rfl rfl hg0 rfl rfl (gn rfl rfl rfl hg0 rfl rfl (pkF rfl hg0 rfl (drp (X:= [(15,_),(14,_),(13,_),(12,_),(11,_)]) ⟨rfl,rfl,rfl,rfl,rfl,trivial⟩ (fin)))))))
 refine ag (nl (th (rt ?_)))
 have hr0:((decide (x.accept=y.accept))&&(decide (x.next=y.next)))=(decide (x.accept=y.accept)&&decide (x.next=y.next)):=by
  first|rfl|simp_all|omega
 have hall:∀x0,((decide (x.accept=y.accept))&&(decide (x.next=y.next)))=x0→resAV [bl ((decide (x.accept=y.accept))&&(decide (x.next=y.next)))]=resAV [bl x0]:=by rintro _ rfl;rfl
 exact rE () [.tmp 4] rfl [bl ((decide (x.accept=y.accept))&&(decide (x.next=y.next)))] ⟨.tmp rfl,trivial⟩ (hall _ hr0) trivial (by first|exact .inr rfl|exact .inl rfl)
theorem sEqualFunc_ok (l m:List SState) (pq:SState→SState→Bool):
 Fn0 Tryd.prog 67 [sl 2 stateE l,sl 2 stateE m,pairP pq] (bl (eqFunc pq l m)):=by
 refine fnI Tryd.func67 rfl rfl (fun w0 F0=> ?_)
 refine fcC (slenI 0 rfl) (fun hm0=> ?_)
 refine fcC (slenI 1 rfl) (fun hm1=> ?_)
 refine sq (rg (ag (nl (th (sq (sq (rg (mv (lnF rfl T.sl23 (mv (lnF rfl T.sl23 (bi rfl rfl b_neq (nl (th ?_))))))))))))))
 refine cd rfl (fun hc0=> ?_) (fun hc0=> ?_)
 ·try simp at hc0
  refine sq (rg (ag (nl (th (rt (rt_ ?_))))))
  have hr0:false=(eqFunc pq l m):=by
   unfold eqFunc
   rw[decide_eq_false (by omega)];rfl
  have hall:∀x0,false=x0→resAV [bl false]=resAV [bl x0]:=by rintro _ rfl;rfl
  exact rE () [.tmp 6] rfl [bl false] ⟨.tmp rfl,trivial⟩ (hall _ hr0) trivial (by first|exact .inr rfl|exact .inl rfl)
 ·try simp at hc0
  refine sk (th (sq (sq (rg (mv (lnF rfl T.sl23 (mv (nl (th (bk ?_))))))))))
  have hI0_0:0≤l.length:=by
   first|omega|simp
  have hI0_1:(List.range 0).all (fun i=>pq (ix l i) (ix m i))=true:=by
   simp
  refine lp (κ:=Nat) (fun p=> [(1,sl 2 stateE m),(2,pairP pq),(15,sl 2 stateE l),(16,int (l.length:Int)),(17,int (p:Int))]) (fun p=> []) (fun p=>(p≤l.length)∧((List.range p).all (fun i=>pq (ix l i) (ix m i))=true)) (fun p=>l.length- p) 0 ⟨hI0_0,hI0_1⟩ ⟨id,id,id,id,id,trivial⟩ trivial ?_
  intro k hG0
  obtain⟨hk0,hI0⟩:(k≤l.length)∧((List.range k).all (fun i=>pq (ix l i) (ix m i))=true):=hG0
  refine sq (rg (bi rfl rfl b_lss (nl (th (sq ?_)))))
  refine cd rfl (fun hc1=> ?_) (fun hc1=> ?_)
  ·try simp at hc1
   refine sk (th (sq (bk (sq (rg (mv (iF rfl rfl T.sl23 (by omega) (by first|exact gN (by omega)|exact gI (by omega) (by omega)) (lFA rfl T.agg69 (Nat.le_of_ble_eq_true rfl) (al (key:=8) T.z69 (ex_cons (ex_cons (ex_nil))) fun b8=>(ag (sPA (cs':= [sl 1 intE ((ix l k).accept),sl 1 intE ((ix l k).next)]) rfl rfl rfl T.agg69 rfl rfl (nl (th (sq (rg (mv (mv (iF rfl rfl T.sl23 (by omega) (by first|exact gN (by omega)|exact gI (by omega) (by omega)) (lFA rfl T.agg69 (Nat.le_of_ble_eq_true rfl) (al (key:=9) T.z69 (ex_cons (ex_cons (ex_nil))) fun b9=>(sPA (cs':= [sl 1 intE ((ix m k).accept),sl 1 intE ((ix m k).next)]) rfl rfl rfl T.agg69 rfl rfl (nl (th (sq (rg (mv (lPA rfl rfl T.agg69 rfl (lPA rfl rfl T.agg69 rfl (callP rfl (ix l k,ix m k) trivial rfl (no rfl (nl (th ?_))))))))))))))))))))))))))))))))
   refine cd rfl (fun hc2=> ?_) (fun hc2=> ?_)
   ·try simp at hc2
    refine sq (rg (ag (nl (th (rt (rb (rt_ (rt_ (rb (rt_ ?_))))))))))
    have hr0:false=(eqFunc pq l m):=by
     unfold eqFunc
     rw[all_range_not (i:=k) (by omega) (by simpa using hc2)];simp
    have hall:∀x0,false=x0→resAV [bl false]=resAV [bl x0]:=by rintro _ rfl;rfl
    exact rE () [.tmp 6] rfl [bl false] ⟨.tmp rfl,trivial⟩ (hall _ hr0) trivial (by first|exact .inr rfl|exact .inl rfl)
   ·try simp at hc2
    refine sk (eb (th (rg (bi rfl rfl (b_add (by unfold I64;omega)) (mv (nl ?_))))))
    have hN0:(k+1)≤l.length:=by
     first|omega|simp_all
    have hN1:(List.range (k+1)).all (fun i=>pq (ix l i) (ix m i))=true:=by
     rw[all_range_succ,hI0];simpa using hc2
    exact ln (k+1) ⟨hN0,hN1⟩ (by first|omega|(dsimp only;omega)) ⟨id,id,id,id,id,trivial⟩ trivial
  ·try simp at hc1
   refine ex (xt_ (xt_ (xb (th (sq (rg (ag (nl (th (rt ?_))))))))))
   have hr0:true=(eqFunc pq l m):=by
    unfold eqFunc
    rw[show l.length=k by omega,hI0,decide_eq_true (by omega)];rfl
   have hall:∀x0,true=x0→resAV [bl true]=resAV [bl x0]:=by rintro _ rfl;rfl
   exact rE () [.tmp 6] rfl [bl true] ⟨.tmp rfl,trivial⟩ (hall _ hr0) trivial (by first|exact .inr rfl|exact .inl rfl)
theorem eqStates_ok (l m:List SState):Fn0 Tryd.prog 67 [sl 2 stateE l,sl 2 stateE m,eqv (.func (.func 68) #[] #[])] (bl (decide (l=m))):=by
 rw[←eqFunc_eq]
 refine fn_args (fun {w F vs} h=> ?_) (sEqualFunc_ok l m (fun x y=>decide (x.accept=y.accept)&&decide (x.next=y.next)))
 match vs,h with
 | [_,_,_],⟨h1,h2,h3,_⟩=>exact⟨h1,h2,func_pf T.ent68 (fun x _=>Same1_ok x.1 x.2) h3,trivial⟩
theorem Same_ok (s t:SSpec):
 Fn0 Tryd.prog 42 [spec s,spec t] (bl (decide (s=t))):=by
 refine fnI Tryd.func42 rfl rfl (fun w0 F0=> ?_)
 refine fcC (inhS 0 rfl) (fun hS0=> ?_)
 obtain⟨hsa0,hss0,hse0⟩:=spec_lens hS0
 refine fcC (inhS 1 rfl) (fun hS1=> ?_)
 obtain⟨hsa1,hss1,hse1⟩:=spec_lens hS1
 refine sq (rg (bx (key:=2) (cs:= [sl 1 strE s.actions,sl 2 stateE s.states]) rfl fun b2=>(bx (key:=3) (cs:= [sl 1 strE t.actions,sl 2 stateE t.states]) rfl fun b3=>(ag (nl (th (sq (rg (fP rfl T.fld25_0 (lP rfl rfl rfl T.one22 (fP rfl T.fld25_0 (lP rfl rfl rfl T.one22 (cal0 (φs:= [sl 1 strE s.actions,sl 1 strE t.actions]) (φ:=bl (decide (s.actions=t.actions))) ⟨rfl,rfl,trivial⟩ (prog.sEqualstrE_ok _ _) T.ent66 (mv ?_))))))))))))))
 apply gAnd (t:=10) (pd:=16) rfl
 rotate_left
 ·intro hg0 fin
  have hg0':=hg0
  try simp at hg0'
  exact gy rfl rfl rfl hg0 (fP rfl T.fld25_1 (gy rfl rfl rfl hg0 (lP rfl rfl rfl T.one23 (gy rfl rfl rfl hg0 (fP rfl T.fld25_1 (gy rfl rfl rfl hg0 (lP rfl rfl rfl T.one23 (gy rfl rfl rfl hg0 (cal0 (φs:= [sl 2 stateE s.states,sl 2 stateE t.states,eqv (.func (.func 68) #[] #[])]) (φ:=bl (decide (s.states=t.states))) ⟨rfl,rfl,rfl,trivial⟩ (eqStates_ok _ _) T.ent67 (pkT rfl hg0 rfl (drp (X:= [(15,_),(14,_),(13,_),(12,_),(11,_)]) ⟨rfl,rfl,rfl,rfl,rfl,trivial⟩ (fin))))))))))))
 ·intro hg0 fin
  exact gn rfl rfl rfl hg0 rfl rfl (gn rfl rfl rfl hg0 rfl rfl (gn rfl rfl rfl hg0 rfl rfl (gn rfl rfl rfl hg0 rfl rfl (gn rfl rfl rfl hg0 rfl rfl (pkF rfl hg0 rfl (drp (X:= [(15,_),(14,_),(13,_),(12,_),(11,_)]) ⟨rfl,rfl,rfl,rfl,rfl,trivial⟩ (fin)))))))
 refine ag (nl (th (rt ?_)))
 have hr0:((decide (s.actions=t.actions))&&(decide (s.states=t.states)))=(decide (s=t)):=by
  by_cases h1:s.actions=t.actions<;>by_cases h2:s.states=t.states<;>simp[h1,h2,SSpec.ext_iff]
 have hall:∀x0,((decide (s.actions=t.actions))&&(decide (s.states=t.states)))=x0→resAV [bl ((decide (s.actions=t.actions))&&(decide (s.states=t.states)))]=resAV [bl x0]:=by rintro _ rfl;rfl
 exact rE () [.tmp 4] rfl [bl ((decide (s.actions=t.actions))&&(decide (s.states=t.states)))] ⟨.tmp rfl,trivial⟩ (hall _ hr0) trivial (by first|exact .inr rfl|exact .inl rfl)
theorem In_ok (t:Int):
 Fn0 Tryd.prog 95 [int t] (clo 115 [fp [int t]]):=by
 refine fnI Tryd.func95 rfl rfl (fun w0 F0=> ?_)
 refine sq (rg (bx1 (key:=1) (φ:=int t) rfl fun b1=>(ag (nl (th (sq (rg (fzv 1 1 rfl rfl (mkf (ag (nl (th (rt ?_)))))))))))))
 exact rE () [.tmp 2] rfl [clo 115 [fp [int t]]] ⟨.tmp rfl,trivial⟩ (rfl) trivial (by first|exact .inr rfl|exact .inl rfl)
end prog3
end Go.Proofs.YtolpjmllmlahfaaDoor
namespace Go.Proofs.YtolpjmllmlahfaaDoor
open AL Go
set_option maxRecDepth 100000
set_option linter.all false
open ref01 ref03 ref04 ref06 prog prog2 prog3 Part
attribute [local semireducible] eqv in
theorem eqv_rfl {x:Value} {w:World} {F:Fz}:(eqv x).p w F x:=rfl
abbrev smE:ByteArray→Value:=fun s=>Value.string s
abbrev smD:ByteArray→Prop:=fun s=>s.size≤maxL
abbrev smV:Int→AV:=fun n=>int n
def keyP (n:Nat) (l:List SState) (kf:Nat→ByteArray):AV:=pf Tryd.prog (fun i:Nat=>i<n) (fun i=> [int (i:Int),state (ix l i)]) (fun i=>str (kf i))
def mapIs (kf:Nat→ByteArray) (mm:List (ByteArray × Int)) (fl:List Int):Prop:=mm.length=fl.length∧∀q,mget mm q=(fl.findIdx? (fun y=>decide (q=kf y.toNat))).map (fun j=>(j:Int))
theorem mapIs_snoc {kf:Nat→ByteArray} {mm:List (ByteArray × Int)} {fl:List Int} {k:Nat} (h:mapIs kf mm fl) (hn:mget mm (kf k)=none):mapIs kf (mset mm (kf k) (mm.length:Int)) (fl++ [(k:Int)]):=by
 refine⟨by rw[mset_len,hn];simp[h.1],fun q=> ?_⟩
 rw[mget_mset,h.2 q,List.findIdx?_append]
 by_cases e:kf k=q
 ·subst e
  have h2:=h.2 (kf k)
  rw[hn] at h2
  cases hf:fl.findIdx? (fun y=>decide (kf k=kf y.toNat)) with
  |some j=>rw[hf] at h2;simp at h2
  |none=>simp[h.1]
 ·rw[if_neg e]
  have e':¬q=kf k:=fun h=>e h.symm
  cases hf:fl.findIdx? (fun y=>decide (q=kf y.toNat))<;>simp[e']
namespace T
theorem map164:MapT Tryd.prog 164 9 3 smE smD:=mapT_str (by kernel_rfl) (by kernel_rfl)
theorem zv3:∀w F,∃u,(zeroValue 3).run Tryd.prog w= .ok u w∧(int 0).p w F u:=zeroV_of (v:= .int .i64 0) (by kernel_rfl) _ (fun _ _=>eqv_rfl)
end T
namespace prog5
theorem numbered_ok (l:List SState) (kf:Nat→ByteArray) (hk:∀i,(kf i).size≤maxL) (hl:l.length≤10000):
 AL.Fn Tryd.prog 91 [sl 2 stateE l,keyP l.length l kf] [] (ι:=Unit) (fun N _=>tup [fre N (ints (numBy (fun x y=>decide (kf x=kf y)) l.length).1),int ((numBy (fun x y=>decide (kf x=kf y)) l.length).2.length:Int)]) (fun _=> []):=by
 refine fnI Tryd.func91 rfl rfl (fun w0 F0=> ?_)
 refine fcC (slenI 0 rfl) (fun hm0=> ?_)
 refine sq (rg (ag (kn 4 (sl 1 intE []) rfl slnil (ag (nl (th (sq (rg (mkm (key:=13) (kE:=smE) (dom:=smD) (vE:=smV) fun b13=>(ag (nl (th (sq (rg (nw 7 3 1 intE (ag (rtg (key:=7) 7 rfl (nl (th (sq (sq (rg (mv (lnF rfl T.sl23 (mv (nl (th (bk ?_))))))))))))))))))))))))))))
 have hI0_0:0≤l.length:=by
  first|omega|simp
 have hI0_1:([]:List Int)=(numBy (fun x y=>decide (kf x=kf y)) 0).1∧mapIs kf ([]:List (ByteArray × Int)) (numBy (fun x y=>decide (kf x=kf y)) 0).2:=by
  exact⟨rfl,rfl,fun q=>rfl⟩
 refine lp (κ:=Nat × Value × (List Int) × (List (ByteArray × Int))) (fun p=> [(1,keyP l.length l kf),(4,sl 1 intE []),(5,int 0),(6,mpv 13 b13),(7,osl 7 p.2.1),(14,sl 2 stateE l),(15,int (l.length:Int)),(16,int (p.1:Int))]) (fun p=> [(7,own p.2.1 3 1 intE p.2.2.1),(13,mp b13 smE smD smV p.2.2.2)]) (fun p=>(p.1≤l.length)∧(p.2.2.1=(numBy (fun x y=>decide (kf x=kf y)) p.1).1∧mapIs kf p.2.2.2 (numBy (fun x y=>decide (kf x=kf y)) p.1).2)) (fun p=>l.length- p.1) ⟨0,(.slice none 0 0),([]:List Int),([]:List (ByteArray × Int))⟩ ⟨hI0_0,hI0_1⟩ ⟨id,id,id,id,id,id,id,id,trivial⟩ ⟨⟨rfl,id⟩,⟨rfl,id⟩,trivial⟩ ?_
 intro⟨k,v,acc,mm⟩ hG0
 obtain⟨hk0,hI0⟩:(k≤l.length)∧(acc=(numBy (fun x y=>decide (kf x=kf y)) k).1∧mapIs kf mm (numBy (fun x y=>decide (kf x=kf y)) k).2):=hG0
 show Ct _ _ _ _ [(1,keyP l.length l kf),(4,sl 1 intE []),(5,int 0),(6,mpv 13 b13),(7,osl 7 v),(14,sl 2 stateE l),(15,int (l.length:Int)),(16,int (k:Int))] [(7,own v 3 1 intE acc),(13,mp b13 smE smD smV mm)] _
 have hal:acc.length=k:=by rw[hI0.1];exact num_len _
 refine sq (rg (bi rfl rfl b_lss (nl (th (sq ?_)))))
 refine cd rfl (fun hc0=> ?_) (fun hc0=> ?_)
 ·try simp at hc0
  refine sk (th (sq (bk (sq (rg (mv (iF rfl rfl T.sl23 (by omega) (by first|exact gN (by omega)|exact gI (by omega) (by omega)) (lFA rfl T.agg69 (Nat.le_of_ble_eq_true rfl) (al (key:=9) T.z69 (ex_cons (ex_cons (ex_nil))) fun b9=>(ag (sPA (cs':= [sl 1 intE ((ix l k).accept),sl 1 intE ((ix l k).next)]) rfl rfl rfl T.agg69 rfl rfl (nl (th (sq (rg (mv (mv (lPA rfl rfl T.agg69 rfl (callP rfl k (by omega) rfl (ag (nl (th (sq (rg (mv (mv (lookup2 (z:=0) (q:=kf k) rfl rfl eqv_eq T.map164 (hk k) T.zv3 (mv (xt rfl rfl (xt rfl rfl (ag (ag (nl (th (sq (sq (rg (mv (no rfl (nl (th ?_)))))))))))))))))))))))))))))))))))))))))
  refine cd rfl (fun hc1=> ?_) (fun hc1=> ?_)
  ·try simp at hc1
   refine sq (rg (mv (lenM rfl rfl T.map164 (ag (nl (th (rg (mv (mv (mv (mapUpdate (q:=kf k) (u:=(mm.length:Int)) rfl rfl eqv_eq rfl T.map164 (hk k) (nl (th (rg (mv (mv (bsE (enc:=intE) (xs:= [(mm.length:Int)]) (css:= [[int (mm.length:Int)]]) T.mk28 ⟨rfl,rfl,p1 (φ:=int (mm.length:Int)) rfl,trivial⟩ rfl rfl rfl rfl (ap (key:=7) (zs:= [(mm.length:Int)]) osl_eq rfl rfl rfl T.mk28 (by unfold maxL at*;simp;omega) (by unfold maxL at*;simp;omega) fun v41=>(ag (nl (eb (th (rg (bi rfl rfl (b_add (by unfold I64;omega)) (mv (nl ?_))))))))))))))))))))))))))
   have hN0:(k+1)≤l.length:=by
    first|omega|simp_all
   have hN1:(acc++ [(mm.length:Int)])=(numBy (fun x y=>decide (kf x=kf y)) (k+1)).1∧mapIs kf (mset mm (kf k) (mm.length:Int)) (numBy (fun x y=>decide (kf x=kf y)) (k+1)).2:=by
    have hn:mget mm (kf k)=none:=by simpa using hc1
    have hf:=hI0.2.2 (kf k)
    rw[hn] at hf
    have hms:=mapIs_snoc hI0.2 hn
    rw[numBy]
    cases hq:(numBy (fun x y=>decide (kf x=kf y)) k).2.findIdx? (fun y=>decide (kf k=kf y.toNat)) with
    |some j=>rw[hq] at hf;simp at hf
    |none=>exact⟨by rw[hI0.1,hI0.2.1],hms⟩
   exact ln (⟨k+1,v41,acc++ [(mm.length:Int)],mset mm (kf k) (mm.length:Int)⟩:Nat × Value × (List Int) × (List (ByteArray × Int))) ⟨hN0,hN1⟩ (by first|omega|(dsimp only;omega)) ⟨id,id,id,id,id,id,id,id,trivial⟩ ⟨⟨rfl,id⟩,⟨rfl,id⟩,trivial⟩
  ·try simp at hc1
   refine sk (th (rg (mv (mv (bsE (enc:=intE) (xs:= [((mget mm (kf k)).getD 0)]) (css:= [[int ((mget mm (kf k)).getD 0)]]) T.mk28 ⟨rfl,rfl,p1 (φ:=int ((mget mm (kf k)).getD 0)) rfl,trivial⟩ rfl rfl rfl rfl (ap (key:=7) (zs:= [((mget mm (kf k)).getD 0)]) osl_eq rfl rfl rfl T.mk28 (by unfold maxL at*;simp;omega) (by unfold maxL at*;simp;omega) fun v41=>(ag (nl (eb (th (rg (bi rfl rfl (b_add (by unfold I64;omega)) (mv (nl ?_))))))))))))))
   have hN0:(k+1)≤l.length:=by
    first|omega|simp_all
   have hN1:(acc++ [((mget mm (kf k)).getD 0)])=(numBy (fun x y=>decide (kf x=kf y)) (k+1)).1∧mapIs kf mm (numBy (fun x y=>decide (kf x=kf y)) (k+1)).2:=by
    have hf:=hI0.2.2 (kf k)
    rw[numBy]
    cases hq:(numBy (fun x y=>decide (kf x=kf y)) k).2.findIdx? (fun y=>decide (kf k=kf y.toNat)) with
    |none=>rw[hq] at hf;simp at hf;simp[hf] at hc1
    |some j=>rw[hq] at hf;simp at hf;exact⟨by rw[hI0.1,hf];rfl,hI0.2⟩
   exact ln (⟨k+1,v41,acc++ [((mget mm (kf k)).getD 0)],mm⟩:Nat × Value × (List Int) × (List (ByteArray × Int))) ⟨hN0,hN1⟩ (by first|omega|(dsimp only;omega)) ⟨id,id,id,id,id,id,id,id,trivial⟩ ⟨⟨rfl,id⟩,⟨rfl,id⟩,trivial⟩
 ·try simp at hc0
  refine ex (xt_ (xt_ (xb (th (sq (rg (mv (mv (lenM rfl rfl T.map164 (ag (ag (nl (th (rt ?_))))))))))))))
  refine fzNA intE 7 4 noM flat rfl rfl ?_
  have hr0:acc=((numBy (fun x y=>decide (kf x=kf y)) l.length).1):=by
   rw[hI0.1,show k=l.length by omega]
  have hr1:((mm.length:Int):Int)=((numBy (fun x y=>decide (kf x=kf y)) l.length).2.length:Int):=by
   rw[hI0.2.1,show k=l.length by omega]
  have hall:∀x0 x1,acc=x0→(mm.length:Int)=x1→resAV [fre w0.heap.size (sl 1 intE acc),int (mm.length:Int)]=resAV [fre w0.heap.size (sl 1 intE x0),int x1]:=by rintro _ _ rfl rfl;rfl
  exact rE () [.tmp 4,.tmp 5] rfl [fre w0.heap.size (sl 1 intE acc),int (mm.length:Int)] ⟨.tmp rfl,.tmp rfl,trivial⟩ (hall _ _ hr0 hr1) trivial (by first|exact .inr rfl|exact .inl rfl)
end prog5
end Go.Proofs.YtolpjmllmlahfaaDoor
namespace Go.Proofs.YtolpjmllmlahfaaDoor
open AL Go
set_option maxRecDepth 100000
set_option linter.all false
open ref01 ref03 ref04 ref06 prog prog2 prog3 Part
attribute [local semireducible] andp any in
theorem andp_any {q:Prop} (hq:q) {w:World} {F:Fz} {v:Value}:(andp q any).p w F v:=⟨hq,trivial⟩
theorem subH1 {x:HA} {H:Hp}:SubH [(0,x)] ((0,x)::H):=⟨by rw[lkH_same];exact⟨rfl,id⟩,trivial⟩
theorem shr_pos {t a:Nat} (ht:t<2^63) (h:0<t>>>a):a≤62:=by
 rw[Nat.shiftRight_eq_div_pow] at h
 rcases Nat.lt_or_ge 62 a with h1|h1
 ·have h2:2^63≤2^a:=Nat.pow_le_pow_right (by omega) (by omega)
  rw[Nat.div_eq_of_lt (by omega)] at h
  omega
 ·exact h1
theorem listOf_stop {t:Int} {a:Nat} (h:t.toNat>>>a=0):∀j,listOf (a+j) t=listOf a t
 |0=>rfl
 |j+1=>by
  rw[show a+(j+1)=a+j+1 by omega,listOf_succ,listOf_stop h j]
  have:has t ((a+j:Nat):Int)=false:=by
   unfold has
   rw[Int.toNat_natCast,Nat.testBit_eq_decide_div_mod_eq]
   rw[Nat.shiftRight_eq_div_pow] at h
   have h2:t.toNat/2^ (a+j)=0:=by
    rw[Nat.pow_add,←Nat.div_div_eq_div_mul,h,Nat.zero_div]
   rw[h2];rfl
  rw[this];simp
theorem listOf_pre (t:Int) (a:Nat):∀j,∃q,listOf (a+j) t=listOf a t++q
 |0=>⟨[],by simp⟩
 |j+1=>by
  obtain⟨q,hq⟩:=listOf_pre t a j
  rw[show a+(j+1)=a+j+1 by omega,listOf_succ,hq,List.append_assoc]
  exact⟨_,rfl⟩
theorem listOf_at {t:Int} {a:Nat} (h:has t (a:Int)=true) (ha:a≤62):(listOf 63 t)[(listOf a t).length]?=some (a:Int):=by
 obtain⟨q,hq⟩:=listOf_pre t (a+1) (62- a)
 rw[show a+1+(62- a)=63 by omega] at hq
 rw[hq,listOf_succ,if_pos h]
 simp
namespace prog4
theorem InIt (t:Int) (h0:0≤t) (h1:t<2^63):
 It Tryd.prog 115 [fp [int t]] intE (listOf 63 t):=by
 intro y Y Z hlaw hz hY0
 refine fnI Tryd.func115 rfl rfl (fun w0 F0=> ?_)
 refine sq (rg (ag (nl (th (bk ?_)))))
 have hI0_0:Y (listOf 0 t).length hz∧0≤63:=by
  exact⟨hY0,by omega⟩
 refine lp (κ:=Nat × HA) (fun p=> [(0,eqv y),(1,fp [int t]),(3,int (p.1:Int))]) (fun p=> [(0,p.2)]) (fun p=>Y (listOf p.1 t).length p.2∧p.1≤63) (fun p=>64- p.1) ⟨0,hz⟩ hI0_0 ⟨id,id,id,trivial⟩ subH1 ?_
 intro⟨a,hh⟩ hG0
 have hI0:Y (listOf a t).length hh∧a≤63:=hG0
 show Ct _ _ _ _ [(0,eqv y),(1,fp [int t]),(3,int (a:Int))] [(0,hh)] _
 refine sq (sq (rg (lF rfl rfl T.one3 (mv (bi rfl rfl (b_shrI (by omega) (by omega) (by omega)) (bi rfl rfl b_gtr (nl (th ?_))))))))
 refine cd rfl (fun hc0=> ?_) (fun hc0=> ?_)
 ·skip
  have hc0:0<t.toNat>>>a:=by have h5:=of_decide_eq_true hc0;rw[Int.toNat_natCast] at h5;omega
  have ha62:=shr_pos (t:=t.toNat) (by omega) hc0
  refine sk (th (sq (bk (sq (rg (lF rfl rfl T.one3 (mv (bi rfl rfl (b_shrI (by omega) (by omega) (by omega)) (bi rfl rfl (b_and1 (m:=(t.toNat>>>a)) (Nat.lt_of_le_of_lt (Nat.shiftRight_le _ _) (by omega))) (bi rfl rfl b_eql (mv ?_)))))))))))
  rcases Bool.eq_false_or_eq_true (decide ((((t.toNat>>>a)&&&1:Nat):Int)=1)) with hg0|hg0
  ·have hg0':=hg0
   try simp at hg0'
   have hha:has t (a:Int)=true:=by unfold has;rw[Int.toNat_natCast,has_eq];exact hg0
   have hxa:=listOf_at hha ha62
   refine gy rfl rfl rfl hg0 (mv (gy rfl rfl rfl hg0 (mv (gy rfl rfl rfl hg0 (callV (Hi:= [(0,hh)]) rfl (hlaw _ hh (a:Int) hI0.1 hxa) subH1 fun N bh=>oan 18 rfl fun hres=>(gy rfl rfl rfl hg0 (no rfl (pkT rfl hg0 rfl (nl (th ?_))))))))))
   refine cd rfl (fun hc1=> ?_) (fun hc1=> ?_)
   ·try simp at hc1
    refine rt (rb (rt_ (rt_ (rb ?_))))
    exact r0 bh.2 rfl (fun _=>andp_any (.inr (hres.2 hc1))) subH1 (.inr rfl)
   ·try simp at hc1
    refine sk (eb (th (rg (mv (bi rfl rfl (b_add (by unfold I64;omega)) (ag (nl ?_)))))))
    have hN0:Y (listOf (a+1) t).length bh.2∧(a+1)≤63:=by
     refine⟨?_,by omega⟩
     rw[listOf_succ,hha];simpa using hres.1 hc1
    exact ln (⟨a+1,bh.2⟩:Nat × HA) hN0 (by first|omega|(dsimp only;omega)) ⟨id,id,id,trivial⟩ subH1
  ·have hg0':=hg0
   try simp at hg0'
   have hha:has t (a:Int)=false:=by unfold has;rw[Int.toNat_natCast,has_eq];exact hg0
   refine gn rfl rfl rfl hg0 rfl rfl (gn rfl rfl rfl hg0 rfl rfl (gn rfl rfl rfl hg0 rfl rfl (gn rfl rfl rfl hg0 rfl rfl (pkF rfl hg0 rfl (nl (th ?_))))))
   refine cd rfl (fun hc1=> ?_) (fun hc1=> ?_)
   ·try simp at hc1
    skip
   ·try simp at hc1
    refine sk (eb (th (rg (mv (bi rfl rfl (b_add (by unfold I64;omega)) (ag (nl ?_)))))))
    have hN0:Y (listOf (a+1) t).length hh∧(a+1)≤63:=by
     refine⟨?_,by omega⟩
     rw[listOf_succ,hha];simpa using hI0.1
    exact ln (⟨a+1,hh⟩:Nat × HA) hN0 (by first|omega|(dsimp only;omega)) ⟨id,id,id,trivial⟩ subH1
 ·skip
  have hc0:t.toNat>>>a=0:=by have h5:=of_decide_eq_false hc0;rw[Int.toNat_natCast] at h5;exact Nat.eq_zero_of_not_pos (fun h=>h5 (Int.natCast_pos.2 h))
  refine ex (xt_ (xt_ (xb ?_)))
  exact r0 hh rfl (fun _=>andp_any (.inl (by have e:=listOf_stop hc0 (63- a);rw[show a+(63- a)=63 by omega] at e;rw[e];exact hI0.1))) subH1 (.inl rfl)
end prog4
end Go.Proofs.YtolpjmllmlahfaaDoor
namespace Go.Proofs.YtolpjmllmlahfaaDoor
open AL ref01 ref03 ref04
namespace Rungs
structure LS where
 left:List Int
 dead:List (List Bool)
 out:List Int
def lowS (s:SSpec) (x:Nat) (a:Int) (k:Nat) (t:LS):LS:=if has (ix (ix s.states x).accept k) a&& !ix (ix t.dead x) k then
 ⟨t.left.set x (ix t.left x- 1),t.dead.set x ((ix t.dead x).set k true),if ix t.left x- 1=0 then t.out++ [(x:Int)] else t.out⟩ else t
def lowK (s:SSpec) (x:Nat) (a:Int):Nat→LS→LS
 |0,st=>st
 |k+1,st=>lowS s x a k (lowK s x a k st)
def low (s:SSpec) (x:Nat) (a:Int) (st:LS):LS:=lowK s x a (ix s.states x).accept.length st
def preds1 (s:SSpec) (x y j:Nat):List (Int × Int):=((List.range j).filter fun a=>decide (ix (ix s.states x).next a=(y:Int))).map fun(a:Nat)=>((x:Int),(a:Int))
def preds (s:SSpec) (k y:Nat):List (Int × Int):=(List.range k).flatMap fun x=>preds1 s x y (ix s.states x).next.length
def procs (s:SSpec) (ps:List (Int × Int)) (st:LS):LS:=ps.foldl (fun st p=>low s p.1.toNat p.2 st) st
def init (s:SSpec) (k:Nat):LS:=⟨(List.range s.states.length).map fun x=>if x<k then((ix s.states x).accept.length:Int) else 0,(List.range s.states.length).map fun x=>if x<k then List.replicate (ix s.states x).accept.length false else [],((List.range k).filter fun x=>decide ((ix s.states x).accept.length=0)).map fun(x:Nat)=>(x:Int)⟩
def rq (s:SSpec):Nat→LS
 |0=>init s s.states.length
 |i+1=>if i<(rq s i).out.length then procs s (preds s s.states.length (ix (rq s i).out i).toNat) (rq s i) else rq s i
def rungs (s:SSpec):List Int:=(rq s s.states.length).out
structure LInv (s:SSpec) (st:LS):Prop where
 ll:st.left.length=s.states.length
 dl:st.dead.length=s.states.length
 dx:∀x,x<s.states.length→(ix st.dead x).length=(ix s.states x).accept.length
 cnt:∀x,x<s.states.length→ix st.left x=((ix st.dead x).count false:Int)
 bd:∀y,y∈st.out→0≤y∧y<(s.states.length:Int)
 nd:st.out.Nodup
 mem:∀x,x<s.states.length→((x:Int)∈st.out↔ix st.left x=0)
 snd:∀x,x<s.states.length→∀i,i<(ix s.states x).accept.length→ix (ix st.dead x) i=true→∃a,a<(ix s.states x).next.length∧0≤ix (ix s.states x).next a∧has (ix (ix s.states x).accept i) (a:Int)=true∧Hol s (ix (ix s.states x).next a).toNat
def Le (st t:LS):Prop:=st.out<+:t.out∧∀x i,ix (ix st.dead x) i=true→ix (ix t.dead x) i=true
theorem Le.refl (st:LS):Le st st:=⟨List.prefix_rfl,fun _ _ h=>h⟩
theorem Le.trans {a b c:LS} (h:Le a b) (k:Le b c):Le a c:=⟨h.1.trans k.1,fun x i g=>k.2 x i (h.2 x i g)⟩
theorem count_set_false {l:List Bool}:∀{k:Nat},k<l.length→ix l k=false→(l.set k true).count false+1=l.count false:=by
 induction l with
 |nil=>intro k hk;simp at hk
 |cons b l ih=>
  intro k hk h
  cases k with
  |zero=>
   have:b=false:=h
   subst this
   simp
  |succ k=>
   have h1:=ih (k:=k) (by simpa using hk) h
   rw[List.set_cons_succ,List.count_cons,List.count_cons]
   omega
theorem nodup_snoc {l:List Int} {x:Int} (h:l.Nodup) (hx:x∉l):(l++ [x]).Nodup:=by
 rw[List.nodup_append]
 exact⟨h,by simp,fun a ha b hb e=>by
  have:b=x:=by simpa using hb
  exact hx (by rw[←this,←e];exact ha)⟩
theorem LInv.hol {s:SSpec} {st:LS} (h:LInv s st) {x:Nat} (hx:x<s.states.length) (h0:ix st.left x=0):Hol s x:=by
 refine Hol_closed s x hx (fun i hi=> ?_)
 have h1:=h.cnt x hx
 have h2:(ix st.dead x).count false=0:=by omega
 rw[List.count_eq_zero] at h2
 have h3:ix (ix st.dead x) i=true:=by
  have hl:=h.dx x hx
  rw[ix_get (by omega)]
  cases hb:(ix st.dead x)[i]'(by omega) with
  |true=>rfl
  |false=>exact absurd (hb▸List.getElem_mem _) h2
 obtain⟨a,h4,h5,h6,h7⟩:=h.snd x hx i hi h3
 exact⟨a,h4,h5,h6,h7⟩
theorem mem_ix {l:List Int} {y:Int} (h:y∈l):∃i,i<l.length∧ix l i=y:=by
 obtain⟨i,hi,e⟩:=List.mem_iff_getElem.1 h
 exact⟨i,hi,by rw[ix_get hi];exact e⟩
theorem ix_mem {l:List Int} {i:Nat} (h:i<l.length):ix l i∈l:=by rw[ix_get h];exact List.getElem_mem h
theorem LInv.outHol {s:SSpec} {st:LS} (h:LInv s st) {y:Int} (hy:y∈st.out):0≤y∧y<(s.states.length:Int)∧Hol s y.toNat:=by
 have hb:=h.bd y hy
 refine⟨hb.1,hb.2,h.hol (by omega) ((h.mem _ (by omega)).1 ?_)⟩
 rw[Int.toNat_of_nonneg hb.1];exact hy
theorem nodup_len:∀{l m:List Int},l.Nodup→l ⊆ m→l.length≤m.length
 | [],m,_,_=>Nat.zero_le _
 |x::l,m,h,hs=>by
  obtain⟨h1,h2⟩:=List.nodup_cons.1 h
  have hx:x∈m:=hs (by simp)
  have:=nodup_len (m:=m.erase x) h2 (fun y hy=>(List.mem_erase_of_ne (fun e=>h1 (by rw[←e];exact hy))).2 (hs (by simp[hy])))
  rw[List.length_erase_of_mem hx] at this
  have:=List.length_pos_of_mem hx
  simp;omega
theorem LInv.len {s:SSpec} {st:LS} (h:LInv s st):st.out.length≤s.states.length:=by
 have h1:st.out ⊆ (List.range s.states.length).map fun(x:Nat)=>(x:Int):=fun y hy=>by
  obtain⟨h0,h1,_⟩:=h.outHol hy
  exact List.mem_map.2 ⟨y.toNat,List.mem_range.2 (by omega),by omega⟩
 have:=nodup_len h.nd h1
 simpa using this
theorem lowS_inv {s:SSpec} {x:Nat} {a:Nat} (hx:x<s.states.length) (ha:a<(ix s.states x).next.length) (h0:0≤ix (ix s.states x).next a) (hH:Hol s (ix (ix s.states x).next a).toNat) {t:LS} (h1:LInv s t) {k:Nat} (hk:k<(ix s.states x).accept.length):
 LInv s (lowS s x a k t)∧Le t (lowS s x a k t)∧(has (ix (ix s.states x).accept k) (a:Int)=true→ix (ix (lowS s x a k t).dead x) k=true):=by
 unfold lowS
 split
 ·next hc=>
  simp only [Bool.and_eq_true,Bool.not_eq_true'] at hc
  obtain⟨c1,c2⟩:=hc
  have hdl:=h1.dx x hx
  have hcnt:=count_set_false (l:=ix t.dead x) (k:=k) (by omega) c2
  have hcx:=h1.cnt x hx
  have hdx:∀y,ix (t.dead.set x ((ix t.dead x).set k true)) y=if y=x then(ix t.dead x).set k true else ix t.dead y:=fun y=>ix_set (by rw[h1.dl];exact hx) _ y
  have hlx:∀y,ix (t.left.set x (ix t.left x- 1)) y=if y=x then ix t.left x- 1 else ix t.left y:=fun y=>ix_set (by rw[h1.ll];exact hx) _ y
  have hno:(x:Int)∉t.out:=fun hm=>by have:=(h1.mem x hx).1 hm;omega
  have hmo:∀y:Int,y∈(if ix t.left x- 1=0 then t.out++ [(x:Int)] else t.out)↔y∈t.out∨(ix t.left x- 1=0∧y=(x:Int)):=fun y=>by
   split
   ·next he=>simp[he]
   ·next he=>simp[he]
  have hdk:∀i,ix ((ix t.dead x).set k true) i=if i=k then true else ix (ix t.dead x) i:=fun i=>ix_set (by omega) _ i
  refine⟨⟨by simp[h1.ll],by simp[h1.dl],fun y hy=> ?_,fun y hy=> ?_,fun y hy=> ?_,?_,fun y hy=> ?_,fun y hy i hi hd=> ?_⟩,⟨?_,fun y i hd=> ?_⟩,fun _=> ?_⟩
  ·show(ix (t.dead.set x _) y).length=_
   rw[hdx]
   split
   ·next e=>subst e;simpa using hdl
   ·exact h1.dx y hy
  ·show ix (t.left.set x _) y=((ix (t.dead.set x _) y).count false:Int)
   rw[hdx,hlx]
   split
   ·next e=>subst e;omega
   ·exact h1.cnt y hy
  ·rcases(hmo y).1 hy with h|⟨_,rfl⟩
   ·exact h1.bd y h
   ·omega
  ·show List.Nodup (if _ then _ else _)
   split
   ·exact nodup_snoc h1.nd hno
   ·exact h1.nd
  ·show(y:Int)∈(if _ then _ else _)↔ix (t.left.set x _) y=0
   rw[hmo,hlx]
   split
   ·next e=>
    subst e
    constructor
    ·rintro(h|h)
     ·exact absurd h hno
     ·exact h.1
    ·exact fun h=> .inr ⟨h,rfl⟩
   ·next e=>
    rw[←h1.mem y hy]
    constructor
    ·rintro(h|h)
     ·exact h
     ·exact absurd (by omega) e
    ·exact .inl
  ·change ix (ix (t.dead.set x _) y) i=true at hd
   rw[hdx] at hd
   split at hd
   ·next e=>
    subst e
    rw[hdk] at hd
    split at hd
    ·next e2=>subst e2;exact⟨a,ha,h0,c1,hH⟩
    ·exact h1.snd y hy i hi hd
   ·exact h1.snd y hy i hi hd
  ·show t.out<+:(if _ then _ else _)
   split
   ·exact List.prefix_append _ _
   ·exact List.prefix_rfl
  ·show ix (ix (t.dead.set x _) y) i=true
   rw[hdx]
   split
   ·next e=>
    subst e
    rw[hdk]
    split
    ·rfl
    ·exact hd
   ·exact hd
  ·show ix (ix (t.dead.set x _) x) k=true
   rw[hdx,if_pos rfl,hdk,if_pos rfl]
 ·next hc=>
  refine⟨h1,Le.refl _,fun h=> ?_⟩
  rw[h] at hc
  simpa using hc
theorem lowK_inv {s:SSpec} {x:Nat} {a:Nat} (hx:x<s.states.length) (ha:a<(ix s.states x).next.length) (h0:0≤ix (ix s.states x).next a) (hH:Hol s (ix (ix s.states x).next a).toNat) {st:LS} (h:LInv s st):
 ∀k,k≤(ix s.states x).accept.length→LInv s (lowK s x a k st)∧Le st (lowK s x a k st)∧∀i,i<k→has (ix (ix s.states x).accept i) (a:Int)=true→ix (ix (lowK s x a k st).dead x) i=true
 |0,_=>⟨h,Le.refl _,fun i hi=>by omega⟩
 |k+1,hk=>by
  obtain⟨h1,h2,h3⟩:=lowK_inv hx ha h0 hH h k (by omega)
  obtain⟨g1,g2,g3⟩:=lowS_inv hx ha h0 hH h1 (k:=k) (by omega)
  refine⟨g1,h2.trans g2,fun i hi hh=> ?_⟩
  by_cases e:i=k
  ·subst e;exact g3 hh
  ·exact g2.2 x i (h3 i (by omega) hh)
def okP (s:SSpec) (p:Int × Int):Prop:=∃(x a:Nat),p=((x:Int),(a:Int))∧x<s.states.length∧a<(ix s.states x).next.length∧0≤ix (ix s.states x).next a∧Hol s (ix (ix s.states x).next a).toNat
def doneP (s:SSpec) (p:Int × Int) (st:LS):Prop:=∀i,i<(ix s.states p.1.toNat).accept.length→has (ix (ix s.states p.1.toNat).accept i) p.2=true→ix (ix st.dead p.1.toNat) i=true
theorem doneP.le {s:SSpec} {p:Int × Int} {st t:LS} (h:doneP s p st) (k:Le st t):doneP s p t:=fun i hi hh=>k.2 _ _ (h i hi hh)
theorem low_inv {s:SSpec} {p:Int × Int} (hp:okP s p) {st:LS} (h:LInv s st):LInv s (low s p.1.toNat p.2 st)∧Le st (low s p.1.toNat p.2 st)∧doneP s p (low s p.1.toNat p.2 st):=by
 obtain⟨x,a,rfl,hx,ha,h0,hH⟩:=hp
 exact lowK_inv hx ha h0 hH h _ (Nat.le_refl _)
theorem procs_snoc (s:SSpec) (ps:List (Int × Int)) (p:Int × Int) (st:LS):procs s (ps++ [p]) st=low s p.1.toNat p.2 (procs s ps st):=by simp[procs]
theorem procs_inv {s:SSpec}:∀{ps:List (Int × Int)} {st:LS},(∀p∈ps,okP s p)→LInv s st→LInv s (procs s ps st)∧Le st (procs s ps st)∧∀p∈ps,doneP s p (procs s ps st)
 | [],st,_,h=>⟨h,Le.refl _,fun p hp=>by cases hp⟩
 |p::ps,st,hp,h=>by
  obtain⟨h1,h2,h3⟩:=low_inv (hp p (by simp)) h
  obtain⟨g1,g2,g3⟩:=procs_inv (ps:=ps) (fun q hq=>hp q (by simp[hq])) h1
  refine⟨g1,h2.trans g2,fun q hq=> ?_⟩
  rcases List.mem_cons.1 hq with rfl|hq
  ·exact h3.le g2
  ·exact g3 q hq
theorem preds1_mem {s:SSpec} {x y j:Nat} {p:Int × Int} (h:p∈preds1 s x y j):∃a:Nat,p=((x:Int),(a:Int))∧a<j∧ix (ix s.states x).next a=(y:Int):=by
 unfold preds1 at h
 obtain⟨a,ha,rfl⟩:=List.mem_map.1 h
 obtain⟨h1,h2⟩:=List.mem_filter.1 ha
 exact⟨a,rfl,List.mem_range.1 h1,by simpa using h2⟩
theorem preds_mem {s:SSpec} {k y:Nat} {p:Int × Int} (h:p∈preds s k y):∃x a:Nat,p=((x:Int),(a:Int))∧x<k∧a<(ix s.states x).next.length∧ix (ix s.states x).next a=(y:Int):=by
 unfold preds at h
 obtain⟨x,hx,hp⟩:=List.mem_flatMap.1 h
 obtain⟨a,h1,h2,h3⟩:=preds1_mem hp
 exact⟨x,a,h1,List.mem_range.1 hx,h2,h3⟩
theorem preds_has {s:SSpec} {k y x a:Nat} (hx:x<k) (ha:a<(ix s.states x).next.length) (h:ix (ix s.states x).next a=(y:Int)):((x:Int),(a:Int))∈preds s k y:=by
 unfold preds
 refine List.mem_flatMap.2 ⟨x,List.mem_range.2 hx,List.mem_map.2 ⟨a,List.mem_filter.2 ⟨List.mem_range.2 ha,by simpa using h⟩,rfl⟩⟩
theorem preds_ok {s:SSpec} {y:Nat} (hy:Hol s y):∀p∈preds s s.states.length y,okP s p:=fun p hp=>by
 obtain⟨x,a,rfl,hx,ha,h⟩:=preds_mem hp
 exact⟨x,a,rfl,hx,ha,by omega,by rw[h];simpa using hy⟩
theorem init_inv (s:SSpec):LInv s (init s s.states.length):=by
 have hl:∀x,x<s.states.length→ix (init s s.states.length).left x=((ix s.states x).accept.length:Int):=fun x hx=>by
  show ix ((List.range _).map _) x=_
  rw[ix_get (by simpa using hx)];simp[hx]
 have hd:∀x,x<s.states.length→ix (init s s.states.length).dead x=List.replicate (ix s.states x).accept.length false:=fun x hx=>by
  show ix ((List.range _).map _) x=_
  rw[ix_get (by simpa using hx)];simp[hx]
 have hm:∀y:Int,y∈(init s s.states.length).out↔∃x:Nat,x<s.states.length∧(ix s.states x).accept.length=0∧(x:Int)=y:=fun y=>by
  show y∈((List.range _).filter _).map _↔_
  simp[and_assoc]
 refine⟨by simp[init],by simp[init],fun x hx=>by rw[hd x hx];simp,fun x hx=>by rw[hd x hx,hl x hx];simp,fun y hy=> ?_,?_,fun x hx=> ?_,fun x hx i hi h=> ?_⟩
 ·obtain⟨x,h1,h2,rfl⟩:=(hm y).1 hy;omega
 ·show(((List.range _).filter _).map _).Nodup
  refine List.Pairwise.map _ (fun a b h e=>h (by omega)) ((List.nodup_range).filter _)
 ·rw[hm,hl x hx]
  constructor
  ·rintro⟨z,h1,h2,h3⟩
   have:z=x:=by omega
   subst this;omega
  ·exact fun h=>⟨x,hx,by omega,rfl⟩
 ·rw[hd x hx,ix_get (by simpa using hi)] at h
  simp at h
theorem rq_inv (s:SSpec):∀i,LInv s (rq s i)
 |0=>init_inv s
 |i+1=>by
  have ih:=rq_inv s i
  unfold rq
  split
  ·next hi=>exact(procs_inv (preds_ok (ih.outHol (ix_mem hi)).2.2) ih).1
  ·exact ih
theorem rq_step (s:SSpec) (i:Nat):Le (rq s i) (rq s (i+1)):=by
 have ih:=rq_inv s i
 show Le _ (if _ then _ else _)
 split
 ·next hi=>exact(procs_inv (preds_ok (ih.outHol (ix_mem hi)).2.2) ih).2.1
 ·exact Le.refl _
theorem rq_stable {s:SSpec} {i:Nat} (h:(rq s i).out.length≤i):∀j,rq s (i+j)=rq s i
 |0=>rfl
 |j+1=>by
  have ih:=rq_stable h j
  show(if i+j<(rq s (i+j)).out.length then procs s (preds s s.states.length (ix (rq s (i+j)).out (i+j)).toNat) (rq s (i+j)) else rq s (i+j))=_
  rw[ih,if_neg (by omega)]
theorem rungs_of {s:SSpec} {i:Nat} (h:(rq s i).out.length≤i):(rq s i).out=rungs s:=by
 unfold rungs
 have hn:=(rq_inv s s.states.length).len
 rcases Nat.le_total i s.states.length with h1|h1
 ·have:=rq_stable h (s.states.length- i)
  rw[show i+(s.states.length- i)=s.states.length by omega] at this
  rw[this]
 ·have:=rq_stable hn (i- s.states.length)
  rw[show s.states.length+(i- s.states.length)=i by omega] at this
  rw[this]
theorem ix_prefix {l m:List Int} (h:l<+:m) {j:Nat} (hj:j<l.length):ix m j=ix l j:=by
 obtain⟨q,rfl⟩:=h
 unfold ix
 rw[List.getD_eq_getElem?_getD,List.getD_eq_getElem?_getD,List.getElem?_append_left hj]
theorem rq_done (s:SSpec):∀i,∀j,j<i→j<(rq s i).out.length→∀p∈preds s s.states.length (ix (rq s i).out j).toNat,doneP s p (rq s i)
 |0,j,hj,_,p,_=>by omega
 |i+1,j,hj,hl,p,hp=>by
  have ih:=rq_inv s i
  have hs:=rq_step s i
  by_cases hi:i<(rq s i).out.length
  ·have e:rq s (i+1)=procs s (preds s s.states.length (ix (rq s i).out i).toNat) (rq s i):=by
    show(if _ then _ else _)=_
    rw[if_pos hi]
   rw[ix_prefix hs.1 (by omega)] at hp
   by_cases ej:j=i
   ·subst ej
    rw[e]
    exact(procs_inv (preds_ok (ih.outHol (ix_mem hi)).2.2) ih).2.2 p hp
   ·exact(rq_done s i j (by omega) (by omega) p hp).le hs
  ·have e:rq s (i+1)=rq s i:=by
    show(if _ then _ else _)=_
    rw[if_neg hi]
   rw[e] at hl hp ⊢
   exact rq_done s i j (by omega) hl p hp
theorem rungs_iff {s:SSpec} (hs:okSpec s) {x:Nat} (hx:x<s.states.length):(x:Int)∈rungs s↔Hol s x:=by
 have hI:=rq_inv s s.states.length
 constructor
 ·intro h
  have:=(hI.outHol h).2.2
  simpa using this
 ·intro h
  refine h (fun x=>x<s.states.length→(x:Int)∈rungs s) (fun x hx hc _=> ?_) hx
  refine(hI.mem x hx).2 ?_
  have h1:=hI.cnt x hx
  have h2:(ix (rq s s.states.length).dead x).count false=0:=by
   rw[List.count_eq_zero]
   intro hf
   obtain⟨i,hi,e⟩:=List.mem_iff_getElem.1 hf
   have hil:i<(ix s.states x).accept.length:=by rw[←hI.dx x hx];exact hi
   obtain⟨a,ha,h0,hh,hm⟩:=hc i hil
   by_cases hb:(ix (ix s.states x).next a).toNat<s.states.length
   ·have hm:=hm hb
    obtain⟨j,hj,ej⟩:=mem_ix hm
    have hlen:=hI.len
    have hd:=rq_done s s.states.length j (by show j<s.states.length;exact Nat.lt_of_lt_of_le hj hlen) hj ((x:Int),(a:Int)) (by
     have ej:ix (rq s s.states.length).out j=_:=ej
     rw[ej]
     exact preds_has hx ha (by omega))
    have:=hd i (by simpa using hil) (by simpa using hh)
    rw[Int.toNat_natCast,ix_get hi,e] at this
    cases this
   ·have hk:=hs.st x hx
    have:=hk.nx a (by rw[←hk.len];exact ha)
    omega
  omega
theorem hollow_rungs {s:SSpec} (hs:okSpec s):marks s.states.length (rungs s)=hollow s:=by
 unfold marks hollow
 refine List.map_congr_left (fun x hx=> ?_)
 have:=rungs_iff hs (List.mem_range.1 hx)
 by_cases h:Hol s x
 ·simp[h,this.2 h]
 ·simp[h]
  exact fun hm=>h (this.1 hm)
theorem map_upd {α:Type} [Inhabited α] {f g:Nat→α} {n t:Nat} {v:α} (ht:t<n) (hv:g t=v) (ho:∀y,y<n→y≠t→g y=f y):((List.range n).map f).set t v=(List.range n).map g:=by
 apply List.ext_getElem?
 intro j
 by_cases e:t=j
 ·subst e;rw[List.getElem?_set_self (by simpa using ht),List.getElem?_map,List.getElem?_range ht,←hv];rfl
 ·rw[List.getElem?_set_ne e,List.getElem?_map,List.getElem?_map]
  by_cases hj:j<n
  ·rw[List.getElem?_range hj];simp[ho j hj (Ne.symm e)]
  ·rw[List.getElem?_eq_none (by simpa using hj)];rfl
theorem init_zero (s:SSpec):init s 0=⟨List.replicate s.states.length 0,List.replicate s.states.length [],[]⟩:=by
 unfold init
 simp[List.map_const']
theorem init_succ {s:SSpec} {k:Nat} (hk:k<s.states.length):init s (k+1)=⟨(init s k).left.set k ((ix s.states k).accept.length:Int),(init s k).dead.set k (List.replicate (ix s.states k).accept.length false),if ((ix s.states k).accept.length:Int)=0 then(init s k).out++ [(k:Int)] else(init s k).out⟩:=by
 have h1:(init s k).left.set k ((ix s.states k).accept.length:Int)=(init s (k+1)).left:=map_upd hk (by rw[if_pos (by omega)]) (fun y hy hne=>by
  by_cases h:y<k
  ·rw[if_pos h,if_pos (by omega)]
  ·rw[if_neg h,if_neg (by omega)])
 have h2:(init s k).dead.set k (List.replicate (ix s.states k).accept.length false)=(init s (k+1)).dead:=map_upd hk (by rw[if_pos (by omega)]) (fun y hy hne=>by
  by_cases h:y<k
  ·rw[if_pos h,if_pos (by omega)]
  ·rw[if_neg h,if_neg (by omega)])
 rw[h1,h2]
 have h3:(if ((ix s.states k).accept.length:Int)=0 then(init s k).out++ [(k:Int)] else(init s k).out)=(init s (k+1)).out:=by
  unfold init
  simp only [List.range_succ,List.filter_append,List.map_append]
  by_cases h:(ix s.states k).accept.length=0
  ·rw[if_pos (by omega)]
   congr 1
   rw[List.filter_cons,if_pos (by simpa using h)];rfl
  ·rw[if_neg (by omega),List.filter_cons,if_neg (by simpa using h)]
   simp
 rw[h3]
theorem init_out_le (s:SSpec) (k:Nat):(init s k).out.length≤k:=by
 unfold init
 simp only [List.length_map]
 have:=List.length_filter_le (fun x=>decide ((ix s.states x).accept.length=0)) (List.range k)
 simpa using this
theorem preds_succ (s:SSpec) (k y:Nat):preds s (k+1) y=preds s k y++preds1 s k y (ix s.states k).next.length:=by
 unfold preds
 rw[List.range_succ,List.flatMap_append];simp
theorem preds1_succ (s:SSpec) (k y j:Nat):preds1 s k y (j+1)=preds1 s k y j++if ix (ix s.states k).next j=(y:Int) then [((k:Int),(j:Int))] else []:=by
 unfold preds1
 rw[List.range_succ,List.filter_append,List.map_append]
 congr 1
 by_cases h:ix (ix s.states k).next j=(y:Int)<;>simp[h]
theorem preds1_put {s:SSpec} {k j n t:Nat} {F:Nat→List (Int × Int)} (ht:ix (ix s.states k).next j=(t:Int)) (hn:t<n):((List.range n).map fun y=>F y++preds1 s k y j).set t (F t++preds1 s k t j++ [((k:Int),(j:Int))])=(List.range n).map fun y=>F y++preds1 s k y (j+1):=
 map_upd hn (by rw[preds1_succ,if_pos ht,List.append_assoc]) (fun y hy hne=>by rw[preds1_succ,if_neg (fun h=>hne (by omega)),List.append_nil])
theorem preds1_none {s:SSpec} {k j n:Nat} {F:Nat→List (Int × Int)} (ht:ix (ix s.states k).next j<0):((List.range n).map fun y=>F y++preds1 s k y j)=(List.range n).map fun y=>F y++preds1 s k y (j+1):=
 List.map_congr_left (fun y _=>by rw[preds1_succ,if_neg (by omega),List.append_nil])
theorem ix_memS {α:Type} [Inhabited α] {l:List α} {i:Nat} (h:i<l.length):ix l i∈l:=by rw[ix_get h];exact List.getElem_mem h
theorem preds1_le (s:SSpec) (x y j:Nat):(preds1 s x y j).length≤j:=by
 unfold preds1
 rw[List.length_map]
 have:=List.length_filter_le (fun a=>decide (ix (ix s.states x).next a=(y:Int))) (List.range j)
 simpa using this
theorem preds_le {s:SSpec} {y:Nat} {m:Nat}:∀k,(∀x,x<k→(ix s.states x).next.length≤m)→(preds s k y).length≤k*m
 |0,_=>by simp[preds]
 |k+1,h=>by
  have ih:=preds_le (s:=s) (y:=y) (m:=m) k (fun x hx=>h x (by omega))
  have h1:=preds1_le s k y (ix s.states k).next.length
  have h2:=h k (by omega)
  rw[preds_succ,List.length_append,Nat.succ_mul]
  omega
theorem preds_zero (s:SSpec):(List.range s.states.length).map (preds s 0)=List.replicate s.states.length []:=by
 rw[show preds s 0=fun _=> [] from rfl];simp[List.map_const']
end Rungs
end Go.Proofs.YtolpjmllmlahfaaDoor
