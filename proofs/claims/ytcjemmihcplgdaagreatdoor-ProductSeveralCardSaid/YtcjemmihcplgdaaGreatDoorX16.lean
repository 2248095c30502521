/- The walks of the functions and the plain laws. Own texts of this claim, packed: ZdWitVal, ZdBisS, Zddivw, Zddivv, Zddivf, ZdChsM, ZdValidM, ZdTrimI, ZdQuoM, ZdFailM, ZdDivM. -/
import Derived.Test.YtcjemmihcplgdaaGreatDoorX15
import Derived.Test.YtcjemmihcplgdaaGreatDoorX09
import Derived.Test.YtcjemmihcplgdaaGreatDoorX07
set_option linter.all false
namespace Go.Proofs.YtcjemmihcplgdaaGreatDoor
open AL Go
set_option maxRecDepth 100000
section
namespace WitVal
open ref01 ref03 ref04 ref06 Part Rungs LeftM TrimM BisM BisM5 BisM6 WalkM StepM WitM JudgM WitSat sysw
variable {T:SS} {want:List PP} {ss:List (List Int)} {q:List PP} {mm:List (PP × Int)} {m:SSys}
theorem nodup_map {α β:Type} {f:α→β}:∀{l:List α},l.Nodup→(∀a∈l,∀b∈l,f a=f b→a=b)→(l.map f).Nodup
 | [],_,_=>by simp
 |a::l,h,hf=>by
  rw[List.map_cons,List.nodup_cons]
  obtain⟨h1,h2⟩:=List.nodup_cons.1 h
  refine⟨fun hm=> ?_,nodup_map h2 fun x hx y hy=>hf x (List.mem_cons_of_mem _ hx) y (List.mem_cons_of_mem _ hy)⟩
  obtain⟨b,hb,e⟩:=List.mem_map.1 hm
  rw[hf b (List.mem_cons_of_mem _ hb) a List.mem_cons_self e] at hb
  exact h1 hb
theorem nodup_flat {α β:Type} {f:α→List β}:∀{l:List α},l.Nodup→(∀a∈l,(f a).Nodup)→(∀a∈l,∀b∈l,∀x,x∈f a→x∈f b→a=b)→(l.flatMap f).Nodup
 | [],_,_,_=>by simp
 |a::l,h,h1,h2=>by
  obtain⟨g1,g2⟩:=List.nodup_cons.1 h
  rw[List.flatMap_cons,List.nodup_append]
  refine⟨h1 a List.mem_cons_self,nodup_flat g2 (fun b hb=>h1 b (List.mem_cons_of_mem _ hb)) fun x hx y hy=>h2 x (List.mem_cons_of_mem _ hx) y (List.mem_cons_of_mem _ hy),fun x hx y hy e=> ?_⟩
  subst e
  obtain⟨b,hb,hxb⟩:=List.mem_flatMap.1 hy
  rw[←h2 a List.mem_cons_self b (List.mem_cons_of_mem _ hb) x hx hxb] at hb
  exact g1 hb
theorem flat_len {α β:Type} {f:α→List β} {K:Nat}:∀{l:List α},(∀a∈l,(f a).length≤K)→(l.flatMap f).length≤l.length*K
 | [],_=>by simp
 |a::l,h=>by
  have:=flat_len (K:=K) (fun b hb=>h b (List.mem_cons_of_mem a hb))
  have h0:=h a List.mem_cons_self
  rw[List.flatMap_cons,List.length_append,List.length_cons,Nat.succ_mul]
  omega
theorem listOf_nodup (n:Nat) (t:Int):(listOf n t).Nodup:=by
 unfold listOf
 exact nodup_map (List.filter_sublist.nodup List.nodup_range) fun a _ b _ e=>by omega
theorem sum_le {l:List (List PP)} {K:Nat}:(∀x∈l,x.length≤K)→sumLen l≤l.length*K:=by
 induction l with
 |nil=>intro _;simp[sumLen]
 |cons a l ih=>
  intro h
  have:=ih fun x hx=>h x (List.mem_cons_of_mem _ hx)
  have h0:=h a List.mem_cons_self
  rw[List.length_cons,Nat.succ_mul]
  unfold sumLen at this ⊢
  rw[List.map_cons,List.sum_cons]
  omega
theorem listOf8 {u:Int} (h:u<256):(listOf 63 u).length≤8:=by
 have h1:∀x∈listOf 63 u,x∈(List.range 8).map fun(a:Nat)=>(a:Int):=fun x hx=>by
  obtain⟨a,rfl,_,ha⟩:=listOf_mem.1 hx
  exact List.mem_map.2 ⟨a,List.mem_range.2 (has_lt h ha),rfl⟩
 have:=List.Nodup.length_le_of_subset (listOf_nodup 63 u) h1
 simpa using this
theorem edges_eq (h:WI T ss (firstW T want) q.length q mm m.sT) {x:Nat} (hx:x<q.length):edg m x=sortP (edF T ss q (ix q x)):=by
 show ix m.sT x=_
 rw[h.out];exact ix_map_range hx
theorem edF_nodup (hT:oK T) (hw:Wants T want) (hs:SetsOK T want ss) (h:WI T ss (firstW T want) q.length q mm m.sT) {x:Nat} (hx:x<q.length):(edF T ss q (ix q x)).Nodup:=by
 refine nodup_flat (listOf_nodup _ _) (fun a ha=> ?_) (fun a ha b hb e he1 he2=> ?_)
 ·obtain⟨a,rfl,ha1,ha2⟩:=listOf_mem.1 ha
  have hg:=go_ok hT hw hs h hx ha2
  refine nodup_map (hs.nd _ O) fun u hu v hv e=> ?_
  have hu':=h.dn x hx (a:Int) ha u hu
  have hv':=h.dn x hx (a:Int) ha v hv
  have hi:=List.idxOf_lt_length_of_mem hu'
  have e2:=(Prod.mk.inj e).2
  have e3:q.idxOf (tgt T (ix q x) (a:Int),u)=q.idxOf (tgt T (ix q x) (a:Int),v):=by omega
  have g1:=List.getElem_idxOf hi
  have g2:=List.getElem_idxOf (List.idxOf_lt_length_of_mem hv')
  simp only [e3] at g1
  exact(Prod.mk.inj (g1.symm.trans g2)).2
 ·obtain⟨u,_,rfl⟩:=List.mem_map.1 he1
  obtain⟨v,_,e⟩:=List.mem_map.1 he2
  exact(Prod.mk.inj e).1.symm
theorem wit_valid {K:Nat} (hT:oK T) (hw:Wants T want) (hs:SetsOK T want ss) (h:WI T ss (firstW T want) q.length q mm m.sT) (ha:m.aC=T.aC) (hK:∀x,x<T.sT.length→(ix ss x).length≤K) (hq:q.length≤5000) (hn:q.length*(8*K)≤400000):sysOK m=true:=by
 have hml:=m_len h
 have h0:=h.wq.ne
 have hlen:∀x,x<q.length→(edg m x).length≤8*K:=fun x hx=>by
  obtain⟨b0,b1,b2,b3,b4⟩:=at_ok hT hw hs h hx
  rw[edges_eq h hx,(sortP_perm _).length_eq]
  have h1:(edF T ss q (ix q x)).length≤(listOf 63 (ix q x).2).length*K:=flat_len fun a ha=>by
   obtain⟨a,rfl,_,ha2⟩:=listOf_mem.1 ha
   have hg:=go_ok hT hw hs h hx ha2
   unfold edA
   rw[List.length_map];exact hK _ O
  exact Nat.le_trans h1 (Nat.mul_le_mul_right K (listOf8 b4))
 have hed:∀x,x<q.length→edgesOK m.aC.length m.sT.length (edg m x)=true:=fun x hx=>by
  have hnd:(edg m x).Nodup:=by rw[edges_eq h hx];exact(sortP_perm _).nodup_iff.2 (edF_nodup hT hw hs h hx)
  have hso:(edg m x).Pairwise (fun p q=>p.1<q.1∨(p.1=q.1∧p.2≤q.2)):=by rw[edges_eq h hx];exact sortP_sorted _
  refine edges_of (fun j hj=> ?_) (fun j hj=> ?_)
  ·have hg:=edge_to hT hw hs h hx (ix_memS hj)
   rw[ha,hml]
   exact edgeOK_iff.2 ⟨hg.1,hg.2.1,hg.2.2.1,hg.2.2.2.1⟩
  ·rw[ix_get (show j<(edg m x).length by omega),ix_get hj]
   have g1:=(List.pairwise_iff_getElem.1 hso) j (j+1) O hj O
   have g2:=(List.pairwise_iff_getElem.1 hnd) j (j+1) O hj O
   rw[ltP_iff]
   rcases g1 with g|⟨g,g'⟩
   ·exact .inl g
   ·refine .inr ⟨g,?_⟩
    rcases Int.lt_or_eq_of_le g' with k|k
    ·exact k
    ·exact absurd (Prod.ext g k) g2
 have hmem:∀l∈m.sT,∃x,x<q.length∧l=edg m x:=fun l hl=>by
  obtain⟨x,hx,rfl⟩:=List.getElem_of_mem hl
  exact⟨x,O,(ix_get hx).symm⟩
 unfold sysOK
 rw[ha,hT.acts,decide_eq_true (show 1≤m.sT.length by omega),decide_eq_true (show m.sT.length≤5000 by omega),decide_eq_true (show sumLen m.sT≤400000 from by
  refine Nat.le_trans (sum_le (K:=8*K) fun l hl=> ?_) (by rw[hml];exact hn)
  obtain⟨x,hx,rfl⟩:=hmem l hl
  exact hlen x hx)]
 simp only [Bool.true_and,Bool.and_true]
 refine List.all_eq_true.2 fun l hl=> ?_
 obtain⟨x,hx,rfl⟩:=hmem l hl
 rw[←ha]
 exact hed x hx
end WitVal
end
section
namespace BisS
open ref01 ref03 ref04 ref06 Part Rungs LeftM TrimM MergeM RoundM BisM BisM4 BisM5 BisM6
structure BB (S D:SS) (R:Nat→Nat→Prop):Prop where
 bis:Bis S D R
 bd:∀{x y},R x y→x<S.sT.length∧y<D.sT.length
theorem BB.symm {S D:SS} {R:Nat→Nat→Prop} (h:BB S D R):BB D S (fun y x=>R x y):=
 ⟨⟨fun g=>(h.bis.acc g).symm,fun g=>(h.bis.len g).symm,fun {y x} g a ha=>by
   obtain⟨h1,h2⟩:=h.bis.nxt g a (by rw[h.bis.len g];exact ha)
   exact⟨h1.symm,fun h0=>h2 O⟩⟩,fun g=>⟨(h.bd g).2,(h.bd g).1⟩⟩
theorem bb_hol {S D:SS} {R:Nat→Nat→Prop} (h:BB S D R) {x y:Nat} (hxy:R x y) (hh:Hol S x):Hol D y:=by
 have key:Closed S (fun x=> ∀y,R x y→Hol D y):=by
  intro x hx hc y hxy
  refine Hol_closed D y (h.bd hxy).2 (fun i hi=> ?_)
  have ea:(ix S.sT x).aP=(ix D.sT y).aP:=h.bis.acc hxy
  have el:(ix S.sT x).next.length=(ix D.sT y).next.length:=h.bis.len hxy
  obtain⟨a,ha,h1,h2,h3⟩:=hc i (by rw[ea];exact hi)
  obtain⟨g1,g2⟩:=h.bis.nxt hxy a ha
  have g1:ix (ix S.sT x).next a<0↔ix (ix D.sT y).next a<0:=g1
  exact⟨a,by rw[←el];exact ha,O,by rw[←ea];exact h2,h3 _ (g2 h1)⟩
 exact hh _ key y hxy
theorem bb_hollow {S D:SS} {R:Nat→Nat→Prop} (h:BB S D R) {x y:Nat} (hxy:R x y):ix (hOl S) x=ix (hOl D) y:=by
 rw[Bool.eq_iff_iff,hollow_ix (h.bd hxy).1,hollow_ix (h.bd hxy).2]
 exact⟨bb_hol h hxy,bb_hol h.symm hxy⟩
theorem bb_keep {S D:SS} {R:Nat→Nat→Prop} (h:BB S D R) {x y:Nat} (hxy:R x y):keep S x=keep D y:=by
 have ea:(ix S.sT x).aP=(ix D.sT y).aP:=h.bis.acc hxy
 have el:(ix S.sT x).next.length=(ix D.sT y).next.length:=h.bis.len hxy
 unfold keep
 rw[ea,bb_hollow h hxy]
 congr 1
 funext t
 congr 2
 unfold falls
 rw[el]
 refine any_cong fun a ha=> ?_
 have hal:=List.mem_range.1 ha
 obtain⟨g1,g2⟩:=h.bis.nxt hxy a (by show a<(ix S.sT x).next.length;omega)
 have g1:ix (ix S.sT x).next a<0↔ix (ix D.sT y).next a<0:=g1
 by_cases hn:0≤ix (ix S.sT x).next a
 ·have hg:R (ix (ix S.sT x).next a).toNat (ix (ix D.sT y).next a).toNat:=g2 hn
  rw[decide_eq_true hn,decide_eq_true (show 0≤ix (ix D.sT y).next a by omega),bb_hollow h hg]
 ·rw[decide_eq_false hn,decide_eq_false (show ¬0≤ix (ix D.sT y).next a by omega)];rfl
theorem bb_solid {S D:SS} (hS:oK S) (hD:oK D) {R:Nat→Nat→Prop} (h:BB S D R):Bis (solid S) (solid D) R:=by
 have hl:∀{x y},R x y→S.aC.length=D.aC.length:=fun {x y} hxy=>by
  have h1:=(hS.st x (h.bd hxy).1).len
  have h2:=(hD.st y (h.bd hxy).2).len
  have h3:(ix S.sT x).next.length=(ix D.sT y).next.length:=h.bis.len hxy
  omega
 refine⟨fun {x y} hxy=>by rw[solid_acc (h.bd hxy).1,solid_acc (h.bd hxy).2,bb_keep h hxy],fun {x y} hxy=>by rw[solid_nlen hS (h.bd hxy).1,solid_nlen hD (h.bd hxy).2,hl hxy],fun {x y} hxy a ha=> ?_⟩
 have hx:=(h.bd hxy).1
 rw[solid_nlen hS hx] at ha
 have hal:a<(nxt S x).length:=by have:(nxt S x).length=S.aC.length:=(hS.st x hx).len;omega
 rw[solid_ix hS hx ha,solid_ix hD (h.bd hxy).2 (by rw[←hl hxy];exact ha),bb_keep h hxy]
 by_cases g:has (orAll (keep D y)) (a:Int)=true
 ·rw[if_pos g,if_pos g];exact h.bis.nxt hxy a hal
 ·rw[if_neg g,if_neg g];exact⟨Iff.rfl,fun h0=>absurd h0 (by decide)⟩
theorem bb_ref {S D:SS} (hS:oK S) (hD:oK D) (ha:S.aC=D.aC) {R:Nat→Nat→Prop} (h:BB S D R) (h0:R 0 0):RefP S D∧RefP D S:=(ref_iff hS hD ha).2 ⟨R,bb_solid hS hD h,h0⟩
structure Numb {α:Type} [DecidableEq α] [Inhabited α] (A:α→List Int) (N:α→Nat→α) (n:Nat) (z:α) (l:List α) (D:SS):Prop where
 len:D.sT.length=l.length
 nd:l.Nodup
 ne:0<l.length
 hd:ix l 0=z
 acc:∀i,i<l.length→acc D i=A (ix l i)
 nl:∀i,i<l.length→(nxt D i).length=n
 nx:∀i,i<l.length→∀a,a<n→ix (nxt D i) a=if has (orAll (A (ix l i))) (a:Int)=true then(l.idxOf (N (ix l i) a):Int) else-1
 cl:∀i,i<l.length→∀a,a<n→has (orAll (A (ix l i))) (a:Int)=true→N (ix l i) a∈l
theorem numb_bb {α:Type} [DecidableEq α] [Inhabited α] {A:α→List Int} {N:α→Nat→α} {n:Nat} {z:α} {l r:List α} {S D:SS} (h:Numb A N n z l S) (g:Numb A N n z r D):
 BB S D (fun x y=>x<l.length∧y<r.length∧ix l x=ix r y):=by
 refine⟨⟨fun {x y} ⟨hx,hy,e⟩=>by rw[h.acc x hx,g.acc y hy,e],fun {x y} ⟨hx,hy,e⟩=>by rw[h.nl x hx,g.nl y hy],fun {x y} ⟨hx,hy,e⟩ a ha=> ?_⟩,fun {x y} ⟨hx,hy,_⟩=>⟨by rw[h.len];exact hx,by rw[g.len];exact hy⟩⟩
 rw[h.nl x hx] at ha
 rw[h.nx x hx a ha,g.nx y hy a ha,e]
 by_cases c:has (orAll (A (ix r y))) (a:Int)=true
 ·rw[if_pos c,if_pos c]
  have h1:=h.cl x hx a ha (by rw[e];exact c)
  have h2:=g.cl y hy a ha c
  rw[e] at h1
  have i1:=List.idxOf_lt_length_of_mem h1
  have i2:=List.idxOf_lt_length_of_mem h2
  refine⟨O,fun _=>⟨by rw[Int.toNat_natCast];exact i1,by rw[Int.toNat_natCast];exact i2,?_⟩⟩
  rw[Int.toNat_natCast,Int.toNat_natCast,ix_get i1,ix_get i2,List.getElem_idxOf,List.getElem_idxOf]
 ·rw[if_neg c,if_neg c];exact⟨Iff.rfl,fun h0=>absurd h0 (by decide)⟩
theorem numb_ref {α:Type} [DecidableEq α] [Inhabited α] {A:α→List Int} {N:α→Nat→α} {n:Nat} {z:α} {l r:List α} {S D:SS} (hS:oK S) (hD:oK D) (ha:S.aC=D.aC) (h:Numb A N n z l S) (g:Numb A N n z r D):
 RefP S D∧RefP D S:=bb_ref hS hD ha (numb_bb h g) ⟨h.ne,g.ne,h.hd.trans g.hd.symm⟩
end BisS
end
section
open ref01 ref03 ref04 ref06 prog prog2 prog3 prog6 prog13 Part Rungs LeftM TrimM RoundM MergeM BisM BisM4 BisM5 WalkM StepM WitM JudgM JudgM2 refw judg wit refj sysw divr divs divd dive divg LevM LevM2
structure SomeOK (s:SS) (z:SSys × Int):Prop where
 bad:specOK s=false→z=(⟨[],[]⟩,30)
 hol:specOK s=true→ix (hOl s) 0=true→z=(⟨[],[]⟩,3)
 fit:specOK s=true→ix (hOl s) 0=false→z.2=0∧WitOK (tS s) [] z.1
namespace divw
end divw
end
section
open ref01 ref03 ref04 ref06 prog prog2 prog3 prog6 prog13 Part Rungs LeftM TrimM RoundM MergeM BisM BisM4 BisM5 WalkM StepM WitM JudgM JudgM2 refw judg wit refj sysw divr divs divd dive divg divw LevM LevM2
namespace divv
end divv
end
section
open ref01 ref03 ref04 ref06 prog prog2 prog3 prog6 prog13 Part Rungs LeftM TrimM RoundM MergeM BisM BisM4 BisM5 WalkM StepM WitM JudgM JudgM2 refw judg wit refj sysw divr divs divd dive divg divw divv LevM LevM2
namespace divf
end divf
end
section
namespace ChsM
open ref01 ref03 divs divf
end ChsM
end
section
open ref01 ref03 ref04 ref06 Part Rungs LeftM TrimM
namespace ValidM
theorem lt_pow_of_bits {u n:Nat} (h:∀a,u.testBit a=true→a<n):u<2^n:=
 Nat.lt_pow_two_of_testBit u (fun i hi=>by
  cases hb:u.testBit i with
  |false=>rfl
  |true=>exact absurd (h i hb) O)
theorem stateOK_of {x:SA} {N n:Nat} (h:okState x N n):stateOK x (N:Int) n=true:=by
 unfold stateOK
 simp only [Bool.and_eq_true,decide_eq_true_eq]
 refine⟨⟨⟨by rw[h.len],h.rise⟩,List.all_eq_true.2 (fun j hj=> ?_)⟩,List.all_eq_true.2 (fun u hu=> ?_)⟩
 ·obtain⟨a,ha,rfl⟩:=mem_ix hj
  have:=h.nx a (by rw[←h.len];exact ha)
  simp;omega
 ·obtain⟨i,hi,rfl⟩:=mem_ix hu
  have h1:=h.ac i hi
  have h2:=h.go i hi
  unfold setOK
  rw[Bool.and_eq_true]
  constructor
  ·unfold isSet
   have:(ix x.aP i).toNat<2^n:=lt_pow_of_bits (fun a ha=>(h2 a (by unfold has;rw[Int.toNat_natCast];exact ha)).1)
   simp only [Bool.and_eq_true,decide_eq_true_eq,Int.toNat_natCast]
   omega
  ·refine List.all_eq_true.2 (fun a ha=> ?_)
   obtain⟨b,rfl,hb,hh⟩:=listOf_mem.1 ha
   have:=(h2 b hh).2
   rw[Int.toNat_natCast];simpa using this
theorem specOK_of {s:SS} (h:oK s) (h5:s.sT.length≤500):specOK s=true:=by
 unfold specOK
 simp only [Bool.and_eq_true,decide_eq_true_eq]
 exact⟨⟨⟨h.acts,h.few0⟩,h5⟩,List.all_eq_true.2 (fun x hx=>by
  obtain⟨k,hk,rfl⟩:=List.getElem_of_mem hx
  have:=stateOK_of (h.st k hk)
  rwa [ix_get hk] at this)⟩
end ValidM
end
section
namespace TrimI
open ref01 ref03 ref04 ref06 Part Rungs LeftM TrimM RoundM MergeM BisM BisM2 BisM3 BisM4 BisM5 BisM6 divr divd
theorem visit_rg:∀m,visit [] (rg m)=rg m
 |0=>rfl
 |m+1=>by rw[rg_succ,visit_app,visit_rg m,visit1_out O (fun h=>by have:=(mem_rg.1 h).2;omega)]
theorem map_pos {s:SS} {m:Nat} (hm:m≤(ordS s).length):((ordS s).take m).map (posN (ordS s))=rg m:=by
 apply List.ext_getElem
 ·simp[BisM3.rg];omega
 ·intro i h1 h2
  simp only [List.length_map,List.length_take] at h1
  rw[List.getElem_map,List.getElem_take]
  have hi:i<(ordS s).length:=by omega
  have:=posN_ix (order_nodup (solid s)) hi
  rw[ix_get hi] at this
  rw[←ix_get h2,rg_ix O]
  exact this
theorem next_tS {s:SS} (hs:oK s) {i:Nat} (hi:i<(ordS s).length):((ix (solid s).sT (ix (ordS s) i).toNat).next.map fun k=>if 0≤k then posN (ordS s) k else k)=(ix (tS s).sT i).next:=by
 have hbd:=ord_bd hs hi
 have hx:(ix (ordS s) i).toNat<s.sT.length:=by omega
 have hl:=(hs.st _ hx).len
 rw[tS_at hi,solid_at hx]
 show(cut (ix s.sT _) (orAll (keep s _))).map _=tnext s _
 unfold cut tnext
 rw[List.map_map,hl]
 refine List.map_congr_left (fun a ha=> ?_)
 show(if 0≤(if _ then _ else _:Int) then posN _ (if _ then _ else _) else(if _ then _ else _))=(if _ then _ else _)
 by_cases hh:has (orAll (keep s (ix (ordS s) i).toNat)) (a:Int)=true
 ·rw[if_pos hh]
  have hg:=can_go hs hx hh
  rw[if_pos hg.2.1,if_pos hh]
 ·rw[if_neg hh,if_neg hh];rfl
theorem t_step {s:SS} (hs:oK s) {i:Nat} (hi:i<(ordS s).length):rg (qn s (i+1))=visit (rg (qn s i)) (ix (tS s).sT i).next:=by
 have hol:=ord_le hs
 have hgt:=qn_gt hs hi
 have hix:ix (bq (solid s) i) i=ix (ordS s) i:=(ix_prefix (bq_order hs (i:=i) O) hgt).symm
 have hstep:bq (solid s) (i+1)=visit (bq (solid s) i) (ix (solid s).sT (ix (ordS s) i).toNat).next:=by
  show(if i<(bq (solid s) i).length then _ else _)=_
  rw[if_pos hgt,hix]
 rw[←visit_rg (qn s (i+1)),←visit_rg (qn s i),←map_pos (qn_le hs (i:=i+1) O),←map_pos (qn_le hs (i:=i) O),←bq_take hs (i:=i+1) O,←bq_take hs (i:=i) O,hstep,
  visit_merge (g:=posN (ordS s)) (fun k=>(posN_bd _ k).1),next_tS hs hi]
theorem t_bq {s:SS} (hs:oK s):∀i,i≤(ordS s).length→bq (tS s) i=rg (qn s i)
 |0,_=>rfl
 |i+1,hi=>by
  have ih:=t_bq hs i O
  have hgt:=qn_gt hs (i:=i) O
  show(if i<(bq (tS s) i).length then _ else _)=_
  rw[ih,rg_len,if_pos hgt,rg_ix hgt,Int.toNat_natCast,t_step hs O]
theorem t_order {s:SS} (hs:oK s):order (tS s)=rg (ordS s).length:=by
 have hol:=ord_le hs
 have e:bq (solid s) (ordS s).length=ordS s:=by
  refine bq_end hs ?_ hol
  exact(bq_order hs hol).length_le
 unfold order
 rw[tS_len,t_bq hs _ (Nat.le_refl _)]
 show rg (bq (solid s) (ordS s).length).length=_
 rw[e]
theorem tS_tS {s:SS} (hs:oK s) (h0:ix (hOl s) 0=false):tS (tS s)=tS s:=by
 have ho:ordS (tS s)=rg (ordS s).length:=by
  show order (solid (tS s))=_
  rw[solid_tS hs h0,t_order hs]
 have hT:=tS_ok hs
 show(⟨s.aC,(ordS (tS s)).map (tstate (tS s))⟩:SS)=⟨s.aC,(ordS s).map (tstate s)⟩
 congr 1
 rw[ho]
 apply List.ext_getElem
 ·simp[BisM3.rg]
 ·intro i h1 h2
  simp only [List.length_map,rg_len] at h1
  have hi:i<(ordS s).length:=h1
  have e1:(rg (ordS s).length)[i]'(by rw[rg_len];exact h1)=(i:Int):=by rw[←ix_get (by rw[rg_len];exact h1)];exact rg_ix h1
  rw[List.getElem_map,e1]
  have e2:(List.map (tstate s) (ordS s))[i]=ix (tS s).sT i:=(ix_get (by rw[tS_len];exact hi)).symm
  rw[e2]
  have hk:=tS_keep hs h0 hi
  unfold tstate tnext
  rw[Int.toNat_natCast,hk,ho]
  have e3:ix (tS s).sT i=⟨keep s (ix (ordS s) i).toNat,tnext s (ix (ordS s) i)⟩:=tS_at hi
  rw[e3]
  congr 1
  unfold tnext
  refine List.map_congr_left fun a ha=> ?_
  have ha:a<s.aC.length:=List.mem_range.1 ha
  by_cases hh:has (orAll (keep s (ix (ordS s) i).toNat)) (a:Int)=true
  ·rw[if_pos hh,if_pos hh,ix_map_range ha,if_pos hh]
   obtain⟨p1,_⟩:=posN_at (ord_closed hs hi hh)
   have p0:=(posN_bd (ordS s) (ix (ix s.sT (ix (ordS s) i).toNat).next a)).1
   have hnd:(rg (ordS s).length).Nodup:=by
    have:=order_nodup (tS s)
    rwa [t_order hs] at this
   have hq:=posN_ix hnd (i:=(posN (ordS s) (ix (ix s.sT (ix (ordS s) i).toNat).next a)).toNat) (by rw[rg_len];omega)
   rw[rg_ix O,Int.toNat_of_nonneg p0] at hq
   exact hq
  ·rw[if_neg hh,if_neg hh]
theorem trim_trim {s:SS} (hs:oK s):(tR (tR s).1).1=(tR s).1:=by
 cases h:ix (hOl s) 0 with
 |true=>rw[trimmed_hol h];show(tR (nothing s.aC)).1=_;rw[trimmed_hol (nothing_hollow _)];rfl
 |false=>
  rw[trimmed_not h]
  show(tR (tS s)).1=tS s
  rw[trimmed_not (tS_hollow hs h 0)]
  exact tS_tS hs h
theorem sim_trim {s:SS} (hs:oK s):Sim2 (solid (tR s).1) (solid s) 0 0:=by
 cases h:ix (hOl s) 0 with
 |true=>
  rw[trimmed_hol h]
  have f:=hs.few0
  have g:=(nothing_ok hs.acts).few0
  exact hol_sim (nothing_ok hs.acts) hs rfl O O (nothing_hollow _) h
 |false=>
  rw[trimmed_not h]
  have hop:=ordS_pos s
  have:=tS_sim hs h (i:=0) O
  show Sim2 (solid (tS s)) (solid s) 0 0
  rw[solid_tS hs h]
  rw[ord_zero] at this
  exact this
theorem ref_refl {s:SS} (hs:oK s):RefP s s:=((ref_iff hs hs rfl).2 (sim_refl _ _)).1
theorem ref_trim {s d:SS} (hs:oK s) (hd:oK d) (ha:s.aC=d.aC) (h:RefP s d∧RefP d s):RefP (tR s).1 d∧RefP d (tR s).1:=
 (ref_iff (trim_ok hs) hd ((trim_acts s).trans ha)).2 ((sim_trim hs).trans ((ref_iff hs hd ha).1 h))
theorem trim_len {s:SS} (hs:oK s):(tR s).1.sT.length≤s.sT.length:=by
 cases h:ix (hOl s) 0 with
 |true=>rw[trimmed_hol h];have:=hs.few0;show 1≤_;omega
 |false=>rw[trimmed_not h];show((ordS s).map _).length≤_;rw[List.length_map];exact ord_le hs
end TrimI
end
section
namespace QuoM
open ref01 ref03 ref04 ref06 Part Rungs LeftM TrimM RoundM MergeM BisM BisM4 BisM5 WitM JudgM LevM divr divs divd divf ChsM BisS TrimI
section
variable {α:Type} [DecidableEq α] [Inhabited α]
def pushL (l:List α) (p:α):List α:=if p∈l then l else l++ [p]
def outsL (A:α→List Int) (N:α→Nat→α) (p:α) (ks:List Int) (l:List α):List α:=ks.foldl (fun l a=>pushL l (N p a.toNat)) l
def actsL (A:α→List Int) (p:α):List Int:=listOf 63 (orAll (A p))
def stepL (A:α→List Int) (N:α→Nat→α) (l:List α) (p:α):List α:=outsL A N p (actsL A p) l
def runL (A:α→List Int) (N:α→Nat→α):Nat→Nat→List α→List α
 |0,_,l=>l
 |f+1,i,l=>if i<l.length then runL A N f (i+1) (stepL A N l (ix l i)) else l
theorem push_prefix (l:List α) (p:α):l<+:pushL l p:=by
 unfold pushL
 split
 ·exact List.prefix_rfl
 ·exact List.prefix_append _ _
theorem push_mem (l:List α) (p:α):p∈pushL l p:=by
 unfold pushL
 split
 ·assumption
 ·simp
theorem outs_prefix (A:α→List Int) (N:α→Nat→α) (p:α):∀(ks:List Int) (l:List α),l<+:outsL A N p ks l
 | [],l=>List.prefix_rfl
 |a::ks,l=>(push_prefix l _).trans (outs_prefix A N p ks _)
theorem outs_snoc (A:α→List Int) (N:α→Nat→α) (p:α) (ks:List Int) (a:Int) (l:List α):outsL A N p (ks++ [a]) l=pushL (outsL A N p ks l) (N p a.toNat):=by
 unfold outsL;rw[List.foldl_append];rfl
theorem outs_mem (A:α→List Int) (N:α→Nat→α) (p:α):∀(ks:List Int) (l:List α) (a:Int),a∈ks→N p a.toNat∈outsL A N p ks l
 | [],l,a,h=>nomatch h
 |b::ks,l,a,h=>by
  rcases List.mem_cons.1 h with rfl|h
  ·exact(outs_prefix A N p ks _).subset (push_mem l _)
  ·exact outs_mem A N p ks _ a h
theorem run_prefix (A:α→List Int) (N:α→Nat→α):∀(f i:Nat) (l:List α),l<+:runL A N f i l
 |0,i,l=>List.prefix_rfl
 |f+1,i,l=>by
  unfold runL
  split
  ·exact(outs_prefix A N _ _ l).trans (run_prefix A N f (i+1) _)
  ·exact List.prefix_rfl
structure Walk (A:α→List Int) (N:α→Nat→α) (ok:α→Prop) (z:α) (i:Nat) (l:List α):Prop where
 nd:l.Nodup
 ne:0<l.length
 hd:ix l 0=z
 ok:∀p∈l,ok p
 dn:∀j,j<i→j<l.length→∀a∈actsL A (ix l j),N (ix l j) a.toNat∈l
theorem ix_pre {l m:List α} (h:l<+:m) {j:Nat} (hj:j<l.length):ix m j=ix l j:=by
 obtain⟨t,rfl⟩:=h
 unfold ix
 rw[List.getD_eq_getElem?_getD,List.getD_eq_getElem?_getD,List.getElem?_append_left hj]
theorem push_nd {l:List α} {p:α} (h:l.Nodup):(pushL l p).Nodup:=by
 unfold pushL
 split
 ·exact h
 ·next g=>
  rw[List.nodup_append]
  refine⟨h,by simp,fun a ha b hb e=> ?_⟩
  rw[List.mem_singleton.1 hb] at e
  subst e;exact g ha
theorem push_in {l:List α} {p q:α} (h:q∈pushL l p):q∈l∨q=p:=by
 unfold pushL at h
 split at h
 ·exact .inl h
 ·rcases List.mem_append.1 h with h|h
  ·exact .inl h
  ·exact .inr (List.mem_singleton.1 h)
theorem outs_nd (A:α→List Int) (N:α→Nat→α) (p:α):∀(ks:List Int) (l:List α),l.Nodup→(outsL A N p ks l).Nodup
 | [],l,h=>h
 |a::ks,l,h=>outs_nd A N p ks _ (push_nd h)
theorem outs_in (A:α→List Int) (N:α→Nat→α) (p:α):∀(ks:List Int) (l:List α) (q:α),q∈outsL A N p ks l→q∈l∨∃a∈ks,q=N p a.toNat
 | [],l,q,h=> .inl h
 |a::ks,l,q,h=>by
  rcases outs_in A N p ks _ q h with h|⟨b,hb,e⟩
  ·rcases push_in h with h|h
   ·exact .inl h
   ·exact .inr ⟨a,List.mem_cons_self,h⟩
  ·exact .inr ⟨b,List.mem_cons_of_mem _ hb,e⟩
variable {A:α→List Int} {N:α→Nat→α} {ok:α→Prop} {z:α}
theorem walk_step (hok:∀p,ok p→∀a∈actsL A p,ok (N p a.toNat)) {i:Nat} {l:List α} (h:Walk A N ok z i l) (hi:i<l.length):Walk A N ok z (i+1) (stepL A N l (ix l i)):=by
 have hp:=outs_prefix A N (ix l i) (actsL A (ix l i)) l
 refine⟨outs_nd A N _ _ l h.nd,Nat.lt_of_lt_of_le h.ne hp.length_le,(ix_pre hp h.ne).trans h.hd,fun p hq=> ?_,fun j hj hl a ha=> ?_⟩
 ·rcases outs_in A N _ _ l p hq with g|⟨a,ha,rfl⟩
  ·exact h.ok p g
  ·exact hok _ (h.ok _ (ix_memS hi)) a ha
 ·have hjl:j<l.length:=by omega
  have e:ix (stepL A N l (ix l i)) j=ix l j:=ix_pre hp hjl
  rw[e] at ha ⊢
  by_cases g:j<i
  ·exact hp.subset (h.dn j g hjl a ha)
  ·have:j=i:=by omega
   subst this
   exact outs_mem A N _ _ l a ha
theorem walk_run (hok:∀p,ok p→∀a∈actsL A p,ok (N p a.toNat)):∀(f i:Nat) (l:List α),i≤l.length→Walk A N ok z i l→∃j,j≤(runL A N f i l).length∧Walk A N ok z j (runL A N f i l)∧(j=(runL A N f i l).length∨j=i+f)
 |0,i,l,hi,h=>⟨i,hi,h,.inr O⟩
 |f+1,i,l,hi,h=>by
  unfold runL
  split
  ·next g=>
   have hp:=outs_prefix A N (ix l i) (actsL A (ix l i)) l
   obtain⟨j,h1,h2,h3⟩:=walk_run hok f (i+1) _ (by have:=hp.length_le;show _≤(stepL A N l (ix l i)).length;unfold stepL;omega) (walk_step hok h g)
   exact⟨j,h1,h2,O⟩
  ·next g=>exact⟨i,hi,h,.inl O⟩
theorem walk_end (hok:∀p,ok p→∀a∈actsL A p,ok (N p a.toNat)) {B:Nat} (hB:∀l:List α,l.Nodup→(∀p∈l,ok p)→l.length≤B) {l:List α} (h:Walk A N ok z 0 l) {f:Nat} (hf:B≤f):Walk A N ok z (runL A N f 0 l).length (runL A N f 0 l):=by
 obtain⟨j,h1,h2,h3⟩:=walk_run hok f 0 l O h
 have:=hB _ h2.nd h2.ok
 have e:j=(runL A N f 0 l).length:=by omega
 rwa [e] at h2
def ofL (A:α→List Int) (N:α→Nat→α) (n:Nat) (L:List α) (p:α):SA:=⟨A p,(List.range n).map fun(a:Nat)=>if has (orAll (A p)) (a:Int)=true then(L.idxOf (N p a):Int) else-1⟩
theorem numb_of (hn:∀p,ok p→∀a:Nat,has (orAll (A p)) (a:Int)=true→a<63) {n:Nat} {L:List α} (h:Walk A N ok z L.length L) (acts:List ByteArray):Numb A N n z L ⟨acts,L.map (ofL A N n L)⟩:=by
 have hat:∀i,i<L.length→ix (L.map (ofL A N n L)) i=ofL A N n L (ix L i):=fun i hi=>TurnM.ix_mapS hi
 refine⟨by simp,h.nd,h.ne,h.hd,fun i hi=> ?_,fun i hi=> ?_,fun i hi a ha=> ?_,fun i hi a ha hh=> ?_⟩
 ·show(ix (L.map (ofL A N n L)) i).aP=_
  rw[hat i hi];rfl
 ·show(ix (L.map (ofL A N n L)) i).next.length=_
  rw[hat i hi];simp[ofL]
 ·show ix (ix (L.map (ofL A N n L)) i).next a=_
  rw[hat i hi]
  exact ix_map_range ha
 ·have:=h.dn i hi hi (a:Int) (listOf_mem.2 ⟨a,rfl,hn _ (h.ok _ (ix_memS hi)) a hh,hh⟩)
  rwa [Int.toNat_natCast] at this
theorem numb_ok {n:Nat} {L:List α} {D:SS} (hD:Numb A N n z L D) (hact:actionsOK D.aC=true) (hn:D.aC.length=n) (hl:L.length≤10000) (hb:∀p∈L,∀u∈A p,0≤u∧u<256) (hg:∀p∈L,∀a:Nat,has (orAll (A p)) (a:Int)=true→a<n) (hr:∀p∈L,rising (A p)=true):oK D:=by
 have n8:=actionsOK_len hact
 refine⟨hact,n8,by rw[hD.len];exact hD.ne,by rw[hD.len];exact hl,fun k hk=> ?_⟩
 rw[hD.len] at hk
 have hm:ix L k∈L:=ix_memS hk
 have ea:(ix D.sT k).aP=A (ix L k):=hD.acc k hk
 have en:(ix D.sT k).next.length=n:=hD.nl k hk
 have ex:∀a,a<n→ix (ix D.sT k).next a=if has (orAll (A (ix L k))) (a:Int)=true then(L.idxOf (N (ix L k) a):Int) else-1:=hD.nx k hk
 refine⟨by rw[en,hn],fun a ha=> ?_,fun i hi=> ?_,fun i hi a ha=> ?_,by rw[ea];exact hr _ hm⟩
 ·rw[ex a O]
  by_cases hh:has (orAll (A (ix L k))) (a:Int)=true
  ·rw[if_pos hh]
   have:=List.idxOf_lt_length_of_mem (hD.cl k hk a O hh)
   rw[hD.len];omega
  ·rw[if_neg hh];omega
 ·rw[ea] at hi ⊢
  exact hb _ hm _ (ix_memS hi)
 ·rw[ea] at hi ha
  have hh:has (orAll (A (ix L k))) (a:Int)=true:=(orAll_has _ _).2 ⟨_,ix_memS hi,ha⟩
  have:=hg _ hm a hh
  rw[ex a this,if_pos hh]
  omega
end
abbrev pix (l:List PP) (p:PP):Nat:= @List.idxOf PP instBEqOfDecidableEq p l
theorem idx_lt {α:Type} [DecidableEq α] {l:List α} {p:α} (h:p∈l):l.idxOf p<l.length:=List.idxOf_lt_length_of_mem h
theorem idx_at {α:Type} [DecidableEq α] [Inhabited α] {l:List α} {p:α} (h:p∈l):ix l (l.idxOf p)=p:=by rw[ix_get (idx_lt h)];exact List.getElem_idxOf _
theorem idx_app {α:Type} [DecidableEq α] {l r:List α} {p:α} (h:p∈l):(l++r).idxOf p=l.idxOf p:=by rw[List.idxOf_append,if_pos h]
theorem idx_end {α:Type} [DecidableEq α] {l:List α} {p:α} (h:p∉l):(l++ [p]).idxOf p=l.length:=by rw[List.idxOf_append,if_neg h];simp
theorem idx_none {α:Type} [DecidableEq α] {l:List α} {p:α} (h:p∉l):l.idxOf p=l.length:=List.idxOf_eq_length h
theorem idx_le {α:Type} [DecidableEq α] [Inhabited α] {l:List α} {p:α} {k:Nat} (hk:k<l.length) (h:ix l k=p):l.idxOf p≤k:=by
 rcases Nat.lt_or_ge k (l.idxOf p) with g|g
 ·have hf:=List.not_of_lt_findIdx (p:=(· ==p)) (xs:=l) (i:=k) (by unfold List.idxOf at g;exact g)
  rw[ix_get hk] at h
  simp[h] at hf
 ·exact g
theorem pix_at {l:List PP} {p:PP} (h:p∈l):ix l (pix l p)=p:=idx_at h
def bes:PP:=(-1,-1)
def subs (n:Nat):List Int:=(List.range (2^n)).map fun(x:Nat)=>(x:Int)
def qA (t s:SS) (p:PP):List Int:=if p=bes then subs t.aC.length else(subs t.aC.length).filter (fitsB (ix t.sT p.1.toNat) (ix s.sT p.2.toNat))
def qN (t s:SS) (p:PP) (a:Nat):PP:=if p≠bes∧0≤ix (nxt s p.2.toNat) a then(ix (nxt t p.1.toNat) a,ix (nxt s p.2.toNat) a) else bes
def qOk (t s:SS) (p:PP):Prop:=p=bes∨(0≤p.1∧p.1<(t.sT.length:Int)∧0≤p.2∧p.2<(s.sT.length:Int))
theorem subs_mem {n:Nat} {u:Int}:u∈subs n↔0≤u∧u<((2^n:Nat):Int):=by
 unfold subs
 rw[List.mem_map]
 constructor
 ·rintro⟨k,hk,rfl⟩
  have:=List.mem_range.1 hk
  omega
 ·rintro⟨h0,h1⟩
  exact⟨u.toNat,List.mem_range.2 O,O⟩
theorem subs_rise (n:Nat):(subs n).Pairwise (· < ·):=by
 unfold subs
 rw[List.pairwise_map]
 exact List.pairwise_lt_range.imp fun h=>by omega
theorem has_and {u o:Int} {a:Nat}:has (andI u o) (a:Int)=(has u (a:Int)&&has o (a:Int)):=by
 unfold has andI
 rw[Int.toNat_natCast,Int.toNat_natCast,Nat.testBit_and]
def qL (t s:SS):List PP:=runL (qA t s) (qN t s) (t.sT.length*s.sT.length+1) 0 [(0,0)]
def quoD (t s:SS):SS:=⟨t.aC,(qL t s).map (ofL (qA t s) (qN t s) t.aC.length (qL t s))⟩
end QuoM
end
section
namespace FailM
open ref01 ref03 ref04 ref06 prog15 starts Part Rungs LeftM TrimM RoundM BisM BisM5 BisM6 WalkM StepM WitM JudgM LevM divs QuoM
abbrev T3:=Int × Int × Int
structure M5 where
 x:Int
 t:Int
 s:Int
 before:Int
 action:Int
deriving Inhabited,DecidableEq
def tri (m:M5):T3:=(m.x,m.t,m.s)
def toMt (m:M5):Mt:=⟨m.s,m.t,m.before,m.action⟩
def smap3 (mm:List (T3 × Bool)) (l:List T3):Prop:=∀p,mget mm p=if p∈l then some true else none
def Bad3 (x:SSys) (t s:SS) (p:T3):Prop:=∃o∈acc s p.2.2.toNat,andI (offM x p.1.toNat) o∉acc t p.2.1.toNat
def nx3 (t s:SS) (p:T3) (e:PP):T3:=(e.2,ix (nxt t p.2.1.toNat) e.1.toNat,ix (nxt s p.2.2.toNat) e.1.toNat)
inductive Rch3 (x:SSys) (t s:SS):T3→Prop
 |zero:Rch3 x t s (0,0,0)
 |step {p:T3} {e:PP}:Rch3 x t s p→¬Bad3 x t s p→e∈edg x p.1.toNat→0≤ix (nxt s p.2.2.toNat) e.1.toNat→Rch3 x t s (nx3 t s p e)
def Well3 (x:SSys) (t s:SS):Prop:=∀p,Rch3 x t s p→¬Bad3 x t s p
variable {x:SSys} {t s:SS}
structure QF (x:SSys) (t s:SS) (q:List M5):Prop where
 ne:0<q.length
 hd:ix q 0=⟨0,0,0,-1,0⟩
 nd:(q.map tri).Nodup
 rch:∀m∈q,Rch3 x t s (tri m)
 back:∀k,0<k→k<q.length→∃(b:Nat) (e:PP),(ix q k).before=(b:Int)∧(ix q k).action=e.1∧b<k∧¬Bad3 x t s (tri (ix q b))∧e∈edg x (ix q b).x.toNat∧0≤ix (nxt s (ix q b).s.toNat) e.1.toNat∧tri (ix q k)=nx3 t s (tri (ix q b)) e
def DoneF (x:SSys) (t s:SS) (q:List M5) (k:Nat):Prop:=
 ¬Bad3 x t s (tri (ix q k))∧∀e∈edg x (ix q k).x.toNat,0≤ix (nxt s (ix q k).s.toNat) e.1.toNat→nx3 t s (tri (ix q k)) e∈q.map tri
structure MidF (x:SSys) (t s:SS) (q:List M5) (i k:Nat) (q2:List M5) (mm2:List (T3 × Bool)):Prop where
 qi:QF x t s q2
 sm:smap3 mm2 (q2.map tri)
 pre:q<+:q2
 dn:∀j,j<i→DoneF x t s q2 j
 al:∀e∈(edg x (ix q i).x.toNat).take k,0≤ix (nxt s (ix q i).s.toNat) e.1.toNat→nx3 t s (tri (ix q i)) e∈q2.map tri
variable {q q2:List M5} {i k:Nat} {mm mm2:List (T3 × Bool)}
abbrev wordF (q:List M5) (k:Nat):List Int:=wordTo (q.map toMt) k
structure FailOK (x:SSys) (t s:SS) (z:List Int × Int × Bool):Prop where
 none:z.2.2=false→z.1= []∧z.2.1=0∧Well3 x t s
 some:z.2.2=true→∃q i,QF x t s q∧i<q.length∧z.1=wordF q i∧z.2.1∈acc s (ix q i).s.toNat∧andI (offM x (ix q i).x.toNat) z.2.1∉acc t (ix q i).t.toNat
end FailM
end
section
namespace DivM
open ref01 ref03 ref04 ref06 Part Rungs LeftM TrimM RoundM MergeM BisM BisM2 BisM4 BisM5 BisM6 WalkM WitM JudgM JudgM2 LevM divr divs divd dive divg divw divv refj sysw ChsM BisS TrimI ValidM WitSat WitVal QuoM
theorem rep_ix {n a:Nat} (v:Int) (h:a<n):ix (List.replicate n v) a=v:=by rw[ix_get (by simpa using h)];simp
noncomputable def quoS (t s:SS):SS × Bool:=
 if ix (hOl s) 0=true then(everyS t.aC,true)
 else if (qL t (tR s).1).length≤500 then((tR (quoD t (tR s).1)).1,true) else(⟨[],[]⟩,false)
noncomputable def divS (t s:SS):SS × Int:=
 if fineE t s=0 then(if (quoS t s).2=true then((quoS t s).1,0) else(⟨[],[]⟩,2)) else(⟨[],[]⟩,fineE t s)
structure RefQ (t s D:SS):Prop where
 acts:D.aC=t.aC
 hol:ix (hOl s) 0=true→D=everyS t.aC
 num:ix (hOl s) 0=false→∃l,Numb (qA t (tR s).1) (qN t (tR s).1) t.aC.length (0,0) l D∧l.length≤t.sT.length*s.sT.length+1
structure Same (q D:SS):Prop where
 ok:oK q
 few:q.sT.length≤500
 acts:q.aC=D.aC
 trim:(tR q).1=q
 r1:RefP q D
 r2:RefP D q
theorem refB_of {s t:SS} (h:RefP s t):refB s t=true:=refB_iff.2 h
theorem fine_same {q D:SS} (h:Same q D):fineR q D=true:=by
 unfold fineR eqR isTrimS
 rw[specOK_of h.ok h.few,decide_eq_true h.acts,decide_eq_true h.trim.symm,refB_of h.r1,refB_of h.r2];rfl
structure MissOK (t s:SS) (z:SSys × Int):Prop where
 no:(divS t s).2≠0→z=(⟨[],[]⟩,(divS t s).2)
 yes:(divS t s).2=0→SomeOK (divS t s).1 z
theorem ref_hollow {q D:SS} (h:Same q D) (hD:oK D):ix (hOl q) 0=ix (hOl D) 0:=by
 have f1:=h.ok.few0
 have f2:=hD.few0
 have hs:=(ref_iff h.ok hD h.acts).1 ⟨h.r1,h.r2⟩
 cases h1:ix (hOl q) 0<;>cases h2:ix (hOl D) 0
 ·rfl
 ·exact absurd hs.symm (not_sim O O h2 h1)
 ·exact absurd hs (not_sim O O h1 h2)
 ·rfl
end DivM
end
end Go.Proofs.YtcjemmihcplgdaaGreatDoor
