/- The walks of the functions and the plain laws. Own texts of this claim, packed: ZzDivM. -/
import Derived.Test.YtcjemmihcplgdaaGreatX16
set_option linter.all false
namespace Go.Proofs.YtcjemmihcplgdaaGreat
open AL Go
set_option maxRecDepth 100000
section
namespace DivM
open ref01 ref03 ref04 ref06 Part Rungs LeftM TrimM RoundM MergeM BisM BisM2 BisM4 BisM5 BisM6 WalkM WitM JudgM JudgM2 LevM divr divs divd dive divg divw divv refj sysw ChsM BisS TrimI ValidM WitSat WitVal QuoM
theorem every_has {n:Nat} (a:Nat):has (orAll (subs n)) (a:Int)=true↔a<n:=by
 rw[orAll_has]
 constructor
 ·rintro⟨u,hu,ha⟩;exact has_sub hu ha
 ·intro h
  refine⟨((2^a:Nat):Int),subs_mem.2 ⟨Int.natCast_nonneg _,?_⟩,by rw[has_pow];simp⟩
  have:=Nat.pow_lt_pow_right (a:=2) O h
  exact_mod_cast this
theorem every_at (l:List ByteArray):ix (everyS l).sT 0=⟨subs l.length,List.replicate l.length 0⟩:=rfl
theorem rep_ix {n a:Nat} (v:Int) (h:a<n):ix (List.replicate n v) a=v:=by rw[ix_get (by simpa using h)];simp
theorem every_ok {l:List ByteArray} (h:actionsOK l=true):oK (everyS l):=by
 have n8:=actionsOK_len h
 refine⟨h,n8,by show 1≤1;omega,by show 1≤10000;omega,fun k hk=> ?_⟩
 have hk:k<1:=hk
 obtain rfl:k=0:=by omega
 rw[every_at]
 have h2:2^l.length≤2^8:=Nat.pow_le_pow_right O n8
 refine⟨by simp[everyS],fun a ha=> ?_,fun i hi=> ?_,fun i hi a ha=> ?_,pw_rising (subs_rise _)⟩
 ·have ha:a<l.length:=ha
  show-1≤ix (List.replicate l.length 0) a∧ix (List.replicate l.length 0) a<((1:Nat):Int)
  rw[rep_ix 0 ha];omega
 ·have:=subs_mem.1 (ix_memS hi)
  show 0≤ix (subs l.length) i∧ix (subs l.length) i<256
  omega
 ·have:=has_sub (ix_memS hi) ha
  refine⟨this,?_⟩
  show 0≤ix (List.replicate l.length 0) a
  rw[rep_ix 0 this];omega
theorem every_not {l:List ByteArray} (h:actionsOK l=true):ix (hOl (everyS l)) 0=false:=by
 cases e:ix (hOl (everyS l)) 0 with
 |false=>rfl
 |true=>
  have hx:(0:Nat)<(everyS l).sT.length:=by show 0<1;omega
  have hH:=(hollow_ix hx).1 e
  exfalso
  refine hH (fun _=>False) (fun x hx hc=> ?_)
  have hx:x<1:=hx
  obtain rfl:x=0:=by omega
  obtain⟨_,_,_,_,h⟩:=hc 0 (by show 0<(subs l.length).length;unfold subs;simp;exact Nat.pos_of_ne_zero (by simp))
  exact h
theorem every_ord {l:List ByteArray} (h:actionsOK l=true):ordS (everyS l)= [0]:=by
 have hs:=every_ok h
 have h1:(ordS (everyS l)).length≤1:=ord_le hs
 have h2:=ordS_pos (everyS l)
 have h3:=ord_zero (everyS l)
 match hq:ordS (everyS l),h1,h2,h3 with
 | [y],_,_,h3=>rw[show y=0 from h3]
theorem every_trim {l:List ByteArray} (h:actionsOK l=true):(tR (everyS l)).1=everyS l:=by
 have hs:=every_ok h
 have hn:=every_not h
 rw[trimmed_not hn]
 show(⟨l,(ordS (everyS l)).map (tstate (everyS l))⟩:SS)=_
 rw[every_ord h]
 have hk:keep (everyS l) 0=subs l.length:=by
  rw[keep_filter hn,every_at]
  refine List.filter_eq_self.2 fun u hu=> ?_
  rw[Bool.not_eq_true']
  cases hf:falls (⟨subs l.length,List.replicate l.length 0⟩:SA) u (hOl (everyS l)) with
  |false=>rfl
  |true=>
   obtain⟨a,ha,_,_,hv⟩:=falls_iff.1 hf
   have ha:a<l.length:=by simpa using ha
   rw[show ix (List.replicate l.length (0:Int)) a=0 from rep_ix 0 ha] at hv
   rw[show(0:Int).toNat=0 from rfl,hn] at hv;cases hv
 show(⟨l,[tstate (everyS l) 0]⟩:SS)=⟨l,[⟨subs l.length,List.replicate l.length 0⟩]⟩
 congr 2
 unfold tstate tnext
 rw[show(0:Int).toNat=0 from rfl,hk,every_ord h]
 congr 1
 apply List.ext_getElem
 ·simp[everyS]
 ·intro a h1 h2
  have ha:a<l.length:=by simpa using h2
  rw[List.getElem_map,List.getElem_range,List.getElem_replicate,if_pos ((every_has a).2 ha)]
  have e:ix (ix (everyS l).sT 0).next a=0:=rep_ix 0 ha
  rw[e];rfl
noncomputable def quoS (t s:SS):SS × Bool:=
 if ix (hOl s) 0=true then(everyS t.aC,true)
 else if (qL t (tR s).1).length≤500 then((tR (quoD t (tR s).1)).1,true) else(⟨[],[]⟩,false)
noncomputable def divS (t s:SS):SS × Int:=
 if fineE t s=0 then(if (quoS t s).2=true then((quoS t s).1,0) else(⟨[],[]⟩,2)) else(⟨[],[]⟩,fineE t s)
structure RefQ (t s D:SS):Prop where
 acts:D.aC=t.aC
 hol:ix (hOl s) 0=true→D=everyS t.aC
 num:ix (hOl s) 0=false→∃l,Numb (qA t (tR s).1) (qN t (tR s).1) t.aC.length (0,0) l D∧l.length≤t.sT.length*s.sT.length+1
theorem refq_ok {t s D:SS} (ht:oK t) (h:RefQ t s D) (hz:t.sT.length*s.sT.length+1≤10000):oK D:=by
 cases e:ix (hOl s) 0 with
 |true=>rw[h.hol e];exact every_ok ht.acts
 |false=>
  obtain⟨l,h1,h2⟩:=h.num e
  exact q_ok ht h1 h.acts O
theorem ql_len {t s:SS} (ht:oK t) (hs:oK s) (ha:s.aC.length=t.aC.length):(qL t (tR s).1).length≤t.sT.length*s.sT.length+1:=by
 have hw:=q_walk ht (trim_ok hs) (trim_used hs) (by rw[trim_acts];exact ha)
 have h1:=q_few _ hw.nd hw.ok
 have h2:=Nat.mul_le_mul_left t.sT.length (trim_len hs)
 omega
structure Same (q D:SS):Prop where
 ok:oK q
 few:q.sT.length≤500
 acts:q.aC=D.aC
 trim:(tR q).1=q
 r1:RefP q D
 r2:RefP D q
theorem quo_same {t s D:SS} (ht:oK t) (hs:oK s) (ha:t.aC=s.aC) (h:RefQ t s D) (hz:t.sT.length*s.sT.length+1≤10000) (hq:(quoS t s).2=true):Same (quoS t s).1 D:=by
 have hD:=refq_ok ht h hz
 unfold quoS at hq ⊢
 cases e:ix (hOl s) 0 with
 |true=>
  rw[if_pos rfl]
  have:=h.hol e
  rw[this]
  exact⟨every_ok ht.acts,by show 1≤500;omega,rfl,every_trim ht.acts,ref_refl (every_ok ht.acts),ref_refl (every_ok ht.acts)⟩
 |false=>
  rw[e] at hq
  rw[if_neg (by simp)] at hq ⊢
  split at hq
  ·next g=>
   rw[if_pos g]
   obtain⟨l,h1,h2⟩:=h.num e
   have hl:(tR s).1.aC.length=t.aC.length:=by rw[trim_acts,←ha]
   have hN:=q_numb ht (trim_ok hs) (trim_used hs) hl
   have hok:oK (quoD t (tR s).1):=q_ok ht hN rfl O
   have hr:=numb_ref hok hD (show t.aC=D.aC from h.acts.symm) hN h1
   have hr2:=ref_trim hok hD (show t.aC=D.aC from h.acts.symm) hr
   refine⟨trim_ok hok,?_,by rw[trim_acts];exact h.acts.symm,trim_trim hok,hr2.1,hr2.2⟩
   have:=trim_len hok
   have e2:(quoD t (tR s).1).sT.length=(qL t (tR s).1).length:=by simp[quoD]
   show(tR (quoD t (tR s).1)).1.sT.length≤500
   omega
  ·cases hq
theorem quo_ok {t s:SS} (ht:oK t) (hs:oK s) (ha:t.aC=s.aC) (hq:(quoS t s).2=true):oK (quoS t s).1:=by
 unfold quoS at hq ⊢
 cases e:ix (hOl s) 0 with
 |true=>rw[if_pos rfl];exact every_ok ht.acts
 |false=>
  rw[e] at hq
  rw[if_neg (by simp)] at hq ⊢
  split at hq
  ·next g=>
   rw[if_pos g]
   exact trim_ok (q_ok ht (q_numb ht (trim_ok hs) (trim_used hs) (by rw[trim_acts,←ha])) rfl O)
  ·cases hq
theorem quo_large {t s:SS} (ht:oK t) (hs:oK s) (ha:t.aC=s.aC) (hq:(quoS t s).2=false):largeB t s=true:=by
 unfold quoS at hq
 cases e:ix (hOl s) 0 with
 |true=>rw[if_pos e] at hq;cases hq
 |false=>
  rw[e,if_neg (by simp)] at hq
  split at hq
  ·cases hq
  ·next g=>
   have:=ql_len ht hs (by rw[ha])
   unfold largeB
   rw[decide_eq_true_eq]
   have e2:((t.sT.length*s.sT.length:Nat):Int)=(t.sT.length:Int)*(s.sT.length:Int):=by simp
   omega
theorem refB_of {s t:SS} (h:RefP s t):refB s t=true:=refB_iff.2 h
theorem fine_same {q D:SS} (h:Same q D):fineR q D=true:=by
 unfold fineR eqR isTrimS
 rw[specOK_of h.ok h.few,decide_eq_true h.acts,decide_eq_true h.trim.symm,refB_of h.r1,refB_of h.r2];rfl
theorem div_small {t s:SS} (ht:smallSpec t) (h:(divS t s).2=0):smallSpec (divS t s).1:=by
 by_cases hf:fineE t s=0
 ·obtain⟨h1,h2,h3⟩:=Go.Proofs.YtcjemmihcplgdaaGreat.fine_ok hf
  cases e:(quoS t s).2 with
  |true=>
   have e2:divS t s=((quoS t s).1,0):=by unfold divS;rw[if_pos hf,if_pos e]
   rw[e2]
   exact(quo_ok (okSpec_of h1) (okSpec_of h2) h3 e).small
  |false=>
   have e2:divS t s=(⟨[],[]⟩,2):=by unfold divS;rw[if_pos hf,if_neg (by simp[e])]
   rw[e2] at h;cases h
 ·have e2:divS t s=(⟨[],[]⟩,fineE t s):=by unfold divS;rw[if_neg hf]
  rw[e2] at h;exact absurd h hf
theorem sat_same {m:SSys} {q D:SS} (h:Same q D) (hD:oK D):SatM m q↔SatM m D:=by
 have hs:=(ref_iff h.ok hD h.acts).1 ⟨h.r1,h.r2⟩
 unfold SatM
 rw[sat_solid h.ok (off_ok m),sat_solid hD (off_ok m)]
 exact⟨fun g=>sat_sim g hs,fun g=>sat_sim g hs.symm⟩
theorem wit_made {q D:SS} (h:Same q D) (hD:oK D) (h0:ix (hOl q) 0=false) {m:SSys} (hm:WitOK (tS q) [] m):madeB m D=true:=by
 have hw:=wants_nil h.ok h0
 have hT:=tS_ok h.ok
 have ht:tS q=q:=by have:=h.trim;rwa [trimmed_not h0] at this
 have hsat:SatM m q:=by
  have:=wit_sat hT hw rfl hm
  rwa [ht] at this
 have hval:sysOK m=true:=by
  obtain⟨ss,qq,mm,hs,hW,ha⟩:=hm
  have hl:(tS q).sT.length≤500:=by rw[ht];exact h.few
  have hql:qq.length≤(tS q).sT.length:=wq_len hW.wq hs
  refine wit_valid (K:=1) hT hw hs hW ha (fun x hx=> ?_) O O
  have hnd:=hs.nd x hx
  have hall:∀u∈ix ss x,u=ix (acc (tS q) x) 0:=fun u hu=>by
   rcases(hs.mem x hx u).1 hu with g|g
   ·exact g
   ·cases g
  have:=List.Nodup.length_le_of_subset hnd (l₂:= [ix (acc (tS q) x) 0]) (fun u hu=>by rw[hall u hu];simp)
  simpa using this
 unfold madeB
 rw[hval,satD_iff.2 ((sat_same h hD).1 hsat),decide_eq_true (show m.aC=D.aC from by
  obtain⟨_,_,_,_,_,ha⟩:=hm
  rw[ha];exact h.acts)]
 rfl
structure MissOK (t s:SS) (z:SSys × Int):Prop where
 no:(divS t s).2≠0→z=(⟨[],[]⟩,(divS t s).2)
 yes:(divS t s).2=0→SomeOK (divS t s).1 z
theorem ref_hollow {q D:SS} (h:Same q D) (hD:oK D):ix (hOl q) 0=ix (hOl D) 0:=by
 have f1:=h.ok.few0
 have f2:=hD.few0
 have hs:=(ref_iff h.ok hD h.acts).1 ⟨h.r1,h.r2⟩
 cases h1:ix (hOl q) 0<;>cases h2:ix (hOl D) 0
 ·rfl
 ·exact absurd hs.symm (not_sim O O h2 h1)
 ·exact absurd hs (not_sim O O h1 h2)
 ·rfl
theorem miss_ok {t s D:SS} (hf:fineE t s=0) (h:RefQ t s D) (hz:t.sT.length*s.sT.length+1≤10000) {z:SSys × Int} (hm:MissOK t s z):
 (z.2=2∧largeB t s=true∧noneM z.1=true)∨(z.2=3∧noneM z.1=true∧ix (hOl D) 0=true)∨(z.2=0∧ix (hOl D) 0=false∧madeB z.1 D=true):=by
 obtain⟨h1,h2,h3⟩:=Go.Proofs.YtcjemmihcplgdaaGreat.fine_ok hf
 have hD:=refq_ok (okSpec_of h1) h hz
 cases e:(quoS t s).2 with
 |false=>
  have e2:divS t s=(⟨[],[]⟩,2):=by unfold divS;rw[if_pos hf,if_neg (by simp[e])]
  rw[hm.no (by rw[e2];simp),e2]
  exact .inl ⟨rfl,quo_large (okSpec_of h1) (okSpec_of h2) h3 e,rfl⟩
 |true=>
  have e2:divS t s=((quoS t s).1,0):=by unfold divS;rw[if_pos hf,if_pos e]
  have hS:=quo_same (okSpec_of h1) (okSpec_of h2) h3 h hz e
  have hy:=hm.yes (by rw[e2])
  rw[e2] at hy
  have hv:=specOK_of hS.ok hS.few
  have hh:=ref_hollow hS hD
  cases g:ix (hOl D) 0 with
  |true=>
   rw[hy.hol hv (hh.trans g)]
   exact .inr (.inl ⟨rfl,rfl,rfl⟩)
  |false=>
   obtain⟨k1,k2⟩:=hy.fit hv (hh.trans g)
   exact .inr (.inr ⟨k1,rfl,wit_made hS hD (hh.trans g) k2⟩)
end DivM
end
end Go.Proofs.YtcjemmihcplgdaaGreat
