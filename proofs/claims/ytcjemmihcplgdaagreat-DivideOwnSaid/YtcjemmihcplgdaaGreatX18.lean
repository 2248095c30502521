/- The walks of the functions and the plain laws. Own texts of this claim, packed: ZzQuoW, ZzFitM, Zzdivj, Zzdivq. -/
import Derived.Test.YtcjemmihcplgdaaGreatX16
import Derived.Test.YtcjemmihcplgdaaGreatX17
set_option linter.all false
namespace Go.Proofs.YtcjemmihcplgdaaGreat
open AL Go
set_option maxRecDepth 100000
section
namespace QuoW
open ref01 ref03 ref04 ref06 Part Rungs LeftM TrimM RoundM MergeM BisM BisM5 WitM LevM divr divs divd divf ChsM BisS TrimI QuoM FailM DivM
def k3 (p:PP):T3:=if p=bes then(1,0,0) else(0,p.1,p.2)
def spotE:PP→List AV:=fun p=> [int (k3 p).1,int (k3 p).2.1,int (k3 p).2.2]
instance (p:PP):OneAll (spotE p):=inferInstanceAs (OneAll [int (k3 p).1,int (k3 p).2.1,int (k3 p).2.2])
theorem k3_bes:k3 bes=(1,0,0):=by unfold k3;rw[if_pos rfl]
theorem k3_at {p:PP} (h:p≠bes):k3 p=(0,p.1,p.2):=by unfold k3;rw[if_neg h]
theorem k3_ne {p:PP} (h:(k3 p).1=0):p≠bes:=fun e=>by rw[e,k3_bes] at h;cases h
theorem k3_eq {p:PP} (h:¬(k3 p).1=0):p=bes:=Classical.byContradiction fun e=>h (by rw[k3_at e])
theorem k3_inj {p q:PP} (h:k3 p=k3 q):p=q:=by
 by_cases h1:p=bes
 ·by_cases h2:q=bes
  ·rw[h1,h2]
  ·rw[h1,k3_bes,k3_at h2] at h
   have:=congrArg Prod.fst h
   cases this
 ·by_cases h2:q=bes
  ·rw[h2,k3_bes,k3_at h1] at h
   have:=congrArg Prod.fst h
   cases this
  ·rw[k3_at h1,k3_at h2] at h
   have h3:=congrArg Prod.snd h
   exact h3
def amap (mm:List (T3 × Int)) (l:List PP):Prop:=∀p,mget mm (k3 p)=if p∈l then some (pix l p:Int) else none
theorem idx_pre {l L:List PP} (h:l<+:L) {q:PP} (hq:q∈l):pix L q=pix l q:=by
 obtain⟨r,rfl⟩:=h
 exact idx_app hq
theorem idx_last {l:List PP} {q:PP} (hq:q∉l):pix (l++ [q]) q=l.length:=idx_end hq
theorem amap_push {mm:List (T3 × Int)} {l:List PP} (h:amap mm l) {p:PP} (hp:p∉l):amap (mset mm (k3 p) (l.length:Int)) (l++ [p]):=by
 intro q
 rw[mget_mset,h q]
 by_cases e:p=q
 ·subst e
  rw[if_pos rfl,if_pos (by simp),idx_last hp]
 ·rw[if_neg (fun g=>e (k3_inj g))]
  have:q∈l++ [p]↔q∈l:=by
   rw[List.mem_append]
   exact⟨fun h=>h.resolve_right (fun h=>e (List.mem_singleton.1 h).symm),.inl⟩
  by_cases hq:q∈l
  ·rw[if_pos hq,if_pos (this.2 hq),idx_pre (List.prefix_append l [p]) hq]
  ·rw[if_neg hq,if_neg (fun h=>hq (this.1 h))]
theorem amap_zero:amap (mset ([]:List (T3 × Int)) (0,0,0) 0) [(0,0)]:=amap_push (l:= []) (p:=(0,0)) (fun p=>by rw[if_neg (by simp)];rfl) (by simp)
section
variable {t T:SS}
structure QW (t T:SS) (i:Nat) (l:List PP) (mm:List (T3 × Int)) (outs:List SA):Prop where
 nd:l.Nodup
 ok:∀p∈l,qOk t T p
 ne:0<l.length
 few:l.length≤500
 rn:runL (qA t T) (qN t T) (t.sT.length*T.sT.length+1- i) i l=qL t T
 il:i≤l.length
 am:amap mm l
 out:outs=(l.take i).map (ofL (qA t T) (qN t T) t.aC.length (qL t T))
theorem qw_zero (ht:oK t) (hT:oK T):QW t T 0 [(0,0)] (mset ([]:List (T3 × Int)) (0,0,0) 0) []:=by
 have h:=q_zero ht hT
 exact⟨h.nd,h.ok,h.ne,by simp,rfl,by simp,amap_zero,rfl⟩
structure QN (t T:SS) (i:Nat) (l:List PP) (m:Nat) (l2:List PP) (mm2:List (T3 × Int)) (nx:List Int):Prop where
 nd:l2.Nodup
 ok:∀p∈l2,qOk t T p
 few:l2.length≤500
 pre:l2=outsL (qA t T) (qN t T) (ix l i) ((actsL (qA t T) (ix l i)).take m) l
 am:amap mm2 l2
 nx:nx=(List.range t.aC.length).map fun(a:Nat)=>if ((actsL (qA t T) (ix l i)).take m).contains (a:Int) then(pix (qL t T) (qN t T (ix l i) a):Int) else-1
variable {i m:Nat} {l l2:List PP} {mm mm2:List (T3 × Int)} {outs:List SA} {nx:List Int}
theorem qw_lt (h:QW t T i l mm outs) (hi:i<l.length):i<t.sT.length*T.sT.length+1:=by
 have:=q_few l h.nd h.ok
 omega
theorem qn_zero (h:QW t T i l mm outs):QN t T i l 0 l mm (List.replicate t.aC.length (-1)):=by
 refine⟨h.nd,h.ok,h.few,rfl,h.am,?_⟩
 rw[List.take_zero]
 simp[List.map_const']
theorem qn_ix (h:QN t T i l m l2 mm2 nx) (hi:i<l.length):ix l2 i=ix l i:=by
 rw[h.pre];exact ix_pre (outs_prefix _ _ _ _ l) hi
theorem qw_step (h:QW t T i l mm outs) (hi:i<l.length):stepL (qA t T) (qN t T) l (ix l i)<+:qL t T:=by
 have hlt:=qw_lt h hi
 have hr:=h.rn
 rw[show t.sT.length*T.sT.length+1- i=(t.sT.length*T.sT.length+1- (i+1))+1 by omega] at hr
 unfold runL at hr
 rw[if_pos hi] at hr
 rw[←hr]
 exact run_prefix _ _ _ _ _
theorem outs_take (p:PP) (ks:List Int) (m:Nat) (l:List PP):outsL (qA t T) (qN t T) p (ks.take m) l<+:outsL (qA t T) (qN t T) p ks l:=by
 conv=>rhs;rw[←List.take_append_drop m ks]
 unfold outsL
 rw[List.foldl_append]
 exact outs_prefix (qA t T) (qN t T) p _ _
theorem qn_next (hQ:QW t T i l mm outs) (h:QN t T i l m l2 mm2 nx) (hi:i<l.length) {a:Nat} (ha:(actsL (qA t T) (ix l i))[m]?=some (a:Int)):pushL l2 (qN t T (ix l i) a)=outsL (qA t T) (qN t T) (ix l i) ((actsL (qA t T) (ix l i)).take (m+1)) l∧pushL l2 (qN t T (ix l i) a)<+:qL t T:=by
 obtain⟨hm,he⟩:=List.getElem?_eq_some_iff.1 ha
 have e:pushL l2 (qN t T (ix l i) a)=outsL (qA t T) (qN t T) (ix l i) ((actsL (qA t T) (ix l i)).take (m+1)) l:=by
  rw[List.take_succ_eq_append_getElem hm,he,outs_snoc,←h.pre,Int.toNat_natCast]
 refine⟨e,?_⟩
 rw[e]
 exact(outs_take _ _ _ _).trans (qw_step hQ hi)
theorem qn_nx (h:QN t T i l m l2 mm2 nx) {a:Nat} (ha:(actsL (qA t T) (ix l i))[m]?=some (a:Int)) (han:a<t.aC.length) {v:Int} (hv:v=(pix (qL t T) (qN t T (ix l i) a):Int)):
 nx.set a v=(List.range t.aC.length).map fun(b:Nat)=>if ((actsL (qA t T) (ix l i)).take (m+1)).contains (b:Int) then(pix (qL t T) (qN t T (ix l i) b):Int) else-1:=by
 obtain⟨hm,he⟩:=List.getElem?_eq_some_iff.1 ha
 have e:(actsL (qA t T) (ix l i)).take (m+1)=(actsL (qA t T) (ix l i)).take m++ [(a:Int)]:=by rw[List.take_succ_eq_append_getElem hm,he]
 rw[h.nx]
 refine map_upd han ?_ (fun y _ hne=> ?_)
 ·rw[e,if_pos (by simp),hv]
 ·rw[e]
  have:(((actsL (qA t T) (ix l i)).take m++ [(a:Int)]).contains (y:Int))=((actsL (qA t T) (ix l i)).take m).contains (y:Int):=by
   rw[Bool.eq_iff_iff,List.contains_iff_mem,List.contains_iff_mem,List.mem_append]
   constructor
   ·rintro(h|h)
    ·exact h
    ·simp at h;omega
   ·exact .inl
  rw[this]
theorem qn_old (hQ:QW t T i l mm outs) (h:QN t T i l m l2 mm2 nx) (hi:i<l.length) {a:Nat} (ha:(actsL (qA t T) (ix l i))[m]?=some (a:Int)) (han:a<t.aC.length) {k:T3} (hk:k=k3 (qN t T (ix l i) a)) (hs:(mget mm2 k).isSome=true):
 QN t T i l (m+1) l2 mm2 (nx.set a ((mget mm2 k).getD 0)):=by
 subst hk
 obtain⟨e1,e2⟩:=qn_next hQ h hi ha
 have hin:qN t T (ix l i) a∈l2:=by
  rw[h.am] at hs
  by_cases g:qN t T (ix l i) a∈l2
  ·exact g
  ·rw[if_neg g] at hs;cases hs
 have hp:pushL l2 (qN t T (ix l i) a)=l2:=by unfold pushL;rw[if_pos hin]
 rw[hp] at e1 e2
 refine⟨h.nd,h.ok,h.few,e1,h.am,qn_nx h ha han ?_⟩
 rw[h.am,if_pos hin,idx_pre e2 hin];rfl
theorem qn_new (hQ:QW t T i l mm outs) (h:QN t T i l m l2 mm2 nx) (hi:i<l.length) {a:Nat} (hok:qOk t T (qN t T (ix l i) a)) (ha:(actsL (qA t T) (ix l i))[m]?=some (a:Int)) (han:a<t.aC.length) {k:T3} (hk:k=k3 (qN t T (ix l i) a)) (hs:(mget mm2 k).isSome=false) (h5:l2.length≠500):
 QN t T i l (m+1) (l2++ [qN t T (ix l i) a]) (mset mm2 k (l2.length:Int)) (nx.set a (l2.length:Int)):=by
 subst hk
 obtain⟨e1,e2⟩:=qn_next hQ h hi ha
 have hnin:qN t T (ix l i) a∉l2:=fun g=>by
  rw[h.am,if_pos g] at hs;cases hs
 have hp:pushL l2 (qN t T (ix l i) a)=l2++ [qN t T (ix l i) a]:=by unfold pushL;rw[if_neg hnin]
 have hf:=h.few
 have hnd:=push_nd (p:=qN t T (ix l i) a) h.nd
 rw[hp] at e1 e2 hnd
 refine⟨hnd,fun p hp=> ?_,by simp;omega,e1,amap_push h.am hnin,qn_nx h ha han ?_⟩
 ·rcases List.mem_append.1 hp with g|g
  ·exact h.ok p g
  ·rw[List.mem_singleton.1 g];exact hok
 ·rw[idx_pre e2 (by simp),idx_last hnin]
theorem qn_fail (hQ:QW t T i l mm outs) (h:QN t T i l m l2 mm2 nx) (hi:i<l.length) {a:Nat} (ha:(actsL (qA t T) (ix l i))[m]?=some (a:Int)) {k:T3} (hk:k=k3 (qN t T (ix l i) a)) (hs:(mget mm2 k).isSome=false) (h5:(l2.length:Int)=500):500<(qL t T).length:=by
 subst hk
 obtain⟨e1,e2⟩:=qn_next hQ h hi ha
 have hnin:qN t T (ix l i) a∉l2:=fun g=>by
  rw[h.am,if_pos g] at hs;cases hs
 have hp:pushL l2 (qN t T (ix l i) a)=l2++ [qN t T (ix l i) a]:=by unfold pushL;rw[if_neg hnin]
 rw[hp] at e2
 have:=e2.length_le
 simp at this
 omega
theorem qn_end (hn:t.aC.length≤8) (hQ:QW t T i l mm outs) (h:QN t T i l (actsL (qA t T) (ix l i)).length l2 mm2 nx) (hi:i<l.length):QW t T (i+1) l2 mm2 (outs++ [⟨qA t T (ix l i),nx⟩]):=by
 have hlt:=qw_lt hQ hi
 have hpre:l<+:l2:=by rw[h.pre];exact outs_prefix _ _ _ _ l
 have hr:=hQ.rn
 rw[show t.sT.length*T.sT.length+1- i=(t.sT.length*T.sT.length+1- (i+1))+1 by omega] at hr
 unfold runL at hr
 rw[if_pos hi] at hr
 have hl2:l2=stepL (qA t T) (qN t T) l (ix l i):=by rw[h.pre,List.take_length];rfl
 have hle:=hpre.length_le
 refine⟨h.nd,h.ok,by have:=hQ.ne;omega,h.few,by rw[hl2];exact hr,O,h.am,?_⟩
 have e1:l2.take i=l.take i:=by
  obtain⟨r,rfl⟩:=hpre
  rw[List.take_append_of_le_length O]
 rw[take_s O,List.map_append,e1,←hQ.out,qn_ix h hi]
 congr 1
 show [_]= [_]
 congr 1
 unfold ofL
 congr 1
 rw[h.nx,List.take_length]
 refine List.map_congr_left fun a ha=> ?_
 by_cases g:has (orAll (qA t T (ix l i))) (a:Int)=true
 ·rw[if_pos g,if_pos (List.contains_iff_mem.2 (show(a:Int)∈actsL (qA t T) (ix l i) from listOf_mem.2 ⟨a,rfl,by have:=List.mem_range.1 ha;omega,g⟩))]
 ·rw[if_neg g,if_neg (fun hc=>g (by
   obtain⟨b,hb,_,hh⟩:=listOf_mem.1 (List.contains_iff_mem.1 hc)
   have:b=a:=by omega
   subst this;exact hh))]
theorem qw_done (h:QW t T i l mm outs) (hi:l.length≤i):l=qL t T∧outs=(quoD t T).sT:=by
 have hr:=h.rn
 have hil:=h.il
 have e:runL (qA t T) (qN t T) (t.sT.length*T.sT.length+1- i) i l=l:=by
  cases t.sT.length*T.sT.length+1- i with
  |zero=>rfl
  |succ f=>unfold runL;rw[if_neg O]
 rw[e] at hr
 refine⟨hr,?_⟩
 rw[h.out,List.take_of_length_le hi,hr];rfl
end
end QuoW
end
section
namespace FitM
open ref01 ref03 ref04 ref06 prog15 starts Part Rungs LeftM TrimM RoundM MergeM BisM BisM4 BisM5 BisM6 WalkM StepM WitM JudgM LevM LevM2 divr divs divd dive divg divw divv refj sysw ChsM BisS TrimI ValidM WitSat WitVal QuoM FailM DivM
structure JdgOK (x:SSys) (t s:SS) (v:Bool × SSys):Prop where
 yes:v.1=true→v.2=⟨[],[]⟩∧(ix (hOl s) 0=true∨Well3 x t (tR s).1)
 no:v.1=false→ix (hOl s) 0=false∧∃q i u,QF x t (tS s) q∧i<q.length∧u∈acc (tS s) (ix q i).s.toNat∧andI (offM x (ix q i).x.toNat) u∉acc t (ix q i).t.toNat∧WitOK (tS s) (pathL (tS s) (wordF q i) u) v.2
def BadT (m n:SSys) (t:SS) (p:T3):Prop:=andI (offM m p.1.toNat) (offM n p.2.1.toNat)∉acc t p.2.2.toNat
inductive RchT (m n:SSys) (t:SS):T3→Prop
 |zero:RchT m n t (0,0,0)
 |step {p:T3} {d e:PP}:RchT m n t p→¬BadT m n t p→d∈edg m p.1.toNat→e∈edg n p.2.1.toNat→d.1=e.1→RchT m n t (d.2,e.2,ix (nxt t p.2.2.toNat) d.1.toNat)
def WellT (m n:SSys) (t:SS):Prop:=∀p,RchT m n t p→¬BadT m n t p
theorem andI_comm (u o:Int):andI u o=andI o u:=by unfold andI;rw[Nat.and_comm]
section
variable {x:SSys} {t T:SS} {q:List M5} {i:Nat} {u:Int} {m:SSys}
theorem want_zero (T:SS) (w:List Int) (u:Int):(firstW T (pathL T w u)).1=0:=by
 unfold firstW
 rw[if_pos (by rw[pathL_len];omega)]
 rcases Nat.eq_zero_or_pos w.length with e|e
 ·have h:=pathL_end (T:=T) (w:=w) (u:=u)
  rw[e] at h
  rw[h];exact xAt_zero T w
 ·rw[pathL_at e]
  show xAt T w 0=0
  exact xAt_zero T w
theorem part_bad (hx:okSys x) (ht:oK t) (hT:oK T) (hU:Used T) (ha:x.aC.length=T.aC.length) (hne:∀y,y<T.sT.length→0<(acc T y).length) (hq:QF x t T q) (hql:q.length≤2000000000) (hi:i<q.length) (hu:u∈acc T (ix q i).s.toNat) (hn:andI (offM x (ix q i).x.toNat) u∉acc t (ix q i).t.toNat)
 (hm:WitOK T (pathL T (wordF q i) u) m):¬WellT m x t:=by
 intro hw
 obtain⟨ss,qq,mm,hs,hW,_⟩:=hm
 have hruns:=qf_runs hx ht hT hU ha hq
 obtain⟨hr,_⟩:=hruns i hi
 have hal:=hr.alive hT
 have hgo:=hr.go hT
 have hwl:=wordTo_len (qf_back hq) i (by simpa using hi)
 have hmem:∀p∈pathL T (wordF q i) u,0≤p.1∧p.1<(T.sT.length:Int)∧p.2∈acc T p.1.toNat:=pathL_mem hT hal (by rw[hgo,Int.toNat_natCast];exact hu)
 have hwants:Wants T (pathL T (wordF q i) u):=⟨hmem,hne,by rw[pathL_len];show(wordTo (q.map toMt) i).length+1≤_;omega⟩
 generalize hwd:wordF q i=W at*
 have hwant:∀j,j≤W.length→ix (pathL T W u) j∈pathL T W u∧(ix (pathL T W u) j).1=xAt T W j:=fun j hj=>by
  refine⟨ix_memS (by rw[pathL_len];omega),?_⟩
  by_cases e:j<W.length
  ·rw[pathL_at e];rfl
  ·have:j=W.length:=by omega
   subst this
   rw[pathL_end]
 have hinS:∀j,j≤W.length→(ix (pathL T W u) j).2∈ix ss (ix (pathL T W u) j).1.toNat:=fun j hj=>by
  obtain⟨h1,_⟩:=hwant j hj
  have hb:=hmem _ h1
  refine(hs.mem _ O _).2 (.inr ?_)
  have e:(((ix (pathL T W u) j).1.toNat:Nat):Int)=(ix (pathL T W u) j).1:=by omega
  rw[e];exact h1
 have key:∀k,k<q.length→wordF q k<+:W→ix (pathL T W u) (wordF q k).length∈qq∧RchT m x t (((qq.idxOf (ix (pathL T W u) (wordF q k).length):Nat):Int),(ix q k).x,(ix q k).t):=by
  intro k
  induction k using Nat.strongRecOn with
  |_ k ih=>
   intro hk hp
   rcases Nat.eq_zero_or_pos k with e|e
   ·subst e
    have e1:wordF q 0= []:=wordTo_nil (by rw[ix_toMt hk,hq.hd];show(-1:Int)<0;omega)
    rw[e1]
    have e2:ix qq 0=ix (pathL T W u) 0:=by
     rw[hW.wq.hd]
     unfold firstW
     rw[if_pos (by rw[pathL_len];omega)]
    have e3:ix (pathL T W u) ([]:List Int).length=ix qq 0:=e2.symm
    rw[e3]
    have hin:ix qq 0∈qq:=ix_memS hW.wq.ne
    refine⟨hin,?_⟩
    have h1:=List.idxOf_lt_length_of_mem hin
    have h2:qq.idxOf (ix qq 0)=0:=by
     have h3:qq[qq.idxOf (ix qq 0)]=qq[0]'hW.wq.ne:=by rw[List.getElem_idxOf,ix_get hW.wq.ne]
     exact(List.getElem_inj hW.wq.nd).1 h3
    rw[h2,hq.hd]
    exact .zero
   ·obtain⟨b,ed,e1,e2,e3,e4,e5,e6,e7⟩:=hq.back k e hk
    have g0:ix (q.map toMt) k=toMt (ix q k):=ix_toMt hk
    have hwk:=wordTo_snoc (qf_back hq) (k:=k) (by simpa using hk) (by rw[g0];show 0≤(ix q k).before;rw[e1];omega)
    rw[g0] at hwk
    have hwk:wordF q k=wordTo (q.map toMt) (ix q k).before.toNat++ [(ix q k).action]:=hwk
    rw[e1,Int.toNat_natCast,e2] at hwk
    have hwk:wordF q k=wordF q b++ [ed.1]:=hwk
    have hpb:wordF q b<+:W:=(List.prefix_append _ _).trans (hwk▸hp)
    obtain⟨hin,hrc⟩:=ih b e3 O hpb
    have hlk:(wordF q k).length=(wordF q b).length+1:=by rw[hwk];simp
    have hlW:=hp.length_le
    have hjl:(wordF q b).length<W.length:=by omega
    have hbox:=rch3_box hx ht hT hU ha (hq.rch _ (ix_memS (l:=q) (i:=b) O))
    have hedx:=hx.ed (ix q b).x.toNat (by have:=hbox.1;have:=hbox.2.1;show(tri (ix q b)).1.toNat<_;omega) ed e5
    have hlet:ix W (wordF q b).length=ed.1:=by
     obtain⟨r,hr2⟩:=hp
     rw[←hr2,hwk,List.append_assoc,ix_get (by simp),List.getElem_append_right O]
     simp
    have hi0:=List.idxOf_lt_length_of_mem hin
    have hat:ix qq (qq.idxOf (ix (pathL T W u) (wordF q b).length))=ix (pathL T W u) (wordF q b).length:=by rw[ix_get hi0];exact List.getElem_idxOf hi0
    have hst:=pathL_at (T:=T) (u:=u) hjl
    obtain⟨a1,a2,na,a3,a4⟩:=hal _ hjl
    have hnat:(na:Int)=ed.1:=by rw[←a3,hlet]
    have hlead:has (ix (pathL T W u) (wordF q b).length).2 (na:Int)=true:=by
     rw[hst]
     show has (leadI _ (ix W _)) (na:Int)=true
     rw[a3]
     exact(lead_ix (leadB_of a4)).2.2
    have h63:na<63:=by
     have:=hx.n8
     omega
    obtain⟨n1,n2⟩:=hwant ((wordF q b).length+1) O
    have htgt:tgt T (ix (pathL T W u) (wordF q b).length) (na:Int)=(ix (pathL T W u) ((wordF q b).length+1)).1:=by
     rw[n2,xAt_succ hjl,a3,stepS_nat a1]
     unfold tgt
     rw[Int.toNat_natCast,hst];rfl
    have hnew:=hinS ((wordF q b).length+1) O
    have hdn:=hW.dn _ hi0 (na:Int) (by rw[hat];exact listOf_mem.2 ⟨na,rfl,h63,hlead⟩) (ix (pathL T W u) ((wordF q b).length+1)).2 (by rw[hat,htgt];exact hnew)
    rw[hat,htgt] at hdn
    have hpe:((ix (pathL T W u) ((wordF q b).length+1)).1,(ix (pathL T W u) ((wordF q b).length+1)).2)=ix (pathL T W u) ((wordF q b).length+1):=rfl
    rw[hpe] at hdn
    rw[hlk]
    refine⟨hdn,?_⟩
    have hd:((na:Int),((qq.idxOf (ix (pathL T W u) ((wordF q b).length+1)):Nat):Int))∈edg m (qq.idxOf (ix (pathL T W u) (wordF q b).length)):=by
     refine(edge_mem hW hi0).2 ⟨na,rfl,h63,by rw[hat];exact hlead,(ix (pathL T W u) ((wordF q b).length+1)).2,by rw[hat,htgt];exact hnew,?_⟩
     rw[hat,htgt]
    have hs2:=RchT.step hrc (hw _ hrc) (d:=((na:Int),((qq.idxOf (ix (pathL T W u) ((wordF q b).length+1)):Nat):Int))) (e:=ed) (by show _∈edg m ((qq.idxOf (ix (pathL T W u) (wordF q b).length):Nat):Int).toNat;rw[Int.toNat_natCast];exact hd) e5 hnat
    have e8:(ix q k).x=ed.2:=congrArg (fun p:T3=>p.1) e7
    have e9:(ix q k).t=ix (nxt t (ix q b).t.toNat) ed.1.toNat:=congrArg (fun p:T3=>p.2.1) e7
    rw[e8,e9,←hnat]
    exact hs2
 obtain⟨hin,hrc⟩:=key i hi (by rw[hwd];exact List.prefix_rfl)
 rw[hwd] at hin hrc
 have hi0:=List.idxOf_lt_length_of_mem hin
 have hat:ix qq (qq.idxOf (ix (pathL T W u) W.length))=ix (pathL T W u) W.length:=by rw[ix_get hi0];exact List.getElem_idxOf hi0
 have hoff:=off_eq hT hwants hs hW hi0
 have e:(ix (pathL T W u) W.length).2=u:=by rw[pathL_end]
 rw[hat,e] at hoff
 refine hw _ hrc ?_
 show andI (offM m ((qq.idxOf (ix (pathL T W u) W.length):Nat):Int).toNat) (offM x (ix q i).x.toNat)∉acc t (ix q i).t.toNat
 rw[Int.toNat_natCast,hoff,andI_comm]
 exact hn
end
end FitM
end
section
open ref01 ref03 ref04 ref06 prog prog2 prog3 prog6 prog13 Part Rungs LeftM TrimM RoundM MergeM BisM BisM4 BisM5 WalkM StepM WitM JudgM JudgM2 refw judg wit refj sysw divr divs divd dive divg divw divv LevM LevM2 QuoM FailM FitM
def met5:M5→List AV:=fun m=> [int m.x,int m.t,int m.s,int m.before,int m.action]
instance (m:M5):OneAll (met5 m):=inferInstanceAs (OneAll [int m.x,int m.t,int m.s,int m.before,int m.action])
theorem tri_dom {a b c:Int} (h1: -9223372036854775808≤a∧a≤9223372036854775807) (h2: -9223372036854775808≤b∧b≤9223372036854775807) (h3: -9223372036854775808≤c∧c≤9223372036854775807):triD (a,b,c):=⟨h1,h2,h3⟩
theorem offE_lt {es:List (Int × Int)} (h:∀e∈es,0≤e.1∧e.1<8):0≤offE es∧offE es<256:=by
 refine⟨orAll_nn _,orAll_lt _ fun u hu=> ?_⟩
 obtain⟨e,he,rfl⟩:=List.mem_map.1 hu
 have:=h e he
 have h2:2^e.1.toNat≤2^7:=Nat.pow_le_pow_right O O
 omega
theorem fineX_ok {x:SSys} {t s:SS} (h:fineX x t s=0):sysOK x=true∧specOK t=true∧specOK s=true∧x.aC=t.aC∧t.aC=s.aC:=by
 unfold fineX at h
 split at h
 ·next g1=>
  split at h
  ·next g2=>
   split at h
   ·next g3=>
    obtain⟨a,b,c⟩:=Go.Proofs.YtcjemmihcplgdaaGreat.fine_ok g2
    exact⟨g1,a,b,g3,c⟩
   ·exact absurd h (by decide)
  ·next g2=>exact absurd h g2
 ·exact absurd h (by decide)
namespace T
theorem map140:MapT Tryz.prog 140 139 4 triV triD:=mapT_tri Tryz.underlying140 Tryz.underlying139 kR (by decide+kernel) kR kR ⟨rfl,rfl,by kernel_rfl,by kernel_rfl⟩ ⟨rfl,rfl,by kernel_rfl,by kernel_rfl⟩ ⟨rfl,rfl,by kernel_rfl,by kernel_rfl⟩ kR kR
theorem zvb4:∀w F,∃u,(zeroValue 4).run Tryz.prog w= .ok u w∧(blV false).p w F u:=zeroV_of (v:= .bool false) kR _ (fun _ _=>eqv_rfl)
theorem st139:StructT Tryz.prog 139 [(0,1),(1,1),(2,1)] [.int .i64 0,.int .i64 0,.int .i64 0]:=structT_of kR kR
theorem st164:StructT Tryz.prog 164 [(0,3),(3,1),(4,1)] [.int .i64 0,.int .i64 0,.int .i64 0,.int .i64 0,.int .i64 0]:=structT_of kR kR
theorem mk165:MakeT Tryz.prog 165 164 5 40 [.int .i64 0,.int .i64 0,.int .i64 0,.int .i64 0,.int .i64 0]:=makeT_of kR kR
theorem sl165:IsSlice Tryz.prog 165 164 5:=isSlice_of kR
theorem fld164_0:FieldAt Tryz.prog 164 0 0:=fieldAt_of kR
theorem agg139:IsAgg Tryz.prog 139 3:=isAgg_of kR
theorem z139:ZeroIs Tryz.prog 139 [.int .i64 0,.int .i64 0,.int .i64 0]:=zeroIs_of kR
theorem fld139_0:FieldAt Tryz.prog 139 0 0:=fieldAt_of kR
theorem ent93:Ent Tryz.prog 93:=ent_of kR
theorem fld139_2:FieldAt Tryz.prog 139 2 2:=fieldAt_of kR
theorem fld139_1:FieldAt Tryz.prog 139 1 1:=fieldAt_of kR
theorem fld164_1:FieldAt Tryz.prog 164 1 3:=fieldAt_of kR
theorem fld164_2:FieldAt Tryz.prog 164 2 4:=fieldAt_of kR
theorem ent116:Ent Tryz.prog 116:=ent_of kR
theorem z49:ZeroIs Tryz.prog 49 [.bool false,.slice none 0 0,.slice none 0 0]:=zeroIs_of kR
theorem st49:StructT Tryz.prog 49 [(0,1),(1,2)] [.bool false,.slice none 0 0,.slice none 0 0]:=structT_of kR kR
theorem agg49:IsAgg Tryz.prog 49 3:=isAgg_of kR
theorem ent88:Ent Tryz.prog 88:=ent_of kR
theorem ent89:Ent Tryz.prog 89:=ent_of kR
theorem ent56:Ent Tryz.prog 56:=ent_of kR
theorem ent57:Ent Tryz.prog 57:=ent_of kR
end T
namespace divj
theorem failure_ok (x:SSys) (t s:SS) (hx:okSys x) (ht:oK t) (hs:oK s) (hu:Used s) (hxa:x.aC.length=s.aC.length) (hta:t.aC.length=s.aC.length) (hz:x.sT.length*(t.sT.length*s.sT.length)≤1000000000):
 AL.Fn Tryz.prog 88 [sys x,spec t,spec s] [] (ι:= { z:List Int × Int × Bool//FailOK x t s z }) (fun _ i=>tup [ints i.1.1,int i.1.2.1,bl i.1.2.2]) (fun _=> []):=by
 refine fnI Tryz.func88 rfl rfl (fun w0 F0=> ?_)
 have f0:=hx.few0;have f1:=ht.few0;have f2:=hs.few0;have f3:=hx.few1;have f4:=ht.few1;have f5:=hs.few1;have hn8:=hs.n8
 refine fcC (inhS 0 J) (fun hS0=> ?_)
 obtain⟨hma0,hms0,hme0⟩:=sys_lens hS0
 refine fcC (inhS 1 J) (fun hS1=> ?_)
 obtain⟨hsa1,hss1,hse1⟩:=sLn hS1
 refine fcC (inhS 2 J) (fun hS2=> ?_)
 obtain⟨hsa2,hss2,hse2⟩:=sLn hS2
 refine sq (rg (bx (key:=3) (cs:= [sl 1 rE_ x.aC,sl 1 gE x.sT]) J fun b3=>(bx (key:=4) (cs:= [sl 1 rE_ t.aC,sl 2 sE t.sT]) J fun b4=>(bx (key:=5) (cs:= [sl 1 rE_ s.aC,sl 2 sE s.sT]) J fun b5=>(ag (ag (ag (nl (th (sq (rg (mkm (key:=21) (kE:=triV) (dom:=triD) (vE:=blV) fun b21=>(bd (css:= []) T.st139 (eC (eC (eC eZ))) trivial (AL.insert (q:=(0,0,0)) (u:=true) J J agg_tri J T.map140 (tri_dom ⟨O,O⟩ ⟨O,O⟩ ⟨O,O⟩) (mv (ag (nl (th (sq (rg (bd (css:= [(3,_)]) T.st164 (eC (eC (eC (eC (eC eZ))))) ⟨J,J,p1 (φ:=int (-1)) J,tV⟩ (bsO 25 (enc:=met5) (xs:= [⟨0,0,0,(-1),0⟩]) (css:= [[int 0,int 0,int 0,int (-1),int 0]]) T.mk165 ⟨J,J,pA (cs:= [int 0,int 0,int 0,int (-1),int 0]) J,tV⟩ J J J J fun v25=>(ag (nl (th (sq (sq (rg (ag (nl (th (bk ?_))))))))))))))))))))))))))))))))
 have hI0_0:QF x t s ([⟨0,0,0,(-1),0⟩]:List M5)∧smap3 (mset ([]:List ((Int × Int × Int) × Bool)) (0,0,0) true) (([⟨0,0,0,(-1),0⟩]:List M5).map tri)∧0≤([⟨0,0,0,(-1),0⟩]:List M5).length∧∀j,j<0→DoneF x t s ([⟨0,0,0,(-1),0⟩]:List M5) j:=by
  exact⟨qf_zero,smap3_zero,by simp,fun k hk=>absurd hk O⟩
 refine lp (κ:=Nat × Value × (List M5) × (List ((Int × Int × Int) × Bool))) (fun p=> [(3,ptr 3 b3 0),(4,ptr 4 b4 0),(5,ptr 5 b5 0),(9,mpv 21 b21),(10,osl 25 p.2.1),(11,int (p.1:Int))]) (fun p=> [(3,cell b3 [sl 1 rE_ x.aC,sl 1 gE x.sT]),(4,cell b4 [sl 1 rE_ t.aC,sl 2 sE t.sT]),(5,cell b5 [sl 1 rE_ s.aC,sl 2 sE s.sT]),(21,mp b21 triV triD blV p.2.2.2),(25,own p.2.1 164 5 met5 p.2.2.1)]) (fun p=>QF x t s p.2.2.1∧smap3 p.2.2.2 (p.2.2.1.map tri)∧p.1≤p.2.2.1.length∧∀j,j<p.1→DoneF x t s p.2.2.1 j) (fun p=>x.sT.length*(t.sT.length*s.sT.length)- p.1) ⟨0,v25,([⟨0,0,0,(-1),0⟩]:List M5),mset ([]:List ((Int × Int × Int) × Bool)) (0,0,0) true⟩ hI0_0 ⟨id,id,id,id,id,id,tV⟩ ⟨rI,rI,rI,rI,rI,tV⟩ ?_
 intro⟨i,v,q,mm⟩ hG0
 obtain⟨hq,hsm,hil,hdone⟩:QF x t s q∧smap3 mm (q.map tri)∧i≤q.length∧∀j,j<i→DoneF x t s q j:=hG0
 show Ct _ _ _ _ [(3,ptr 3 b3 0),(4,ptr 4 b4 0),(5,ptr 5 b5 0),(9,mpv 21 b21),(10,osl 25 v),(11,int (i:Int))] [(3,cell b3 [sl 1 rE_ x.aC,sl 1 gE x.sT]),(4,cell b4 [sl 1 rE_ t.aC,sl 2 sE t.sT]),(5,cell b5 [sl 1 rE_ s.aC,sl 2 sE s.sT]),(21,mp b21 triV triD blV mm),(25,own v 164 5 met5 q)] _
 have hql:=qf_len hx ht hs hu hxa hq
 refine sq (sq (rg (mv (mv (lnO J J T.sl165 (bi J J b_lss (nl (th ?_))))))))
 refine cd J (fun hc0=> ?_) (fun hc0=> ?_)
 ·try simp at hc0
  have hbx:0≤(ix q i).x∧(ix q i).x<(x.sT.length:Int)∧0≤(ix q i).t∧(ix q i).t<(t.sT.length:Int)∧0≤(ix q i).s∧(ix q i).s<(s.sT.length:Int):=rch3_box hx ht hs hu hxa (hq.rch _ (ix_memS hc0))
  obtain⟨hb0,hb1,hb2,hb3,hb4,hb5⟩:=hbx
  have hst:=ht.st (ix q i).t.toNat O
  have hss:=hs.st (ix q i).s.toNat O
  have hsl:=hss.len
  have htl:=hst.len
  have hacl:=hss.acl
  have hoff:∀e∈(ix x.sT (ix q i).x.toNat),0≤e.1∧e.1<8:=fun e he=>by have:=hx.ed (ix q i).x.toNat O e he;have:=hx.n8;omega
  have hof:=offE_lt hoff
  refine sk (th (sq (bk (sq (rg (mv (mv (iO J J J T.sl165 O O (fO J T.fld164_0 (lOA J J gB T.agg139 (by decide) (al (key:=12) T.z139 (eC (eC (eC eZ))) fun b12=>(sPA (cs':= [int (ix q i).x,int (ix q i).t,int (ix q i).s]) J J J T.agg139 J J (nl (th (sq (rg (fP J T.fld38_1 (lP J J J T.one36 (fP J T.fld139_0 (lP J J J T.one3 (iF J J T.sl36 O gB (lF J J T.one88 (cal0 (φs:= [sl 2 pE (ix x.sT (ix q i).x.toNat)]) (φ:=int (offE (ix x.sT (ix q i).x.toNat))) ⟨J,tV⟩ (sysw.Offers_ok (ix x.sT (ix q i).x.toNat) aS) T.ent93 (ag (nl (th (sq (sq (rg (fP J T.fld25_1 (lP J J J T.one23 (fP J T.fld139_2 (lP J J J T.one3 (iF J J T.sl23 O gB (fF J T.fld72_0 (lF J J T.one63 (fc (slenI 50 J) fun hm50=>(lnF J T.sl63 (mv (nl (th (bk ?_))))))))))))))))))))))))))))))))))))))))))
  have hI1_0:0≤(ix s.sT (ix q i).s.toNat).aP.length:=by
   first|omega|simp
  have hI1_1:∀j,j<0→andI (offM x (ix q i).x.toNat) (ix (ix s.sT (ix q i).s.toNat).aP j)∈acc t (ix q i).t.toNat:=by
   intro j hj;omega
  refine lp (κ:=Nat) (fun p=> [(3,ptr 3 b3 0),(4,ptr 4 b4 0),(5,ptr 5 b5 0),(9,mpv 21 b21),(10,osl 25 v),(11,int (i:Int)),(12,ptr 12 b12 0),(13,int (offE (ix x.sT (ix q i).x.toNat))),(50,sl 1 nE (ix s.sT (ix q i).s.toNat).aP),(51,int ((ix s.sT (ix q i).s.toNat).aP.length:Int)),(52,int (p:Int))]) (fun p=> [(3,cell b3 [sl 1 rE_ x.aC,sl 1 gE x.sT]),(4,cell b4 [sl 1 rE_ t.aC,sl 2 sE t.sT]),(5,cell b5 [sl 1 rE_ s.aC,sl 2 sE s.sT]),(12,cell b12 [int (ix q i).x,int (ix q i).t,int (ix q i).s]),(21,mp b21 triV triD blV mm),(25,own v 164 5 met5 q)]) (fun p=>(p≤(ix s.sT (ix q i).s.toNat).aP.length)∧(∀j,j<p→andI (offM x (ix q i).x.toNat) (ix (ix s.sT (ix q i).s.toNat).aP j)∈acc t (ix q i).t.toNat)) (fun p=>(ix s.sT (ix q i).s.toNat).aP.length- p) 0 ⟨hI1_0,hI1_1⟩ ⟨id,id,id,id,id,id,id,id,id,id,id,tV⟩ ⟨rI,rI,rI,rI,rI,rI,tV⟩ ?_
  intro k1 hG1
  obtain⟨hk1,hI1⟩:(k1≤(ix s.sT (ix q i).s.toNat).aP.length)∧(∀j,j<k1→andI (offM x (ix q i).x.toNat) (ix (ix s.sT (ix q i).s.toNat).aP j)∈acc t (ix q i).t.toNat):=hG1
  refine sq (rg (bi J J b_lss (nl (th (sq ?_)))))
  refine cd J (fun hc1=> ?_) (fun hc1=> ?_)
  ·try simp at hc1
   have hkb:=hss.ac k1 O
   refine sk (th (sq (bk (sq (rg (iF J J T.sl63 O gB (lF J J T.one3 (ag (nl (th (sq (rg (fP J T.fld25_1 (lP J J J T.one23 (fP J T.fld139_1 (lP J J J T.one3 (iF J J T.sl23 O gB (lFA J T.agg72 (Nat.le_of_ble_eq_true J) (mv (mv (bi J J (b_andI O O O O) (cal0 (φs:= [agg [sl 1 nE (ix t.sT (ix q i).t.toNat).aP,sl 1 nE (ix t.sT (ix q i).t.toNat).next],int (((offE (ix x.sT (ix q i).x.toNat)).toNat&&&(ix (ix s.sT (ix q i).s.toNat).aP k1).toNat:Nat):Int)]) (φ:=bl (decide ((((offE (ix x.sT (ix q i).x.toNat)).toNat&&&(ix (ix s.sT (ix q i).s.toNat).aP k1).toNat:Nat):Int)∈(ix t.sT (ix q i).t.toNat).aP))) ⟨J,J,tV⟩ (search.Accepts_ok (ix t.sT (ix q i).t.toNat) hst.rise (((offE (ix x.sT (ix q i).x.toNat)).toNat&&&(ix (ix s.sT (ix q i).s.toNat).aP k1).toNat:Nat):Int)) T.ent92 (no J (nl (th ?_)))))))))))))))))))))))))
   refine cd J (fun hc2=> ?_) (fun hc2=> ?_)
   ·skip
    have hbad:andI (offM x (ix q i).x.toNat) (ix (ix s.sT (ix q i).s.toNat).aP k1)∉acc t (ix q i).t.toNat:=by unfold andI;simpa using hc2
    refine sq (rg (nw 16 3 1 nE (ag (rtg (key:=16) 16 J (nl (th (sq (sq (rg (mv (ag (nl (th (bk ?_))))))))))))))
    have hI2_0:0≤(i:Int)∧(i:Int)<(q.length:Int)∧([]:List Int)++upF (q.map toMt) (i+1) (i:Int).toNat=upF (q.map toMt) (i+1) i∧(i:Int).toNat<(i+1)∧([]:List Int).length+(i:Int).toNat≤i:=by
     exact⟨O,O,by rw[Int.toNat_natCast];rfl,O,by simp⟩
    refine lp (κ:=Nat × Int × Value × (List Int)) (fun p=> [(3,ptr 3 b3 0),(4,ptr 4 b4 0),(5,ptr 5 b5 0),(9,mpv 21 b21),(10,osl 25 v),(11,int (i:Int)),(12,ptr 12 b12 0),(13,int (offE (ix x.sT (ix q i).x.toNat))),(15,int (ix (ix s.sT (ix q i).s.toNat).aP k1)),(16,osl 16 p.2.2.1),(17,int p.2.1),(50,sl 1 nE (ix s.sT (ix q i).s.toNat).aP),(51,int ((ix s.sT (ix q i).s.toNat).aP.length:Int)),(52,int (k1:Int))]) (fun p=> [(3,cell b3 [sl 1 rE_ x.aC,sl 1 gE x.sT]),(4,cell b4 [sl 1 rE_ t.aC,sl 2 sE t.sT]),(5,cell b5 [sl 1 rE_ s.aC,sl 2 sE s.sT]),(12,cell b12 [int (ix q i).x,int (ix q i).t,int (ix q i).s]),(16,own p.2.2.1 3 1 nE p.2.2.2),(21,mp b21 triV triD blV mm),(25,own v 164 5 met5 q)]) (fun p=>0≤p.2.1∧p.2.1<(q.length:Int)∧p.2.2.2++upF (q.map toMt) p.1 p.2.1.toNat=upF (q.map toMt) (i+1) i∧p.2.1.toNat<p.1∧p.2.2.2.length+p.2.1.toNat≤i) (fun p=>p.2.1.toNat) ⟨i+1,(i:Int),(.slice none 0 0),([]:List Int)⟩ hI2_0 ⟨id,id,id,id,id,id,id,id,id,id,id,id,id,id,tV⟩ ⟨rI,rI,rI,rI,rI,rI,rI,tV⟩ ?_
    intro⟨n,j,v16,out⟩ hG2
    obtain⟨hj0,hjl,hou,hjn,hol⟩:0≤j∧j<(q.length:Int)∧out++upF (q.map toMt) n j.toNat=upF (q.map toMt) (i+1) i∧j.toNat<n∧out.length+j.toNat≤i:=hG2
    show Ct _ _ _ _ [(3,ptr 3 b3 0),(4,ptr 4 b4 0),(5,ptr 5 b5 0),(9,mpv 21 b21),(10,osl 25 v),(11,int (i:Int)),(12,ptr 12 b12 0),(13,int (offE (ix x.sT (ix q i).x.toNat))),(15,int (ix (ix s.sT (ix q i).s.toNat).aP k1)),(16,osl 16 v16),(17,int j),(50,sl 1 nE (ix s.sT (ix q i).s.toNat).aP),(51,int ((ix s.sT (ix q i).s.toNat).aP.length:Int)),(52,int (k1:Int))] [(3,cell b3 [sl 1 rE_ x.aC,sl 1 gE x.sT]),(4,cell b4 [sl 1 rE_ t.aC,sl 2 sE t.sT]),(5,cell b5 [sl 1 rE_ s.aC,sl 2 sE s.sT]),(12,cell b12 [int (ix q i).x,int (ix q i).t,int (ix q i).s]),(16,own v16 3 1 nE out),(21,mp b21 triV triD blV mm),(25,own v 164 5 met5 q)] _
    have hjm:ix (q.map toMt) j.toNat=toMt (ix q j.toNat):=ix_toMt O
    have hbk:0≤(ix q j.toNat).before→(ix q j.toNat).before<((j.toNat:Nat):Int):=by
     have h:=qf_back hq j.toNat (by simp;omega)
     rw[hjm] at h;exact h
    refine sq (sq (rg (mv (mv (iO J J J T.sl165 O O (fO J T.fld164_1 (lO J J gB J T.one3 (bi J J b_geq (nl (th ?_))))))))))
    refine cd J (fun hc3=> ?_) (fun hc3=> ?_)
    ·try simp at hc3
     refine sk (th (sq (bk (rg (mv (mv (mv (iO J J J T.sl165 O O (fO J T.fld164_2 (lO J J gB J T.one3 (bsE (enc:=nE) (xs:= [(ix q j.toNat).action]) (css:= [[int (ix q j.toNat).action]]) T.mk63 ⟨J,J,p1 (φ:=int (ix q j.toNat).action) J,tV⟩ J J J J (ap (key:=16) (zs:= [(ix q j.toNat).action]) osl_eq J J J T.mk63 (by unfold maxL at*;simp;omega) (by unfold maxL at*;simp;omega) fun v86=>(ag (nl (eb (th (rg (mv (mv (iO J J J T.sl165 O O (fO J T.fld164_1 (lO J J gB J T.one3 (ag (nl ?_))))))))))))))))))))))))
     have hN0:0≤(ix q j.toNat).before∧(ix q j.toNat).before<(q.length:Int)∧(out++ [(ix q j.toNat).action])++upF (q.map toMt) (n- 1) (ix q j.toNat).before.toNat=upF (q.map toMt) (i+1) i∧(ix q j.toNat).before.toNat<(n- 1)∧(out++ [(ix q j.toNat).action]).length+(ix q j.toNat).before.toNat≤i:=by
      have hbk2:=hbk hc3
      have hup:=upF_up hou hjn (by rw[hjm];exact hc3)
      rw[hjm] at hup
      exact⟨hc3,O,hup,O,by simp;omega⟩
     exact ln (⟨n- 1,(ix q j.toNat).before,v86,out++ [(ix q j.toNat).action]⟩:Nat × Int × Value × (List Int)) hN0 (by have hbk2:=hbk hc3;show(ix q j.toNat).before.toNat<j.toNat;omega) ⟨id,id,id,id,id,id,id,id,id,id,id,id,id,id,tV⟩ ⟨rI,rI,rI,rI,rI,rI,rI,tV⟩
    ·try simp at hc3
     have hwd:=upF_top hou hjn (by rw[hjm];show ¬0≤(ix q j.toNat).before;omega)
     refine ex (xt_ (xt_ (xb (th (sq (rg (mv (cal (Hi:= [(16,own v16 3 1 nE out)]) (φs:= [osl 5 v16]) ⟨osl_is.trans osl_is.symm,tV⟩ (rekeyIO 5 16 (judg.Reverse_ok v16 out O)) T.ent116 ⟨rI,tV⟩ fun _ _=>(nl (th (sq (rg (mv (mv (ag (ag (ag (nl (th (rt (rb (rt_ (rt_ (rb (rt_ (rb (rt_ (rt_ (rb (rt_ ?_))))))))))))))))))))))))))))))
     refine fzA 16 6 rfl rfl ?_
     exact rE ⟨(out.reverse,ix (ix s.sT (ix q i).s.toNat).aP k1,true),⟨fun h=>(nomatch (show true=false from h)),fun _=>⟨q,i,hq,hc0,by rw[hwd];rfl,ix_memS hc1,hbad⟩⟩⟩ [.tmp 6,.tmp 7,.tmp 8] J [sl 1 nE out.reverse,int (ix (ix s.sT (ix q i).s.toNat).aP k1),bl true] ⟨.tmp J,.tmp J,.tmp J,tV⟩ J trivial eX
   ·skip
    have hgood:andI (offM x (ix q i).x.toNat) (ix (ix s.sT (ix q i).s.toNat).aP k1)∈acc t (ix q i).t.toNat:=by unfold andI;simpa using hc2
    refine sk (eb (th (rg (bi J J (b_add i6) (mv (nl ?_))))))
    have hN0:(k1+1)≤(ix s.sT (ix q i).s.toNat).aP.length:=by
     first|omega|simp_all
    have hN1:∀j,j<(k1+1)→andI (offM x (ix q i).x.toNat) (ix (ix s.sT (ix q i).s.toNat).aP j)∈acc t (ix q i).t.toNat:=by
     intro j hj
     by_cases g:j=k1
     ·subst g;exact hgood
     ·exact hI1 j O
    exact ln (k1+1) ⟨hN0,hN1⟩ dO ⟨id,id,id,id,id,id,id,id,id,id,id,tV⟩ ⟨rI,rI,rI,rI,rI,rI,tV⟩
  ·try simp at hc1
   have hnb:¬Bad3 x t s (tri (ix q i)):=by
    rintro⟨o,ho,hn⟩
    obtain⟨j,hj,rfl⟩:=List.getElem_of_mem ho
    have h9:j<(ix s.sT (ix q i).s.toNat).aP.length:=hj
    have h8:=hI1 j O
    rw[ix_get h9] at h8
    exact hn h8
   refine ex (xt_ (xt_ (xb (th (sq (rg (fP J T.fld38_1 (lP J J J T.one36 (fP J T.fld139_0 (lP J J J T.one3 (iF J J T.sl36 O gB (lF J J T.one88 (fc (slenI 97 J) fun hm97=>(lnF J T.sl88 (mv (nl (th (bk ?_))))))))))))))))))
   have hI3_0:0≤(ix x.sT (ix q i).x.toNat).length:=by
    first|omega|simp
   have hI3_1:MidF x t s q i 0 q mm:=by
    exact midf_zero hq hsm hdone
   refine lp (κ:=Nat × Value × (List M5) × (List ((Int × Int × Int) × Bool))) (fun p=> [(3,ptr 3 b3 0),(4,ptr 4 b4 0),(5,ptr 5 b5 0),(9,mpv 21 b21),(10,osl 25 p.2.1),(11,int (i:Int)),(12,ptr 12 b12 0),(97,sl 2 pE (ix x.sT (ix q i).x.toNat)),(98,int ((ix x.sT (ix q i).x.toNat).length:Int)),(99,int (p.1:Int))]) (fun p=> [(3,cell b3 [sl 1 rE_ x.aC,sl 1 gE x.sT]),(4,cell b4 [sl 1 rE_ t.aC,sl 2 sE t.sT]),(5,cell b5 [sl 1 rE_ s.aC,sl 2 sE s.sT]),(12,cell b12 [int (ix q i).x,int (ix q i).t,int (ix q i).s]),(21,mp b21 triV triD blV p.2.2.2),(25,own p.2.1 164 5 met5 p.2.2.1)]) (fun p=>(p.1≤(ix x.sT (ix q i).x.toNat).length)∧(MidF x t s q i p.1 p.2.2.1 p.2.2.2)) (fun p=>(ix x.sT (ix q i).x.toNat).length- p.1) ⟨0,v,q,mm⟩ ⟨hI3_0,hI3_1⟩ ⟨id,id,id,id,id,id,id,id,id,id,tV⟩ ⟨rI,rI,rI,rI,rI,rI,tV⟩ ?_
   intro⟨k3,v2,q2,mm2⟩ hG3
   obtain⟨hk3,hI3⟩:(k3≤(ix x.sT (ix q i).x.toNat).length)∧(MidF x t s q i k3 q2 mm2):=hG3
   show Ct _ _ _ _ [(3,ptr 3 b3 0),(4,ptr 4 b4 0),(5,ptr 5 b5 0),(9,mpv 21 b21),(10,osl 25 v2),(11,int (i:Int)),(12,ptr 12 b12 0),(97,sl 2 pE (ix x.sT (ix q i).x.toNat)),(98,int ((ix x.sT (ix q i).x.toNat).length:Int)),(99,int (k3:Int))] [(3,cell b3 [sl 1 rE_ x.aC,sl 1 gE x.sT]),(4,cell b4 [sl 1 rE_ t.aC,sl 2 sE t.sT]),(5,cell b5 [sl 1 rE_ s.aC,sl 2 sE s.sT]),(12,cell b12 [int (ix q i).x,int (ix q i).t,int (ix q i).s]),(21,mp b21 triV triD blV mm2),(25,own v2 164 5 met5 q2)] _
   have hq2l:=qf_len hx ht hs hu hxa hI3.qi
   refine sq (rg (bi J J b_lss (nl (th (sq ?_)))))
   refine cd J (fun hc4=> ?_) (fun hc4=> ?_)
   ·try simp at hc4
    have hed:0≤(ix (ix x.sT (ix q i).x.toNat) k3).1∧(ix (ix x.sT (ix q i).x.toNat) k3).1<(x.aC.length:Int)∧0≤(ix (ix x.sT (ix q i).x.toNat) k3).2∧(ix (ix x.sT (ix q i).x.toNat) k3).2<(x.sT.length:Int):=hx.ed (ix q i).x.toNat O _ (ix_memS hc4)
    have htn:=hst.nx (ix (ix x.sT (ix q i).x.toNat) k3).1.toNat O
    have hsn:=hss.nx (ix (ix x.sT (ix q i).x.toNat) k3).1.toNat O
    refine sk (th (sq (bk (sq (rg (iF J J T.sl88 O gB (lFA J T.agg94 (Nat.le_of_ble_eq_true J) (al (key:=19) T.z94 (eC (eC eZ)) fun b19=>(sPA (cs':= [int ((ix (ix x.sT (ix q i).x.toNat) k3).1),int ((ix (ix x.sT (ix q i).x.toNat) k3).2)]) J J J T.agg94 J J (nl (th (sq ?_))))))))))))
    refine drH (nh:=27) [0,1,0,4,0,16,60,124,252,0,512,2044,4092,0,8192,0,32768,122880,253952,516096,0,1048576,4186112,8380416,16777215,0,67108863] [(none,[]),(none,[19]),(none,[]),(none,[4]),(none,[]),(none,[12]),(none,[]),(none,[]),(none,[]),(none,[]),(none,[19]),(none,[]),(none,[]),(none,[]),(none,[5]),(none,[]),(none,[12]),(none,[]),(none,[]),(none,[]),(none,[]),(none,[19]),(none,[]),(none,[]),(none,[]),(some 20,[]),(some 20,[20])] T.mixed kR kR ?_
    refine stv (d:=103) (fun β0=>ptr 19 b19 1) [] J (fun β β' hb=>J) (fun β0 _ _ _ _ gq gh kq=>fP (gq.1.trans J) T.fld94_1 kq) ?_
    refine stv (d:=104) (fun β0=>int ((ix (ix x.sT (ix q i).x.toNat) k3).2)) [19] J (fun β β' hb=>J) (fun β0 _ _ _ _ gq gh kq=>lP (gq.1.trans J) (gh.1.trans J) J T.one3 kq) ?_
    refine stv (d:=105) (fun β0=>ptr 4 b4 1) [] J (fun β β' hb=>J) (fun β0 _ _ _ _ gq gh kq=>fP (gq.1.trans J) T.fld25_1 kq) ?_
    refine stv (d:=106) (fun β0=>sl 2 sE t.sT) [4] J (fun β β' hb=>J) (fun β0 _ _ _ _ gq gh kq=>lP (gq.1.trans J) (gh.1.trans J) J T.one23 kq) ?_
    refine stv (d:=107) (fun β0=>ptr 12 b12 1) [] J (fun β β' hb=>J) (fun β0 _ _ _ _ gq gh kq=>fP (gq.1.trans J) T.fld139_1 kq) ?_
    refine stv (d:=108) (fun β0=>int (ix q i).t) [12] J (fun β β' hb=>J) (fun β0 _ _ _ _ gq gh kq=>lP (gq.1.trans J) (gh.1.trans J) J T.one3 kq) ?_
    refine stv (d:=109) (fun β0=>fp [sl 1 nE (ix t.sT (ix q i).t.toNat).aP,sl 1 nE (ix t.sT (ix q i).t.toNat).next]) [] J (fun β β' hb=>J) (fun β0 _ _ _ _ gq gh kq=>iF (gq.1.trans J) (gq.2.1.trans J) T.sl23 O gB kq) ?_
    refine stv (d:=110) (fun β0=>fp [sl 1 nE (ix t.sT (ix q i).t.toNat).next]) [] J (fun β β' hb=>J) (fun β0 _ _ _ _ gq gh kq=>fF (gq.1.trans J) T.fld72_1 kq) ?_
    refine stv (d:=111) (fun β0=>sl 1 nE (ix t.sT (ix q i).t.toNat).next) [] J (fun β β' hb=>J) (fun β0 _ _ _ _ gq gh kq=>lF (gq.1.trans J) J T.one63 kq) ?_
    refine stv (d:=112) (fun β0=>ptr 19 b19 0) [] J (fun β β' hb=>J) (fun β0 _ _ _ _ gq gh kq=>fP (gq.1.trans J) T.fld94_0 kq) ?_
    refine stv (d:=113) (fun β0=>int ((ix (ix x.sT (ix q i).x.toNat) k3).1)) [19] J (fun β β' hb=>J) (fun β0 _ _ _ _ gq gh kq=>lP (gq.1.trans J) (gh.1.trans J) J T.one3 kq) ?_
    refine stv (d:=114) (fun β0=>fp [int (ix (ix t.sT (ix q i).t.toNat).next ((ix (ix x.sT (ix q i).x.toNat) k3).1).toNat)]) [] J (fun β β' hb=>J) (fun β0 _ _ _ _ gq gh kq=>iF (gq.1.trans J) (gq.2.1.trans J) T.sl63 O gB kq) ?_
    refine stv (d:=115) (fun β0=>int (ix (ix t.sT (ix q i).t.toNat).next ((ix (ix x.sT (ix q i).x.toNat) k3).1).toNat)) [] J (fun β β' hb=>J) (fun β0 _ _ _ _ gq gh kq=>lF (gq.1.trans J) J T.one3 kq) ?_
    refine stv (d:=116) (fun β0=>ptr 5 b5 1) [] J (fun β β' hb=>J) (fun β0 _ _ _ _ gq gh kq=>fP (gq.1.trans J) T.fld25_1 kq) ?_
    refine stv (d:=117) (fun β0=>sl 2 sE s.sT) [5] J (fun β β' hb=>J) (fun β0 _ _ _ _ gq gh kq=>lP (gq.1.trans J) (gh.1.trans J) J T.one23 kq) ?_
    refine stv (d:=118) (fun β0=>ptr 12 b12 2) [] J (fun β β' hb=>J) (fun β0 _ _ _ _ gq gh kq=>fP (gq.1.trans J) T.fld139_2 kq) ?_
    refine stv (d:=119) (fun β0=>int (ix q i).s) [12] J (fun β β' hb=>J) (fun β0 _ _ _ _ gq gh kq=>lP (gq.1.trans J) (gh.1.trans J) J T.one3 kq) ?_
    refine stv (d:=120) (fun β0=>fp [sl 1 nE (ix s.sT (ix q i).s.toNat).aP,sl 1 nE (ix s.sT (ix q i).s.toNat).next]) [] J (fun β β' hb=>J) (fun β0 _ _ _ _ gq gh kq=>iF (gq.1.trans J) (gq.2.1.trans J) T.sl23 O gB kq) ?_
    refine stv (d:=121) (fun β0=>fp [sl 1 nE (ix s.sT (ix q i).s.toNat).next]) [] J (fun β β' hb=>J) (fun β0 _ _ _ _ gq gh kq=>fF (gq.1.trans J) T.fld72_1 kq) ?_
    refine stv (d:=122) (fun β0=>sl 1 nE (ix s.sT (ix q i).s.toNat).next) [] J (fun β β' hb=>J) (fun β0 _ _ _ _ gq gh kq=>lF (gq.1.trans J) J T.one63 kq) ?_
    refine stv (d:=123) (fun β0=>ptr 19 b19 0) [] J (fun β β' hb=>J) (fun β0 _ _ _ _ gq gh kq=>fP (gq.1.trans J) T.fld94_0 kq) ?_
    refine stv (d:=124) (fun β0=>int ((ix (ix x.sT (ix q i).x.toNat) k3).1)) [19] J (fun β β' hb=>J) (fun β0 _ _ _ _ gq gh kq=>lP (gq.1.trans J) (gh.1.trans J) J T.one3 kq) ?_
    refine stv (d:=125) (fun β0=>fp [int (ix (ix s.sT (ix q i).s.toNat).next ((ix (ix x.sT (ix q i).x.toNat) k3).1).toNat)]) [] J (fun β β' hb=>J) (fun β0 _ _ _ _ gq gh kq=>iF (gq.1.trans J) (gq.2.1.trans J) T.sl63 O gB kq) ?_
    refine stv (d:=126) (fun β0=>int (ix (ix s.sT (ix q i).s.toNat).next ((ix (ix x.sT (ix q i).x.toNat) k3).1).toNat)) [] J (fun β β' hb=>J) (fun β0 _ _ _ _ gq gh kq=>lF (gq.1.trans J) J T.one3 kq) ?_
    refine stv (d:=127) (fun β0=>agg [int ((ix (ix x.sT (ix q i).x.toNat) k3).2),int (ix (ix t.sT (ix q i).t.toNat).next ((ix (ix x.sT (ix q i).x.toNat) k3).1).toNat),int (ix (ix s.sT (ix q i).s.toNat).next ((ix (ix x.sT (ix q i).x.toNat) k3).1).toNat)]) [] J (fun β β' hb=>J) (fun β0 _ _ _ _ gq gh kq=>bd (css:= [(0,_),(1,_),(2,_)]) T.st139 (eC (eC (eC eZ))) ⟨J,J,p1 (φ:=int ((ix (ix x.sT (ix q i).x.toNat) k3).2)) (by exact(gq.1.trans J)),⟨J,J,p1 (φ:=int (ix (ix t.sT (ix q i).t.toNat).next ((ix (ix x.sT (ix q i).x.toNat) k3).1).toNat)) (by exact(gq.2.1.trans J)),⟨J,J,p1 (φ:=int (ix (ix s.sT (ix q i).s.toNat).next ((ix (ix x.sT (ix q i).x.toNat) k3).1).toNat)) (by exact(gq.2.2.1.trans J)),tV⟩⟩⟩ kq) ?_
    refine sta 20 T.z139 (eC (eC (eC eZ))) ?_
    refine stw 20 (fun β0=>cell (gbk (β0 25)) [int ((ix (ix x.sT (ix q i).x.toNat) k3).2),int (ix (ix t.sT (ix q i).t.toNat).next ((ix (ix x.sT (ix q i).x.toNat) k3).1).toNat),int (ix (ix s.sT (ix q i).s.toNat).next ((ix (ix x.sT (ix q i).x.toNat) k3).1).toNat)]) [20] J (fun β β' hb=>by first|rw[hb 25 J]|(dsimp only;rw[hb 25 J])) (fun β0 _ _ _ _ gq gh kq=>sPA (cs':= [int ((ix (ix x.sT (ix q i).x.toNat) k3).2),int (ix (ix t.sT (ix q i).t.toNat).next ((ix (ix x.sT (ix q i).x.toNat) k3).1).toNat),int (ix (ix s.sT (ix q i).s.toNat).next ((ix (ix x.sT (ix q i).x.toNat) k3).1).toNat)]) (gq.1.trans J) (gh.1.trans J) (gq.2.1.trans J) T.agg139 J J kq) ?_
    refine pnH fun β0=>(nl (th (sq (rg (fP J T.fld139_2 (lP J J J T.one3 (bi J J b_geq (mv ?_))))))))
    apply gAnd (t:=131) (pd:=136) rfl
    rotate_left
    ·intro hg0 fin
     have hg0':=hg0
     try simp at hg0'
     exact gy J J J hg0 (mv (gy J J J hg0 (lPA J J T.agg139 J (gy J J J hg0 (lookup (z:=false) (q:=((ix (ix x.sT (ix q i).x.toNat) k3).2,ix (ix t.sT (ix q i).t.toNat).next ((ix (ix x.sT (ix q i).x.toNat) k3).1).toNat,ix (ix s.sT (ix q i).s.toNat).next ((ix (ix x.sT (ix q i).x.toNat) k3).1).toNat)) J J agg_tri T.map140 (tri_dom ⟨O,O⟩ ⟨O,O⟩ ⟨O,O⟩) T.zvb4 (gy J J J hg0 (no J (pkT J hg0 J (drp (X:= [(135,_),(134,_),(133,_),(132,_)]) ⟨J,J,J,J,tV⟩ fin)))))))))
    ·intro hg0 fin
     exact gn J J J hg0 J J (gn J J J hg0 J J (gn J J J hg0 J J (gn J J J hg0 J J (pkF J hg0 J (drp (X:= [(135,_),(134,_),(133,_),(132,_)]) ⟨J,J,J,J,tV⟩ fin)))))
    refine nl (th ?_)
    refine cd J (fun hc5=> ?_) (fun hc5=> ?_)
    ·try simp at hc5
     refine sq (rg (mv (lPA J J T.agg139 J (mapUpdate (q:=((ix (ix x.sT (ix q i).x.toNat) k3).2,ix (ix t.sT (ix q i).t.toNat).next ((ix (ix x.sT (ix q i).x.toNat) k3).1).toNat,ix (ix s.sT (ix q i).s.toNat).next ((ix (ix x.sT (ix q i).x.toNat) k3).1).toNat)) (u:=true) J J agg_tri J T.map140 (tri_dom ⟨O,O⟩ ⟨O,O⟩ ⟨O,O⟩) (nl (th (rg (mv (lPA J J T.agg139 J (mv (fP J T.fld94_0 (lP J J J T.one3 (bd (css:= [(0,_),(3,_),(4,_)]) T.st164 (eC (eC (eC (eC (eC eZ))))) ⟨J,J,pA (cs:= [int ((ix (ix x.sT (ix q i).x.toNat) k3).2),int (ix (ix t.sT (ix q i).t.toNat).next ((ix (ix x.sT (ix q i).x.toNat) k3).1).toNat),int (ix (ix s.sT (ix q i).s.toNat).next ((ix (ix x.sT (ix q i).x.toNat) k3).1).toNat)]) J,⟨J,J,p1 (φ:=int (i:Int)) J,⟨J,J,p1 (φ:=int ((ix (ix x.sT (ix q i).x.toNat) k3).1)) J,tV⟩⟩⟩ (bsE (enc:=met5) (xs:= [⟨((ix (ix x.sT (ix q i).x.toNat) k3).2),(ix (ix t.sT (ix q i).t.toNat).next ((ix (ix x.sT (ix q i).x.toNat) k3).1).toNat),(ix (ix s.sT (ix q i).s.toNat).next ((ix (ix x.sT (ix q i).x.toNat) k3).1).toNat),(i:Int),((ix (ix x.sT (ix q i).x.toNat) k3).1)⟩]) (css:= [[int ((ix (ix x.sT (ix q i).x.toNat) k3).2),int (ix (ix t.sT (ix q i).t.toNat).next ((ix (ix x.sT (ix q i).x.toNat) k3).1).toNat),int (ix (ix s.sT (ix q i).s.toNat).next ((ix (ix x.sT (ix q i).x.toNat) k3).1).toNat),int (i:Int),int ((ix (ix x.sT (ix q i).x.toNat) k3).1)]]) T.mk165 ⟨J,J,pA (cs:= [int ((ix (ix x.sT (ix q i).x.toNat) k3).2),int (ix (ix t.sT (ix q i).t.toNat).next ((ix (ix x.sT (ix q i).x.toNat) k3).1).toNat),int (ix (ix s.sT (ix q i).s.toNat).next ((ix (ix x.sT (ix q i).x.toNat) k3).1).toNat),int (i:Int),int ((ix (ix x.sT (ix q i).x.toNat) k3).1)]) J,tV⟩ J J J J (ap (key:=25) (zs:= [⟨((ix (ix x.sT (ix q i).x.toNat) k3).2),(ix (ix t.sT (ix q i).t.toNat).next ((ix (ix x.sT (ix q i).x.toNat) k3).1).toNat),(ix (ix s.sT (ix q i).s.toNat).next ((ix (ix x.sT (ix q i).x.toNat) k3).1).toNat),(i:Int),((ix (ix x.sT (ix q i).x.toNat) k3).1)⟩]) osl_eq J J J T.mk165 (by unfold maxL at*;simp;omega) (by unfold maxL at*;simp;omega) fun v146=>(ag (nl (eb (th (rg (bi J J (b_add i6) (mv (nl ?_)))))))))))))))))))))))
     have hN0:(k3+1)≤(ix x.sT (ix q i).x.toNat).length:=by
      first|omega|simp_all
     have hN1:MidF x t s q i (k3+1) (q2++ [⟨((ix (ix x.sT (ix q i).x.toNat) k3).2),(ix (ix t.sT (ix q i).t.toNat).next ((ix (ix x.sT (ix q i).x.toNat) k3).1).toNat),(ix (ix s.sT (ix q i).s.toNat).next ((ix (ix x.sT (ix q i).x.toNat) k3).1).toNat),(i:Int),((ix (ix x.sT (ix q i).x.toNat) k3).1)⟩]) (mset mm2 ((ix (ix x.sT (ix q i).x.toNat) k3).2,ix (ix t.sT (ix q i).t.toNat).next ((ix (ix x.sT (ix q i).x.toNat) k3).1).toNat,ix (ix s.sT (ix q i).s.toNat).next ((ix (ix x.sT (ix q i).x.toNat) k3).1).toNat) true):=by
      exact midf_push hI3 hc0 hnb hc4 rfl hc5.1 hc5.2
     exact ln (⟨k3+1,v146,q2++ [⟨((ix (ix x.sT (ix q i).x.toNat) k3).2),(ix (ix t.sT (ix q i).t.toNat).next ((ix (ix x.sT (ix q i).x.toNat) k3).1).toNat),(ix (ix s.sT (ix q i).s.toNat).next ((ix (ix x.sT (ix q i).x.toNat) k3).1).toNat),(i:Int),((ix (ix x.sT (ix q i).x.toNat) k3).1)⟩],mset mm2 ((ix (ix x.sT (ix q i).x.toNat) k3).2,ix (ix t.sT (ix q i).t.toNat).next ((ix (ix x.sT (ix q i).x.toNat) k3).1).toNat,ix (ix s.sT (ix q i).s.toNat).next ((ix (ix x.sT (ix q i).x.toNat) k3).1).toNat) true⟩:Nat × Value × (List M5) × (List ((Int × Int × Int) × Bool))) ⟨hN0,hN1⟩ dO ⟨id,id,id,id,id,id,id,id,id,id,tV⟩ ⟨rI,rI,rI,rI,rI,rI,tV⟩
    ·try simp at hc5
     have h5:ix (nxt s (ix q i).s.toNat) (ix (ix x.sT (ix q i).x.toNat) k3).1.toNat<0∨(mget mm2 (nx3 t s (tri (ix q i)) (ix (ix x.sT (ix q i).x.toNat) k3))).getD false=true:=by
      by_cases g:0≤ix (nxt s (ix q i).s.toNat) (ix (ix x.sT (ix q i).x.toNat) k3).1.toNat
      ·exact .inr (hc5 g)
      ·exact .inl O
     refine sk (eb (th (rg (bi J J (b_add i6) (mv (nl ?_))))))
     have hN0:(k3+1)≤(ix x.sT (ix q i).x.toNat).length:=by
      first|omega|simp_all
     have hN1:MidF x t s q i (k3+1) q2 mm2:=by
      exact midf_skip hI3 hc4 rfl h5
     exact ln (⟨k3+1,v2,q2,mm2⟩:Nat × Value × (List M5) × (List ((Int × Int × Int) × Bool))) ⟨hN0,hN1⟩ dO ⟨id,id,id,id,id,id,id,id,id,id,tV⟩ ⟨rI,rI,rI,rI,rI,rI,tV⟩
   ·try simp at hc4
    refine ex (xt_ (xt_ (xb (eb (th (rg (mv (bi J J (b_add i6) (ag (nl ?_))))))))))
    have hN0:QF x t s q2∧smap3 mm2 (q2.map tri)∧(i+1)≤q2.length∧∀j,j<(i+1)→DoneF x t s q2 j:=by
     exact midf_end hI3 hc0 hnb (by show(ix x.sT (ix q i).x.toNat).length≤k3;omega)
    exact ln (⟨i+1,v2,q2,mm2⟩:Nat × Value × (List M5) × (List ((Int × Int × Int) × Bool))) hN0 dO ⟨id,id,id,id,id,id,tV⟩ ⟨rI,rI,rI,rI,rI,tV⟩
 ·try simp at hc0
  refine ex (xt_ (xt_ (xb (th (sq (rg (ag (ag (ag (nl (th (rt ?_))))))))))))
  refine knA 6 (sl 1 nE []) rfl slnil ?_
  exact rE ⟨([],0,false),⟨fun _=>⟨J,J,fail_none hq (fun k hk=>hdone k O)⟩,fun h=>(nomatch (show false=true from h))⟩⟩ [.tmp 6,.tmp 7,.tmp 8] J [sl 1 nE [],int 0,bl false] ⟨.tmp J,.tmp J,.tmp J,tV⟩ J trivial eX
theorem judge_ok (x:SSys) (t s:SS) (hx:okSys x) (ht:oK t) (hs:oK s) (hts:t.aC=s.aC) (hxt:x.aC=t.aC) (hz:x.sT.length*(t.sT.length*s.sT.length)≤1000000000):
 AL.Fn Tryz.prog 57 [sys x,spec t,spec s] [] (ι:= { v:Bool × SSys//JdgOK x t s v }) (fun _ i=>agg [bl i.1.1,strs i.1.2.aC,sl 1 gE i.1.2.sT]) (fun _=> []):=by
 refine fnI Tryz.func57 rfl rfl (fun w0 F0=> ?_)
 have hop:=ordS_pos s
 refine fcC (inhS 0 J) (fun hS0=> ?_)
 obtain⟨hma0,hms0,hme0⟩:=sys_lens hS0
 refine fcC (inhS 1 J) (fun hS1=> ?_)
 obtain⟨hsa1,hss1,hse1⟩:=sLn hS1
 refine fcC (inhS 2 J) (fun hS2=> ?_)
 obtain⟨hsa2,hss2,hse2⟩:=sLn hS2
 refine sq (rg (bx (key:=3) (cs:= [sl 1 rE_ x.aC,sl 1 gE x.sT]) J fun b3=>(bx (key:=4) (cs:= [sl 1 rE_ t.aC,sl 2 sE t.sT]) J fun b4=>(bx (key:=5) (cs:= [sl 1 rE_ s.aC,sl 2 sE s.sT]) J fun b5=>(al (key:=6) T.z49 (eC (eC (eC eZ))) fun b6=>(nl (th (sq (rg (lPA J J T.agg25 J (calW (φs:= [agg [sl 1 rE_ s.aC,sl 2 sE s.sT]]) (φ:=tup [agg [sl 1 rE_ ((tR s).1.aC),sl 2 sE ((tR s).1.sT)],sl 1 nE ((tR s).2)]) ⟨J,tV⟩ (prog9.Trimmed_ok s aS) T.ent80 (fun N hN=>fun h=>tup_le (cs:= [agg [fre N (sl 1 rE_ ((tR s).1.aC)),frb (ix (hOl s) 0) N (sl 2 sE ((tR s).1.sT))],sl 1 nE ((tR s).2)]) (ds:= [agg [sl 1 rE_ ((tR s).1.aC),sl 2 sE ((tR s).1.sT)],sl 1 nE ((tR s).2)]) ⟨fun h=>agg_le (cs:= [fre N (sl 1 rE_ ((tR s).1.aC)),frb (ix (hOl s) 0) N (sl 2 sE ((tR s).1.sT))]) (ds:= [sl 1 rE_ ((tR s).1.aC),sl 2 sE ((tR s).1.sT)]) ⟨fun h=>nw_le h,fun h=>frb_le h,tV⟩ h,fun h=>h,tV⟩ h) (mv (xt J J (xt J J (sPA (cs':= [sl 1 rE_ ((tR s).1.aC),sl 2 sE ((tR s).1.sT)]) J J J T.agg25 J J (ag (nl (th (sq (sq (rg (mv (fc (slenI 18 J) fun hm18=>(lnF J T.sl63 (bi J J b_eql (nl (th ?_)))))))))))))))))))))))))))
 refine cd J (fun hc0=> ?_) (fun hc0=> ?_)
 ·try simp at hc0
  have hh0:ix (hOl s) 0=true:=by
   cases h:ix (hOl s) 0 with
   |true=>rfl
   |false=>
    exfalso
    rw[trimmed_not h] at hc0
    have h3:=hop
    rw[show ordS s= [] from hc0] at h3
    simp at h3
  refine sq (rg (bd (css:= [(0,_)]) T.st49 (eC (eC (eC eZ))) ⟨J,J,p1 (φ:=bl true) J,tV⟩ (sPA (cs':= [bl true,eqv (.slice none 0 0),eqv (.slice none 0 0)]) J J J T.agg49 J J (nl (th (rt (rt_ ?_)))))))
  refine kncA 6 1 (sl 1 rE_ []) rfl rfl slnil ?_
  refine kncA 6 2 (sl 1 gE []) rfl rfl slnil ?_
  exact rE ⟨(true,⟨[],[]⟩),⟨fun _=>⟨J,.inl hh0⟩,fun h=>(nomatch (show true=false from h))⟩⟩ [.cell 6 49] J [agg [bl true,sl 1 rE_ [],sl 1 gE []]] ⟨.agg J J T.agg49 J J,tV⟩ J trivial eX
 ·try simp at hc0
  have h00:ix (hOl s) 0=false:=by
   cases h:ix (hOl s) 0 with
   |false=>rfl
   |true=>exact absurd (by rw[trimmed_hol h]) hc0
  have hts2:(tR s).1=tS s:=by rw[trimmed_not h00]
  have hto:=trim_ok hs
  have htu:=trim_used hs
  have hta:=trim_acts s
  have hxa:x.aC.length=(tR s).1.aC.length:=by rw[hta,hxt,hts]
  have hya:t.aC.length=(tR s).1.aC.length:=by rw[hta,hts]
  have htl:=TrimI.trim_len hs
  have hz2:x.sT.length*(t.sT.length*(tR s).1.sT.length)≤1000000000:=Nat.le_trans (Nat.mul_le_mul_left _ (Nat.mul_le_mul_left _ htl)) hz
  refine sk (th (sq (rg (lPA J J T.agg38 J (lPA J J T.agg25 J (lPA J J T.agg25 J (cl (divj.failure_ok x t ((tR s).1) aS aS aS aS aS aS aS) T.ent88 trivial fun N26 i26=>(mv (xt J J (xt J J (xt J J (ag (ag (ag (nl (th (sq (sq (rg (mv (no J (nl (th ?_)))))))))))))))))))))))
  refine cd J (fun hc1=> ?_) (fun hc1=> ?_)
  ·try simp at hc1
   have hno:i26.1.2.2=false:=by simpa using hc1
   refine sq (rg (bd (css:= [(0,_)]) T.st49 (eC (eC (eC eZ))) ⟨J,J,p1 (φ:=bl true) J,tV⟩ (sPA (cs':= [bl true,eqv (.slice none 0 0),eqv (.slice none 0 0)]) J J J T.agg49 J J (nl (th (rt (rt_ ?_)))))))
   refine kncA 6 1 (sl 1 rE_ []) rfl rfl slnil ?_
   refine kncA 6 2 (sl 1 gE []) rfl rfl slnil ?_
   exact rE ⟨(true,⟨[],[]⟩),⟨fun _=>⟨J,.inr (i26.2.none hno).2.2⟩,fun h=>(nomatch (show true=false from h))⟩⟩ [.cell 6 49] J [agg [bl true,sl 1 rE_ [],sl 1 gE []]] ⟨.agg J J T.agg49 J J,tV⟩ J trivial eX
  ·try simp at hc1
   have hyes:i26.1.2.2=true:=by simpa using hc1
   obtain⟨q,i,hqf,hi,hw,hacc,hbad⟩:=i26.2.some hyes
   have hruns:=qf_runs hx ht hto htu hxa hqf i hi
   have halive:=hruns.1.alive hto
   have hgo:=hruns.1.go hto
   have hql:=qf_len hx ht hto htu hxa hqf
   have hwl:=wordTo_len (qf_back hqf) i (by simpa using hi)
   have hal2:Alive (tR s).1 i26.1.1:=by rw[hw];exact halive
   have hwl2:i26.1.1.length≤1000000000:=by rw[hw];show(wordTo (q.map toMt) i).length≤_;omega
   have hwants:Wants (tR s).1 (pathL (tR s).1 i26.1.1 i26.1.2.1):=by
    rw[hw]
    exact⟨pathL_mem hto halive (by rw[hgo,Int.toNat_natCast];exact hacc),fun y hy=>by rw[hts2] at hy ⊢;exact tS_ne hs h00 hy,by rw[pathL_len];show(wordTo (q.map toMt) i).length+1≤_;omega⟩
   refine sk (th (sq (rg (lPA J J T.agg25 J (mv (mv (cal0 (φs:= [agg [sl 1 rE_ ((tR s).1.aC),sl 2 sE ((tR s).1.sT)],sl 1 nE i26.1.1,int i26.1.2.1]) (φ:=tup [sl 2 pE (pathL ((tR s).1) i26.1.1 i26.1.2.1),bl (decide (i26.1.2.1∈acc ((tR s).1) (goS ((tR s).1) i26.1.1).toNat))]) ⟨J,J,J,tV⟩ (judg.Path_ok ((tR s).1) aS i26.1.1 aS i26.1.2.1 O) T.ent89 (mv (xt J J (xt J J (ag (ag (nl (th (sq (rg (lPA J J T.agg25 J (mv (cl (wit.Witness_ok ((tR s).1) aS (pathL ((tR s).1) i26.1.1 i26.1.2.1) aS) T.ent85 trivial fun N42 i42=>(bd (css:= [(1,_)]) T.st49 (eC (eC (eC eZ))) ⟨J,J,pA (cs:= [fre N42 (sl 1 rE_ i42.1.aC),fre N42 (sl 1 gE i42.1.sT)]) J,tV⟩ (sPA (cs':= [bl false,fre N42 (sl 1 rE_ i42.1.aC),fre N42 (sl 1 gE i42.1.sT)]) J J J T.agg49 J J (nl (th (rt ?_))))))))))))))))))))))))
   refine kncA 6 1 (sl 1 rE_ i42.1.aC) rfl rfl nw_le ?_
   refine kncA 6 2 (sl 1 gE i42.1.sT) rfl rfl nw_le ?_
   exact rE ⟨(false,i42.1),⟨fun h=>(nomatch (show false=true from h)),fun _=>⟨h00,q,i,i26.1.2.1,by rw[←hts2];exact hqf,hi,by rw[←hts2];exact hacc,hbad,by rw[←hts2,←hw];exact i42.2⟩⟩⟩ [.cell 6 49] J [agg [bl false,sl 1 rE_ i42.1.aC,sl 1 gE i42.1.sT]] ⟨.agg J J T.agg49 J J,tV⟩ J trivial eX
theorem Fits_ok (x:SSys) (t s:SS) (htm:smallSpec t) (hsm:smallSpec s) (hz:x.sT.length*(t.sT.length*s.sT.length)≤1000000000):
 AL.Fn Tryz.prog 25 [sys x,spec t,spec s] [] (ι:= { v:Bool × SSys//(fineX x t s≠0→v=(false,⟨[],[]⟩))∧(fineX x t s=0→JdgOK x t s v) }) (fun _ i=>tup [agg [bl i.1.1,strs i.1.2.aC,sl 1 gE i.1.2.sT],int (fineX x t s)]) (fun _=> []):=by
 refine fnI Tryz.func25 rfl rfl (fun w0 F0=> ?_)
 refine fcC (inhS 0 J) (fun hS0=> ?_)
 obtain⟨hma0,hms0,hme0⟩:=sys_lens hS0
 refine fcC (inhS 1 J) (fun hS1=> ?_)
 obtain⟨hsa1,hss1,hse1⟩:=sLn hS1
 refine fcC (inhS 2 J) (fun hS2=> ?_)
 obtain⟨hsa2,hss2,hse2⟩:=sLn hS2
 refine sq (rg (bx (key:=3) (cs:= [sl 1 rE_ x.aC,sl 1 gE x.sT]) J fun b3=>(bx (key:=4) (cs:= [sl 1 rE_ t.aC,sl 2 sE t.sT]) J fun b4=>(bx (key:=5) (cs:= [sl 1 rE_ s.aC,sl 2 sE s.sT]) J fun b5=>(al (key:=6) T.z49 (eC (eC (eC eZ))) fun b6=>(ag (nl (th (sq (sq (rg (lPA J J T.agg38 J (lPA J J T.agg25 J (lPA J J T.agg25 J (cal0 (φs:= [agg [sl 1 rE_ x.aC,sl 1 gE x.sT],agg [sl 1 rE_ t.aC,sl 2 sE t.sT],agg [sl 1 rE_ s.aC,sl 2 sE s.sT]]) (φ:=int (fineX x t s)) ⟨J,J,J,tV⟩ (divv.fine_ok x t s aS aS) T.ent56 (ag (nl (th (sq (rg (mv (bi J J b_neq (nl (th ?_))))))))))))))))))))))))
 refine cd J (fun hc0=> ?_) (fun hc0=> ?_)
 ·try simp at hc0
  refine sq (rg (bd (css:= []) T.st49 (eC (eC (eC eZ))) trivial (mv (sPA (cs':= [bl false,eqv (.slice none 0 0),eqv (.slice none 0 0)]) J J J T.agg49 J J (ag (nl (th (rt (rt_ ?_)))))))))
  refine kncA 6 1 (sl 1 rE_ []) rfl rfl slnil ?_
  refine kncA 6 2 (sl 1 gE []) rfl rfl slnil ?_
  exact rE ⟨(false,⟨[],[]⟩),⟨fun _=>J,fun h=>absurd h hc0⟩⟩ [.cell 6 49,.tmp 7] J [agg [bl false,sl 1 rE_ [],sl 1 gE []],int (fineX x t s)] ⟨.agg J J T.agg49 J J,.tmp J,tV⟩ J trivial eX
 ·try simp at hc0
  obtain⟨hxv,htv,hsv,hxt,hts⟩:=fineX_ok hc0
  have hx:=sysOK_ok hxv
  have ht:=okSpec_of htv
  have hs:=okSpec_of hsv
  refine sk (th (sq (rg (lPA J J T.agg38 J (lPA J J T.agg25 J (lPA J J T.agg25 J (cl (divj.judge_ok x t s aS aS aS aS aS aS) T.ent57 trivial fun N20 i20=>(sPA (cs':= [bl i20.1.1,sl 1 rE_ i20.1.2.aC,sl 1 gE i20.1.2.sT]) J J J T.agg49 J J (ag (nl (th (rt ?_))))))))))))
  have hr0:(0:Int)=(fineX x t s):=by
   exact hc0.symm
  exact rE ⟨i20.1,⟨fun h=>absurd hc0 h,fun _=>i20.2⟩⟩ [.cell 6 49,.tmp 7] J [agg [bl i20.1.1,sl 1 rE_ i20.1.2.aC,sl 1 gE i20.1.2.sT],int 0] ⟨.agg J J T.agg49 J J,.tmp J,tV⟩ (cA1 (fun x0=>rV [agg [bl i20.1.1,sl 1 rE_ i20.1.2.aC,sl 1 gE i20.1.2.sT],int x0]) hr0) trivial eX
end divj
end
section
open ref01 ref03 ref04 ref06 prog prog2 prog3 prog4 prog6 prog13 Part Rungs LeftM TrimM RoundM MergeM BisM BisM4 BisM5 WalkM StepM WitM JudgM JudgM2 refw judg wit refj sysw divr divs divd dive divg divw divv divf divc LevM LevM2 ChsM QuoM FailM DivM QuoW
theorem osl_raw {key:Nat} {x v:Value} {w:World} {F:Fz} (h:(osl key x).p w F v):(eqv x).p w F v:=by rw[osl_is] at h;exact h
theorem spot_le {p:Int × Int} {a b c:Int} (h:(a,b,c)=k3 p):([[int a,int b,int c]]:List (List AV))= [p].map spotE:=by
 show _= [spotE p]
 unfold spotE
 rw[←h]
theorem k3_dom {t T:SS} (h1:t.sT.length≤10000) (h2:T.sT.length≤10000) {p:Int × Int} (h:qOk t T p):triD (k3 p):=by
 by_cases e:p=bes
 ·rw[e,k3_bes];exact tri_dom ⟨O,O⟩ ⟨O,O⟩ ⟨O,O⟩
 ·obtain⟨a,b,c,d⟩:=h.resolve_left e
  rw[k3_at e];exact tri_dom ⟨O,O⟩ ⟨O,O⟩ ⟨O,O⟩
theorem quoS_hol {t s:SS} (h:ix (hOl s) 0=true):quoS t s=(everyS t.aC,true):=by unfold quoS;rw[if_pos h]
theorem quoS_yes {t s:SS} (h:ix (hOl s) 0=false) (h5:(qL t (tR s).1).length≤500):quoS t s=((tR (quoD t (tR s).1)).1,true):=by unfold quoS;rw[if_neg (by simp[h]),if_pos h5]
theorem quoS_no {t s:SS} (h:ix (hOl s) 0=false) (h5:500<(qL t (tR s).1).length):quoS t s=(⟨[],[]⟩,false):=by unfold quoS;rw[if_neg (by simp[h]),if_neg O]
theorem fit_qA {t T:SS} {p:Int × Int} (h:p≠bes):chs (ix t.sT ((k3 p).2.1).toNat) (ix T.sT ((k3 p).2.2).toNat) t.aC.length 0=qA t T p:=by
 rw[k3_at h,chs_zero]
 unfold qA
 rw[if_neg h];rfl
theorem qA_len {t T:SS} (hn:t.aC.length≤8) (p:Int × Int):(qA t T p).length≤256:=by
 have h1:(subs t.aC.length).length≤2^8:=by unfold subs;simp;exact Nat.pow_le_pow_right O hn
 unfold qA
 split
 ·exact h1
 ·exact Nat.le_trans (List.length_filter_le _ _) h1
namespace T
theorem map110:MapT Tryz.prog 110 109 3 triV triD:=mapT_tri Tryz.underlying110 Tryz.underlying109 kR (by decide+kernel) kR kR ⟨rfl,rfl,by kernel_rfl,by kernel_rfl⟩ ⟨rfl,rfl,by kernel_rfl,by kernel_rfl⟩ ⟨rfl,rfl,by kernel_rfl,by kernel_rfl⟩ kR kR
theorem z154:ZeroIs Tryz.prog 154 [.nilFunc]:=zeroIs_of kR
theorem ent81:Ent Tryz.prog 81:=ent_of kR
theorem flv25_1:FldV Tryz.prog 25 1 1 23:=fldV_of kR
theorem st109:StructT Tryz.prog 109 [(0,1),(1,1),(2,1)] [.int .i64 0,.int .i64 0,.int .i64 0]:=structT_of kR kR
theorem z110:ZeroIs Tryz.prog 110 [.map none]:=zeroIs_of kR
theorem one110:IsOne Tryz.prog 110:=isOne_of kR
theorem mk111:MakeT Tryz.prog 111 109 3 24 [.int .i64 0,.int .i64 0,.int .i64 0]:=makeT_of kR kR
theorem z111:ZeroIs Tryz.prog 111 [.slice none 0 0]:=zeroIs_of kR
theorem one111:IsOne Tryz.prog 111:=isOne_of kR
theorem sl111:IsSlice Tryz.prog 111 109 3:=isSlice_of kR
theorem agg109:IsAgg Tryz.prog 109 3:=isAgg_of kR
theorem z109:ZeroIs Tryz.prog 109 [.int .i64 0,.int .i64 0,.int .i64 0]:=zeroIs_of kR
theorem fld109_0:FieldAt Tryz.prog 109 0 0:=fieldAt_of kR
theorem one107:IsOne Tryz.prog 107:=isOne_of kR
theorem fld109_1:FieldAt Tryz.prog 109 1 1:=fieldAt_of kR
theorem fld109_2:FieldAt Tryz.prog 109 2 2:=fieldAt_of kR
theorem ent83:Ent Tryz.prog 83:=ent_of kR
theorem ent51:Ent Tryz.prog 51:=ent_of kR
theorem ent14:Ent Tryz.prog 14:=ent_of kR
theorem ent52:Ent Tryz.prog 52:=ent_of kR
end T
namespace divq
theorem fit_ok (x y:SA) (n:Nat) (hn:n≤8) (hr:rising x.aP=true) (hy:∀k,k<y.aP.length→0≤ix y.aP k∧ix y.aP k<256):
 Fn0 Tryz.prog 83 [int (n:Int),state x,state y] (ints (chs x y n 0)):=by
 refine fnI Tryz.func83 rfl rfl (fun w0 F0=> ?_)
 have hp8:2^n≤2^8:=Nat.pow_le_pow_right O hn
 refine fcC (inhS 1 J) (fun hS1=> ?_)
 obtain⟨hxa1,hxn1⟩:=state_lens hS1
 refine fcC (inhS 2 J) (fun hS2=> ?_)
 obtain⟨hxa2,hxn2⟩:=state_lens hS2
 refine sq (rg (bx (key:=4) (cs:= [sl 1 nE x.aP,sl 1 nE x.next]) J fun b4=>(bx (key:=5) (cs:= [sl 1 nE y.aP,sl 1 nE y.next]) J fun b5=>(ag (nl (th (sq (rg (al (key:=7) T.z63 (eC eZ) fun b7=>(nl (th (sq (rg (al (key:=8) T.z154 (eC eZ) fun b8=>(nl (th (sq (rg (fzv 5 5 J J (fzv 4 4 J J (nw 70 3 1 nE (knc 7 0 (osl 70 (.slice none 0 0)) J J eq_osl (mkf (sP (φ:=clo 109 [fp [sl 1 nE y.aP,sl 1 nE y.next],fp [sl 1 nE x.aP,sl 1 nE x.next],ptr 7 b7 0,ptr 8 b8 0]) J J J T.one154 J (nl (th (sq (rg (lP J J J T.one154 (mv (bi J J (b_sub i6) (callC (Hi:=chH x y b7 b8 (.slice none 0 0) []) (ι:=Value) (res:=fun _ _=>tup []) (Ho:=fun v2=>chH x y b7 b8 v2 (chs x y n 0)) J (choose_ok x y hr hy b7 b8 n hn 0 (.slice none 0 0) [] ⟨O,O⟩ (by simp;omega)) T.ent109 ⟨rI,rI,rI,tV⟩ fun N z=>(nl (th (sq (rg (lP J J J T.one63 (ag (nl (th (rt ?_)))))))))))))))))))))))))))))))))))))))))
 refine fzA 70 6 rfl rfl ?_
 exact rE () [.tmp 6] J [sl 1 nE (chs x y n 0)] ⟨.tmp J,tV⟩ J trivial eX
theorem Quotient_ok (t s:SS) (ht:oK t) (hs:oK s) (hts:t.aC=s.aC):
 Fn0 Tryz.prog 51 [spec t,spec s] (tup [spec (quoS t s).1,bl (quoS t s).2]):=by
 refine fnI Tryz.func51 rfl rfl (fun w0 F0=> ?_)
 have hop:=ordS_pos s;have f1:=ht.few1;have f2:=ht.few0;have hn8:=ht.n8
 refine fcC (inhS 0 J) (fun hS0=> ?_)
 obtain⟨hsa0,hss0,hse0⟩:=sLn hS0
 refine fcC (inhS 1 J) (fun hS1=> ?_)
 obtain⟨hsa1,hss1,hse1⟩:=sLn hS1
 refine sq (rg (bx (key:=2) (cs:= [sl 1 rE_ t.aC,sl 2 sE t.sT]) J fun b2=>(bx (key:=3) (cs:= [sl 1 rE_ s.aC,sl 2 sE s.sT]) J fun b3=>(al (key:=4) T.z25 (eC (eC eZ)) fun b4=>(al (key:=5) T.z4 (eC eZ) fun b5=>(nl (th (sq (rg (lPA J J T.agg25 J (calW (φs:= [agg [sl 1 rE_ s.aC,sl 2 sE s.sT]]) (φ:=tup [agg [sl 1 rE_ ((tR s).1.aC),sl 2 sE ((tR s).1.sT)],sl 1 nE ((tR s).2)]) ⟨J,tV⟩ (prog9.Trimmed_ok s aS) T.ent80 (fun N hN=>fun h=>tup_le (cs:= [agg [fre N (sl 1 rE_ ((tR s).1.aC)),frb (ix (hOl s) 0) N (sl 2 sE ((tR s).1.sT))],sl 1 nE ((tR s).2)]) (ds:= [agg [sl 1 rE_ ((tR s).1.aC),sl 2 sE ((tR s).1.sT)],sl 1 nE ((tR s).2)]) ⟨fun h=>agg_le (cs:= [fre N (sl 1 rE_ ((tR s).1.aC)),frb (ix (hOl s) 0) N (sl 2 sE ((tR s).1.sT))]) (ds:= [sl 1 rE_ ((tR s).1.aC),sl 2 sE ((tR s).1.sT)]) ⟨fun h=>nw_le h,fun h=>frb_le h,tV⟩ h,fun h=>h,tV⟩ h) (mv (xt J J (xt J J (sPA (cs':= [sl 1 rE_ ((tR s).1.aC),sl 2 sE ((tR s).1.sT)]) J J J T.agg25 J J (ag (nl (th (sq (sq (rg (mv (fc (slenI 26 J) fun hm26=>(lnF J T.sl63 (bi J J b_eql (nl (th ?_)))))))))))))))))))))))))))
 refine cd J (fun hc0=> ?_) (fun hc0=> ?_)
 ·try simp at hc0
  have hh0:ix (hOl s) 0=true:=by
   cases h:ix (hOl s) 0 with
   |true=>rfl
   |false=>
    exfalso
    rw[trimmed_not h] at hc0
    have h3:=hop
    rw[show ordS s= [] from hc0] at h3
    simp at h3
  have hq0:=quoS_hol (t:=t) hh0
  refine sq (rg (fP J T.fld25_0 (lP J J J T.one22 (cal0 (φs:= [sl 1 rE_ t.aC]) (φ:=agg [sl 1 rE_ (everyS t.aC).aC,sl 2 sE (everyS t.aC).sT]) ⟨J,tV⟩ (divv.Every_ok t.aC O) T.ent81 (sPA (cs':= [sl 1 rE_ (everyS t.aC).aC,sl 2 sE (everyS t.aC).sT]) J J J T.agg25 J J (sP (φ:=bl true) J J J T.one4 J (nl (th (rt (rt_ ?_))))))))))
  have hr0:(everyS t.aC).aC=((quoS t s).1).aC:=by
   rw[hq0]
  have hr1:(everyS t.aC).sT=((quoS t s).1).sT:=by
   rw[hq0]
  have hr2:true=((quoS t s).2):=by
   rw[hq0]
  exact rE () [.cell 4 25,.cell 5 4] J [agg [sl 1 rE_ (everyS t.aC).aC,sl 2 sE (everyS t.aC).sT],bl true] ⟨.agg J J T.agg25 J J,.one J J T.one4 J,tV⟩ (cA3 (fun x0 x1 x2=>rV [agg [sl 1 rE_ x0,sl 2 sE x1],bl x2]) hr0 hr1 hr2) trivial eX
 ·try simp at hc0
  have h00:ix (hOl s) 0=false:=by
   cases h:ix (hOl s) 0 with
   |false=>rfl
   |true=>exact absurd (by rw[trimmed_hol h]) hc0
  have hT:=trim_ok hs
  have hU:=trim_used hs
  have hTa:(tR s).1.aC.length=t.aC.length:=by rw[trim_acts,←hts]
  have hT8:=hT.n8
  have f4:=hT.few1
  have f5:=hT.few0
  refine sk (th (sq (rg (fP J T.fld25_0 (lP J J J T.one22 (cal0 (φs:= [sl 1 rE_ t.aC]) (φ:=agg [sl 1 rE_ (everyS t.aC).aC,sl 2 sE (everyS t.aC).sT]) ⟨J,tV⟩ (divv.Every_ok t.aC O) T.ent81 (fld1 J T.flv25_1 T.one23 J (iF J J T.sl23 O (gK (k:=0) (by show 0<1;omega)) (fF J T.fld72_0 (lF J J T.one63 (ag (nl (th (sq (rg (mkm (key:=39) (kE:=triV) (dom:=triD) (vE:=intV) fun b39=>(bd (css:= []) T.st109 (eC (eC (eC eZ))) trivial (AL.insert (q:=(0,0,0)) (u:=0) J J agg_tri J T.map110 (tri_dom ⟨O,O⟩ ⟨O,O⟩ ⟨O,O⟩) (mv (al (key:=8) T.z110 (eC eZ) fun b8=>(sP (φ:=mpv 39 b39) J J J T.one110 J (nl (th (sq (rg (bd (css:= []) T.st109 (eC (eC (eC eZ))) trivial (bsO 43 (enc:=spotE) (xs:= [(0,0)]) (css:= [[int 0,int 0,int 0]]) T.mk111 ⟨J,J,pA (cs:= [int 0,int 0,int 0]) J,tV⟩ J J J J fun v43=>(al (key:=9) T.z111 (eC eZ) fun b9=>(storePO J J J J T.one111 J (nl (th (sq (rg (fP J T.fld25_0 (lP J J J T.one22 (calW (φs:= [sl 1 rE_ t.aC]) (φ:=sl 1 rE_ t.aC) ⟨J,tV⟩ (prog.sClonestrE_ok _ O) T.ent67 (fun N hN=>fun h=>nw_le h) (bd (css:= [(0,_)]) T.st25 (eC (eC eZ)) ⟨J,J,p1 (φ:=sl 1 rE_ t.aC) J,tV⟩ (al (key:=10) T.z25 (eC (eC eZ)) fun b10=>(sPA (cs':= [sl 1 rE_ t.aC,eqv (.slice none 0 0)]) J J J T.agg25 J J (nl (th (sq (sq (rg (ag (nl (th (bk ?_))))))))))))))))))))))))))))))))))))))))))))))))
  refine nwC 100 72 2 sE (kncC 10 1 (osl 100 (.slice none 0 0)) rfl rfl eq_osl ?_)
  have hI0_0:QW t (tR s).1 0 ([(0,0)]:List (Int × Int)) (mset ([]:List ((Int × Int × Int) × Int)) (0,0,0) 0) ([]:List SA):=by
   exact qw_zero ht hT
  refine lp (κ:=Nat × Value × (List (Int × Int)) × (List ((Int × Int × Int) × Int)) × Value × (List SA)) (fun p=> [(2,ptr 2 b2 0),(3,ptr 3 b3 0),(4,ptr 4 b4 0),(5,ptr 5 b5 0),(7,sl 1 nE (ix (everyS t.aC).sT 0).aP),(8,ptr 8 b8 0),(9,ptr 9 b9 0),(10,ptr 10 b10 0),(11,int (p.1:Int))]) (fun p=> [(2,cell b2 [sl 1 rE_ t.aC,sl 2 sE t.sT]),(3,cell b3 [sl 1 rE_ ((tR s).1.aC),sl 2 sE ((tR s).1.sT)]),(4,cell b4 [eqv (.slice none 0 0),eqv (.slice none 0 0)]),(5,cell b5 [bl false]),(8,cell b8 [mpv 39 b39]),(9,cell b9 [osl 43 p.2.1]),(10,cell b10 [sl 1 rE_ t.aC,osl 100 p.2.2.2.2.1]),(39,mp b39 triV triD intV p.2.2.2.1),(43,own p.2.1 109 3 spotE p.2.2.1),(100,own p.2.2.2.2.1 72 2 sE p.2.2.2.2.2)]) (fun p=>QW t (tR s).1 p.1 p.2.2.1 p.2.2.2.1 p.2.2.2.2.2) (fun p=>501- p.1) ⟨0,v43,([(0,0)]:List (Int × Int)),mset ([]:List ((Int × Int × Int) × Int)) (0,0,0) 0,(.slice none 0 0),([]:List SA)⟩ hI0_0 ⟨id,id,id,id,id,id,id,id,id,tV⟩ ⟨rI,rI,rI,rI,rI,rI,rI,rI,rI,rI,tV⟩ ?_
  intro⟨i,v,ql,mm,v10,outs⟩ hG0
  have hQW:QW t (tR s).1 i ql mm outs:=hG0
  show Ct _ _ _ _ [(2,ptr 2 b2 0),(3,ptr 3 b3 0),(4,ptr 4 b4 0),(5,ptr 5 b5 0),(7,sl 1 nE (ix (everyS t.aC).sT 0).aP),(8,ptr 8 b8 0),(9,ptr 9 b9 0),(10,ptr 10 b10 0),(11,int (i:Int))] [(2,cell b2 [sl 1 rE_ t.aC,sl 2 sE t.sT]),(3,cell b3 [sl 1 rE_ ((tR s).1.aC),sl 2 sE ((tR s).1.sT)]),(4,cell b4 [eqv (.slice none 0 0),eqv (.slice none 0 0)]),(5,cell b5 [bl false]),(8,cell b8 [mpv 39 b39]),(9,cell b9 [osl 43 v]),(10,cell b10 [sl 1 rE_ t.aC,osl 100 v10]),(39,mp b39 triV triD intV mm),(43,own v 109 3 spotE ql),(100,own v10 72 2 sE outs)] _
  have hlf:=hQW.few
  have hil:=hQW.il
  have hol:outs.length≤i:=by rw[hQW.out];simp;omega
  refine sq (sq (rg (mv (lP J J J T.one111 (lnO J J T.sl111 (bi J J b_lss (nl (th ?_))))))))
  refine cd J (fun hc1=> ?_) (fun hc1=> ?_)
  ·try simp at hc1
   refine sk (th (sq (bk (sq (rg (lP J J J T.one111 (mv (iO J J J T.sl111 O O (lOA J J gB T.agg109 (by decide) (al (key:=12) T.z109 (eC (eC (eC eZ))) fun b12=>(sPA (cs':= [int ((k3 (ix ql i)).1),int ((k3 (ix ql i)).2.1),int ((k3 (ix ql i)).2.2)]) J J J T.agg109 J J (nl (th (sq (rg (mv (bsE (enc:=nE) (xs:= [(-1)]) (css:= [[int (-1)]]) T.mk63 ⟨J,J,p1 (φ:=int (-1)) J,tV⟩ J J J J (fP J T.fld25_0 (lP J J J T.one22 (fc (slenI 61 J) fun hm61=>(lnF J T.sl22 (cl (prog8.Repeat_ok t.aC.length O) T.ent82 trivial fun N63 v63=>(fc (svI 30 J) fun hsv30=> ?_)))))))))))))))))))))))
   rw[←hsv30]
   refine kn 63 (eqv (sv v63)) rfl osl_raw (bd (css:= [(0,_),(1,_)]) T.st72 (eC (eC eZ)) ⟨rfl,rfl,p1 (φ:=sl 1 nE (ix (everyS t.aC).sT 0).aP) rfl,⟨rfl,rfl,p1 (φ:=eqv (sv v63)) rfl,tV⟩⟩ (al (key:=13) T.z72 (eC (eC eZ)) fun b13=>(sPA (cs':= [sl 1 nE (ix (everyS t.aC).sT 0).aP,eqv (sv v63)]) rfl rfl rfl T.agg72 rfl rfl (knc 13 1 (osl 30 (sv v63)) rfl rfl eq_osl (nl (th (sq (sq (rg (fP rfl T.fld109_0 (lP rfl rfl rfl T.one107 (bi rfl rfl b_eql (nl (th ?_))))))))))))))
   refine jn (κ:=(List Int)) (fun p=> [(2,ptr 2 b2 0),(3,ptr 3 b3 0),(4,ptr 4 b4 0),(5,ptr 5 b5 0),(7,sl 1 nE (ix (everyS t.aC).sT 0).aP),(8,ptr 8 b8 0),(9,ptr 9 b9 0),(10,ptr 10 b10 0),(11,int (i:Int)),(12,ptr 12 b12 0),(13,ptr 13 b13 0)]) (fun p=> [(2,cell b2 [sl 1 rE_ t.aC,sl 2 sE t.sT]),(3,cell b3 [sl 1 rE_ ((tR s).1.aC),sl 2 sE ((tR s).1.sT)]),(4,cell b4 [eqv (.slice none 0 0),eqv (.slice none 0 0)]),(5,cell b5 [bl false]),(8,cell b8 [mpv 39 b39]),(9,cell b9 [osl 43 v]),(10,cell b10 [sl 1 rE_ t.aC,osl 100 v10]),(12,cell b12 [int ((k3 (ix ql i)).1),int ((k3 (ix ql i)).2.1),int ((k3 (ix ql i)).2.2)]),(13,cell b13 [sl 1 nE p,osl 30 (sv v63)]),(30,own (sv v63) 3 1 nE (List.replicate t.aC.length (-1))),(39,mp b39 triV triD intV mm),(43,own v 109 3 spotE ql),(100,own v10 72 2 sE outs)]) (fun p=>p=qA t (tR s).1 (ix ql i)) ?_ ?_
   ·
    refine cd J (fun hc2=> ?_) (fun hc2=> ?_)
    ·try simp at hc2
     have hp0:(k3 (ix ql i)).1=0:=hc2
     have hnb:=k3_ne hp0
     have hk3:=k3_at hnb
     have hpb:=(hQW.ok _ (ix_memS hc1)).resolve_left hnb
     obtain⟨hp1,hp2,hp3,hp4⟩:=hpb
     have hk1:(k3 (ix ql i)).2.1=(ix ql i).1:=by rw[hk3]
     have hk2:(k3 (ix ql i)).2.2=(ix ql i).2:=by rw[hk3]
     have hst:=ht.st ((k3 (ix ql i)).2.1).toNat O
     have hss:=hT.st ((k3 (ix ql i)).2.2).toNat O
     have htl:=hst.len
     have hsl:=hss.len
     have hri:=hst.rise
     have hac:=hss.ac
     refine dr (nh:=17) [0,1,3,0,8,0,32,120,248,0,512,0,2048,7680,15872,32767,65535,131071] T.mixed kR ?_
     refine st_ J (fun _ _ _ gq kq=>fP (gq.1.trans J) T.fld25_0 kq) ?_
     refine st_ J (fun _ _ _ gq kq=>lP (gq.1.trans J) J J T.one22 kq) ?_
     refine st_ J (fun _ _ _ gq kq=>lnF (gq.1.trans J) T.sl22 kq) ?_
     refine st_ J (fun _ _ _ gq kq=>fP (gq.1.trans J) T.fld25_1 kq) ?_
     refine st_ J (fun _ _ _ gq kq=>lP (gq.1.trans J) J J T.one23 kq) ?_
     refine st_ J (fun _ _ _ gq kq=>fP (gq.1.trans J) T.fld109_1 kq) ?_
     refine st_ J (fun _ _ _ gq kq=>lP (gq.1.trans J) J J T.one3 kq) ?_
     refine st_ J (fun _ _ _ gq kq=>iF (gq.1.trans J) (gq.2.1.trans J) T.sl23 O gB kq) ?_
     refine st_ J (fun _ _ _ gq kq=>lFA (gq.1.trans J) T.agg72 (Nat.le_of_ble_eq_true J) kq) ?_
     refine st_ J (fun _ _ _ gq kq=>fP (gq.1.trans J) T.fld25_1 kq) ?_
     refine st_ J (fun _ _ _ gq kq=>lP (gq.1.trans J) J J T.one23 kq) ?_
     refine st_ J (fun _ _ _ gq kq=>fP (gq.1.trans J) T.fld109_2 kq) ?_
     refine st_ J (fun _ _ _ gq kq=>lP (gq.1.trans J) J J T.one3 kq) ?_
     refine st_ J (fun _ _ _ gq kq=>iF (gq.1.trans J) (gq.2.1.trans J) T.sl23 O gB kq) ?_
     refine st_ J (fun _ _ _ gq kq=>lFA (gq.1.trans J) T.agg72 (Nat.le_of_ble_eq_true J) kq) ?_
     refine st_ J (fun _ _ _ gq kq=>cal0 (φs:= [int (t.aC.length:Int),agg [sl 1 nE (ix t.sT ((k3 (ix ql i)).2.1).toNat).aP,sl 1 nE (ix t.sT ((k3 (ix ql i)).2.1).toNat).next],agg [sl 1 nE (ix ((tR s).1.sT) ((k3 (ix ql i)).2.2).toNat).aP,sl 1 nE (ix ((tR s).1.sT) ((k3 (ix ql i)).2.2).toNat).next]]) (φ:=sl 1 nE (chs (ix t.sT ((k3 (ix ql i)).2.1).toNat) (ix ((tR s).1.sT) ((k3 (ix ql i)).2.2).toNat) t.aC.length 0)) ⟨(gq.1.trans J),(gq.2.1.trans J),(gq.2.2.1.trans J),tV⟩ (divq.fit_ok (ix t.sT ((k3 (ix ql i)).2.1).toNat) (ix ((tR s).1.sT) ((k3 (ix ql i)).2.2).toNat) t.aC.length O aS aS) T.ent83 kq) ?_
     refine st_ J (fun _ _ _ gq kq=>fP (gq.1.trans J) T.fld72_0 kq) ?_
     refine pn (sP (φ:=sl 1 nE (chs (ix t.sT ((k3 (ix ql i)).2.1).toNat) (ix ((tR s).1.sT) ((k3 (ix ql i)).2.2).toNat) t.aC.length 0)) J J J T.one63 J (nl ?_))
     have hN0:(chs (ix t.sT ((k3 (ix ql i)).2.1).toNat) (ix ((tR s).1.sT) ((k3 (ix ql i)).2.2).toNat) t.aC.length 0)=qA t (tR s).1 (ix ql i):=by
      exact fit_qA hnb
     exact jx (chs (ix t.sT ((k3 (ix ql i)).2.1).toNat) (ix ((tR s).1.sT) ((k3 (ix ql i)).2.2).toNat) t.aC.length 0) hN0 ⟨id,id,id,id,id,id,id,id,id,id,id,tV⟩ ⟨rI,rI,rI,rI,rI,rI,rI,rI,rI,rI,rI,rI,rI,tV⟩
    ·try simp at hc2
     have hpb:(ix ql i)=bes:=k3_eq hc2
     refine sk ?_
     have hN0:(ix (everyS t.aC).sT 0).aP=qA t (tR s).1 (ix ql i):=by
      unfold qA;rw[if_pos hpb];rfl
     exact jx (ix (everyS t.aC).sT 0).aP hN0 ⟨id,id,id,id,id,id,id,id,id,id,id,tV⟩ ⟨rI,rI,rI,rI,rI,rI,rI,rI,rI,rI,rI,rI,rI,tV⟩
   ·intro ac hG
    have hJ2:ac=qA t (tR s).1 (ix ql i):=hG
    have hal:ac.length≤256:=by rw[hJ2];exact qA_len hn8 _
    have hab:∀u∈ac,0≤u∧u<256:=fun u hu=>by rw[hJ2] at hu;exact qA_bd hn8 hu
    skip
    show At _ _ _ [(2,ptr 2 b2 0),(3,ptr 3 b3 0),(4,ptr 4 b4 0),(5,ptr 5 b5 0),(7,sl 1 nE (ix (everyS t.aC).sT 0).aP),(8,ptr 8 b8 0),(9,ptr 9 b9 0),(10,ptr 10 b10 0),(11,int (i:Int)),(12,ptr 12 b12 0),(13,ptr 13 b13 0)] [(2,cell b2 [sl 1 rE_ t.aC,sl 2 sE t.sT]),(3,cell b3 [sl 1 rE_ ((tR s).1.aC),sl 2 sE ((tR s).1.sT)]),(4,cell b4 [eqv (.slice none 0 0),eqv (.slice none 0 0)]),(5,cell b5 [bl false]),(8,cell b8 [mpv 39 b39]),(9,cell b9 [osl 43 v]),(10,cell b10 [sl 1 rE_ t.aC,osl 100 v10]),(12,cell b12 [int ((k3 (ix ql i)).1),int ((k3 (ix ql i)).2.1),int ((k3 (ix ql i)).2.2)]),(13,cell b13 [sl 1 nE ac,osl 30 (sv v63)]),(30,own (sv v63) 3 1 nE (List.replicate t.aC.length (-1))),(39,mp b39 triV triD intV mm),(43,own v 109 3 spotE ql),(100,own v10 72 2 sE outs)]
    refine th (sq (rg (ag (nl (th (sq (sq (rg (fP rfl T.fld72_0 (lP rfl rfl rfl T.one63 (fc (slenI 86 rfl) fun hm86=>(lnF rfl T.sl63 (mv (nl (th (bk ?_))))))))))))))))
    have hI1_0:0≤ac.length:=by
     first|omega|simp
    have hI1_1:(0:Int)=orAll (ac.take 0)∧0≤(0:Int)∧(0:Int)<256:=by
     exact⟨rfl,O,O⟩
    refine lp (κ:=Nat × Int) (fun p=> [(2,ptr 2 b2 0),(3,ptr 3 b3 0),(4,ptr 4 b4 0),(5,ptr 5 b5 0),(7,sl 1 nE (ix (everyS t.aC).sT 0).aP),(8,ptr 8 b8 0),(9,ptr 9 b9 0),(10,ptr 10 b10 0),(11,int (i:Int)),(12,ptr 12 b12 0),(13,ptr 13 b13 0),(14,int p.2),(86,sl 1 nE ac),(87,int (ac.length:Int)),(88,int (p.1:Int))]) (fun p=> [(2,cell b2 [sl 1 rE_ t.aC,sl 2 sE t.sT]),(3,cell b3 [sl 1 rE_ ((tR s).1.aC),sl 2 sE ((tR s).1.sT)]),(4,cell b4 [eqv (.slice none 0 0),eqv (.slice none 0 0)]),(5,cell b5 [bl false]),(8,cell b8 [mpv 39 b39]),(9,cell b9 [osl 43 v]),(10,cell b10 [sl 1 rE_ t.aC,osl 100 v10]),(12,cell b12 [int ((k3 (ix ql i)).1),int ((k3 (ix ql i)).2.1),int ((k3 (ix ql i)).2.2)]),(13,cell b13 [sl 1 nE ac,osl 30 (sv v63)]),(30,own (sv v63) 3 1 nE (List.replicate t.aC.length (-1))),(39,mp b39 triV triD intV mm),(43,own v 109 3 spotE ql),(100,own v10 72 2 sE outs)]) (fun p=>(p.1≤ac.length)∧(p.2=orAll (ac.take p.1)∧0≤p.2∧p.2<256)) (fun p=>ac.length- p.1) ⟨0,(0:Int)⟩ ⟨hI1_0,hI1_1⟩ ⟨id,id,id,id,id,id,id,id,id,id,id,id,id,id,id,tV⟩ ⟨rI,rI,rI,rI,rI,rI,rI,rI,rI,rI,rI,rI,rI,tV⟩ ?_
    intro⟨k1,cn⟩ hG1
    obtain⟨hk1,hI1⟩:(k1≤ac.length)∧(cn=orAll (ac.take k1)∧0≤cn∧cn<256):=hG1
    show Ct _ _ _ _ [(2,ptr 2 b2 0),(3,ptr 3 b3 0),(4,ptr 4 b4 0),(5,ptr 5 b5 0),(7,sl 1 nE (ix (everyS t.aC).sT 0).aP),(8,ptr 8 b8 0),(9,ptr 9 b9 0),(10,ptr 10 b10 0),(11,int (i:Int)),(12,ptr 12 b12 0),(13,ptr 13 b13 0),(14,int cn),(86,sl 1 nE ac),(87,int (ac.length:Int)),(88,int (k1:Int))] [(2,cell b2 [sl 1 rE_ t.aC,sl 2 sE t.sT]),(3,cell b3 [sl 1 rE_ ((tR s).1.aC),sl 2 sE ((tR s).1.sT)]),(4,cell b4 [eqv (.slice none 0 0),eqv (.slice none 0 0)]),(5,cell b5 [bl false]),(8,cell b8 [mpv 39 b39]),(9,cell b9 [osl 43 v]),(10,cell b10 [sl 1 rE_ t.aC,osl 100 v10]),(12,cell b12 [int ((k3 (ix ql i)).1),int ((k3 (ix ql i)).2.1),int ((k3 (ix ql i)).2.2)]),(13,cell b13 [sl 1 nE ac,osl 30 (sv v63)]),(30,own (sv v63) 3 1 nE (List.replicate t.aC.length (-1))),(39,mp b39 triV triD intV mm),(43,own v 109 3 spotE ql),(100,own v10 72 2 sE outs)] _
    refine sq (rg (bi J J b_lss (nl (th (sq ?_)))))
    refine cd J (fun hc3=> ?_) (fun hc3=> ?_)
    ·try simp at hc3
     have hkb:=hab _ (ix_memS (l:=ac) (i:=k1) O)
     refine sk (th (sq (bk (sq (rg (iF J J T.sl63 O gB (lF J J T.one3 (ag (nl (th (rg (mv (mv (bi J J (b_orI O O O O) (ag (nl (eb (th (rg (bi J J (b_add i6) (mv (nl ?_))))))))))))))))))))))
     have hN0:(k1+1)≤ac.length:=by
      first|omega|simp_all
     have hN1:((cn.toNat|||(ix ac k1).toNat:Nat):Int)=orAll (ac.take (k1+1))∧0≤((cn.toNat|||(ix ac k1).toNat:Nat):Int)∧((cn.toNat|||(ix ac k1).toNat:Nat):Int)<256:=by
      refine⟨?_,O,or_lt256 hI1.2.2 hkb.2⟩
      rw[take_s O,orAll_snoc,←hI1.1]
     exact ln (⟨k1+1,((cn.toNat|||(ix ac k1).toNat:Nat):Int)⟩:Nat × Int) ⟨hN0,hN1⟩ dO ⟨id,id,id,id,id,id,id,id,id,id,id,id,id,id,id,tV⟩ ⟨rI,rI,rI,rI,rI,rI,rI,rI,rI,rI,rI,rI,rI,tV⟩
    ·try simp at hc3
     refine ex (xt_ (xt_ (xb (th (sq (sq (rg (mv (cal0 (φs:= [int cn]) (φ:=clo 112 [fp [int cn]]) ⟨J,tV⟩ (prog3.In_ok cn) T.ent84 (nl (th (bk ?_))))))))))))
     have hR0:QN t (tR s).1 i ql 0 ql mm (List.replicate t.aC.length (-1)):=by
      exact qn_zero hQW
     refine rf (κ:=Value × (List (Int × Int)) × (List ((Int × Int × Int) × Int)) × (List Int)) 900 (fun p=> [(2,cell b2 [sl 1 rE_ t.aC,sl 2 sE t.sT]),(3,cell b3 [sl 1 rE_ ((tR s).1.aC),sl 2 sE ((tR s).1.sT)]),(4,cell b4 [eqv (.slice none 0 0),eqv (.slice none 0 0)]),(5,cell b5 [bl false]),(8,cell b8 [mpv 39 b39]),(9,cell b9 [osl 43 p.1]),(10,cell b10 [sl 1 rE_ t.aC,osl 100 v10]),(12,cell b12 [int ((k3 (ix ql i)).1),int ((k3 (ix ql i)).2.1),int ((k3 (ix ql i)).2.2)]),(13,cell b13 [sl 1 nE ac,osl 30 (sv v63)]),(30,own (sv v63) 3 1 nE p.2.2.2),(39,mp b39 triV triD intV p.2.2.1),(43,own p.1 109 3 spotE p.2.1),(100,own v10 72 2 sE outs)]) (fun iR p=>QN t (tR s).1 i ql iR p.2.1 p.2.2.1 p.2.2.2) (fun c p=>c= .ret∧(500<(qL t (tR s).1).length)) J (InIt cn O O) T.ent112 J (fun _=>J) (fun _=>J) ⟨v,ql,mm,List.replicate t.aC.length (-1)⟩ hR0 ⟨rI,rI,rI,rI,rI,rI,rI,rI,rI,rI,rI,rI,rI,tV⟩ ?_ ?_ ?_ (fun id k h=>nomatch h.1) (fun c k h=> .inl h.1)
     ·intro m0 ⟨v2,l2,mm2,nx⟩ x0 hG0 hx0 l R w1 M1 F1 hRd
      have hR0:QN t (tR s).1 i ql m0 l2 mm2 nx:=hG0
      show Ct _ _ _ _ _ ((900,obj l (.loop R)):: [(2,cell b2 [sl 1 rE_ t.aC,sl 2 sE t.sT]),(3,cell b3 [sl 1 rE_ ((tR s).1.aC),sl 2 sE ((tR s).1.sT)]),(4,cell b4 [eqv (.slice none 0 0),eqv (.slice none 0 0)]),(5,cell b5 [bl false]),(8,cell b8 [mpv 39 b39]),(9,cell b9 [osl 43 v2]),(10,cell b10 [sl 1 rE_ t.aC,osl 100 v10]),(12,cell b12 [int ((k3 (ix ql i)).1),int ((k3 (ix ql i)).2.1),int ((k3 (ix ql i)).2.2)]),(13,cell b13 [sl 1 nE ac,osl 30 (sv v63)]),(30,own (sv v63) 3 1 nE nx),(39,mp b39 triV triD intV mm2),(43,own v2 109 3 spotE l2),(100,own v10 72 2 sE outs)]) _
      have hcn2:cn=orAll (qA t (tR s).1 (ix ql i)):=by rw[←hJ2,hI1.1,show k1=ac.length by omega,List.take_length]
      have hx2:(actsL (qA t (tR s).1) (ix ql i))[m0]?=some x0:=by unfold actsL;rw[←hcn2];exact hx0
      obtain⟨a,rfl,ha63,hha⟩:=listOf_get hx0
      have hha2:has (orAll (qA t (tR s).1 (ix ql i))) (a:Int)=true:=by rw[←hcn2];exact hha
      have hal8:=qA_has hha2
      have hqok1:=qN_ok ht hT hU hTa (hQW.ok _ (ix_memS hc1)) hha2
      have hnl:nx.length=t.aC.length:=by rw[hR0.nx];simp
      have hl2f:=hR0.few
      refine rg (ag (nl (aq hRd J (bk (sq (rg (bd (css:= [(0,_)]) T.st109 (eC (eC (eC eZ))) ⟨J,J,p1 (φ:=int 1) J,tV⟩ (al (key:=18) T.z109 (eC (eC (eC eZ))) fun b18=>(sPA (cs':= [int 1,int 0,int 0]) J J J T.agg109 J J (nl (th (sq (sq (rg (fP J T.fld109_0 (lP J J J T.one107 (bi J J b_eql (mv ?_))))))))))))))))))
      apply gAnd (t:=103) (pd:=115) rfl
      rotate_left
      ·intro hg0 fin
       have hg0':=hg0
       try simp at hg0'
       have hp0:(k3 (ix ql i)).1=0:=by simpa using hg0
       have hnb:=k3_ne hp0
       have hk3:=k3_at hnb
       have hpb:=(hQW.ok _ (ix_memS hc1)).resolve_left hnb
       obtain⟨hp1,hp2,hp3,hp4⟩:=hpb
       have hk1:(k3 (ix ql i)).2.1=(ix ql i).1:=by rw[hk3]
       have hk2:(k3 (ix ql i)).2.2=(ix ql i).2:=by rw[hk3]
       have hst:=ht.st ((k3 (ix ql i)).2.1).toNat O
       have hss:=hT.st ((k3 (ix ql i)).2.2).toNat O
       have htl:=hst.len
       have hsl:=hss.len
       exact gy J J J hg0 (fP J T.fld25_1 (gy J J J hg0 (lP J J J T.one23 (gy J J J hg0 (fP J T.fld109_2 (gy J J J hg0 (lP J J J T.one3 (gy J J J hg0 (iF J J T.sl23 O gB (gy J J J hg0 (fF J T.fld72_1 (gy J J J hg0 (lF J J T.one63 (gy J J J hg0 (mv (gy J J J hg0 (iF J J T.sl63 O gB (gy J J J hg0 (lF J J T.one3 (gy J J J hg0 (bi J J b_geq (pkT J hg0 J (drp (X:= [(114,_),(113,_),(112,_),(111,_),(110,_),(109,_),(108,_),(107,_),(106,_),(105,_),(104,_)]) ⟨J,J,J,J,J,J,J,J,J,J,J,tV⟩ fin)))))))))))))))))))))))
      ·intro hg0 fin
       exact gn J J J hg0 J J (gn J J J hg0 J J (gn J J J hg0 J J (gn J J J hg0 J J (gn J J J hg0 J J (gn J J J hg0 J J (gn J J J hg0 J J (gn J J J hg0 J J (gn J J J hg0 J J (gn J J J hg0 J J (gn J J J hg0 J J (pkF J hg0 J (drp (X:= [(114,_),(113,_),(112,_),(111,_),(110,_),(109,_),(108,_),(107,_),(106,_),(105,_),(104,_)]) ⟨J,J,J,J,J,J,J,J,J,J,J,tV⟩ fin))))))))))))
      refine nl (th ?_)
      refine jn (κ:=Int × Int × Int) (fun p=> [(4,ptr 4 b4 0),(5,ptr 5 b5 0),(8,ptr 8 b8 0),(9,ptr 9 b9 0),(13,ptr 13 b13 0),(17,int (a:Int)),(18,ptr 18 b18 0)]) (fun p=> [(2,cell b2 [sl 1 rE_ t.aC,sl 2 sE t.sT]),(3,cell b3 [sl 1 rE_ ((tR s).1.aC),sl 2 sE ((tR s).1.sT)]),(4,cell b4 [eqv (.slice none 0 0),eqv (.slice none 0 0)]),(5,cell b5 [bl false]),(8,cell b8 [mpv 39 b39]),(9,cell b9 [osl 43 v2]),(10,cell b10 [sl 1 rE_ t.aC,osl 100 v10]),(12,cell b12 [int ((k3 (ix ql i)).1),int ((k3 (ix ql i)).2.1),int ((k3 (ix ql i)).2.2)]),(13,cell b13 [sl 1 nE ac,osl 30 (sv v63)]),(18,cell b18 [int p.1,int p.2.1,int p.2.2]),(30,own (sv v63) 3 1 nE nx),(39,mp b39 triV triD intV mm2),(43,own v2 109 3 spotE l2),(100,own v10 72 2 sE outs),(900,obj l (.loop { R with state:= .busy }))]) (fun p=>(p.1,p.2.1,p.2.2)=k3 (qN t (tR s).1 (ix ql i) a)) ?_ ?_
      ·
       refine cd J (fun hc4=> ?_) (fun hc4=> ?_)
       ·try simp at hc4
        have hp0:(k3 (ix ql i)).1=0:=hc4.1
        have hnb:=k3_ne hp0
        have hk3:=k3_at hnb
        have hpb:=(hQW.ok _ (ix_memS hc1)).resolve_left hnb
        obtain⟨hp1,hp2,hp3,hp4⟩:=hpb
        have hk1:(k3 (ix ql i)).2.1=(ix ql i).1:=by rw[hk3]
        have hk2:(k3 (ix ql i)).2.2=(ix ql i).2:=by rw[hk3]
        have hst:=ht.st ((k3 (ix ql i)).2.1).toNat O
        have hss:=hT.st ((k3 (ix ql i)).2.2).toNat O
        have htl:=hst.len
        have hsl:=hss.len
        have hgo:=qN_go ht hT hU hTa (hQW.ok _ (ix_memS hc1)) hnb hha2 (by show 0≤ix (ix (tR s).1.sT (ix ql i).2.toNat).next a;have h:=hc4.2;rw[hk2] at h;exact h)
        refine dr (nh:=21) [0,1,0,4,15,31,63,0,255,511,0,1024,0,4096,15360,31744,64512,0,261120,523264,1048575,2097151] T.mixed kR ?_
        refine st_ J (fun _ _ _ gq kq=>fP (gq.1.trans J) T.fld25_1 kq) ?_
        refine st_ J (fun _ _ _ gq kq=>lP (gq.1.trans J) J J T.one23 kq) ?_
        refine st_ J (fun _ _ _ gq kq=>fP (gq.1.trans J) T.fld109_1 kq) ?_
        refine st_ J (fun _ _ _ gq kq=>lP (gq.1.trans J) J J T.one3 kq) ?_
        refine st_ J (fun _ _ _ gq kq=>iF (gq.1.trans J) (gq.2.1.trans J) T.sl23 O gB kq) ?_
        refine st_ J (fun _ _ _ gq kq=>fF (gq.1.trans J) T.fld72_1 kq) ?_
        refine st_ J (fun _ _ _ gq kq=>lF (gq.1.trans J) J T.one63 kq) ?_
        refine st_ J (fun _ _ _ gq kq=>mv' (gq.1.trans J) kq) ?_
        refine st_ J (fun _ _ _ gq kq=>iF (gq.1.trans J) (gq.2.1.trans J) T.sl63 O gB kq) ?_
        refine st_ J (fun _ _ _ gq kq=>lF (gq.1.trans J) J T.one3 kq) ?_
        refine st_ J (fun _ _ _ gq kq=>fP (gq.1.trans J) T.fld25_1 kq) ?_
        refine st_ J (fun _ _ _ gq kq=>lP (gq.1.trans J) J J T.one23 kq) ?_
        refine st_ J (fun _ _ _ gq kq=>fP (gq.1.trans J) T.fld109_2 kq) ?_
        refine st_ J (fun _ _ _ gq kq=>lP (gq.1.trans J) J J T.one3 kq) ?_
        refine st_ J (fun _ _ _ gq kq=>iF (gq.1.trans J) (gq.2.1.trans J) T.sl23 O gB kq) ?_
        refine st_ J (fun _ _ _ gq kq=>fF (gq.1.trans J) T.fld72_1 kq) ?_
        refine st_ J (fun _ _ _ gq kq=>lF (gq.1.trans J) J T.one63 kq) ?_
        refine st_ J (fun _ _ _ gq kq=>mv' (gq.1.trans J) kq) ?_
        refine st_ J (fun _ _ _ gq kq=>iF (gq.1.trans J) (gq.2.1.trans J) T.sl63 O gB kq) ?_
        refine st_ J (fun _ _ _ gq kq=>lF (gq.1.trans J) J T.one3 kq) ?_
        refine st_ J (fun _ _ _ gq kq=>bd (css:= [(0,_),(1,_),(2,_)]) T.st109 (eC (eC (eC eZ))) ⟨J,J,p1 (φ:=int 0) J,⟨J,J,p1 (φ:=int (ix (ix t.sT ((k3 (ix ql i)).2.1).toNat).next a)) (by exact(gq.1.trans J)),⟨J,J,p1 (φ:=int (ix (ix ((tR s).1.sT) ((k3 (ix ql i)).2.2).toNat).next a)) (by exact(gq.2.1.trans J)),tV⟩⟩⟩ kq) ?_
        refine pn (sPA (cs':= [int 0,int (ix (ix t.sT ((k3 (ix ql i)).2.1).toNat).next a),int (ix (ix ((tR s).1.sT) ((k3 (ix ql i)).2.2).toNat).next a)]) J J J T.agg109 J J (nl ?_))
        have hN0:((0:Int),(ix (ix t.sT ((k3 (ix ql i)).2.1).toNat).next a),(ix (ix ((tR s).1.sT) ((k3 (ix ql i)).2.2).toNat).next a))=k3 (qN t (tR s).1 (ix ql i) a):=by
         have e:qN t (tR s).1 (ix ql i) a=(ix (ix t.sT (ix ql i).1.toNat).next a,ix (ix (tR s).1.sT (ix ql i).2.toNat).next a):=by
          unfold qN
          rw[if_pos ⟨hnb,by have h:=hc4.2;rw[hk2] at h;exact h⟩]
         rw[e,hk1,hk2]
         exact(k3_at (p:=(ix (ix t.sT (ix ql i).1.toNat).next a,ix (ix (tR s).1.sT (ix ql i).2.toNat).next a)) (fun g=>by have g:=congrArg Prod.fst g;have g:ix (ix t.sT (ix ql i).1.toNat).next a= -1:=g;have:=hgo.1;dsimp only [nxt] at this;omega)).symm
        exact jx ⟨(0:Int),ix (ix t.sT ((k3 (ix ql i)).2.1).toNat).next a,ix (ix ((tR s).1.sT) ((k3 (ix ql i)).2.2).toNat).next a⟩ hN0 ⟨id,id,id,id,id,id,id,tV⟩ ⟨rI,rI,rI,rI,rI,rI,rI,rI,rI,rI,rI,rI,rI,rI,rI,tV⟩
       ·try simp at hc4
        refine sk ?_
        have hN0:((1:Int),(0:Int),(0:Int))=k3 (qN t (tR s).1 (ix ql i) a):=by
         have e:qN t (tR s).1 (ix ql i) a=bes:=by
          unfold qN
          rw[if_neg]
          rintro⟨h1,h2⟩
          have h3:=k3_at h1
          have h4:(k3 (ix ql i)).1=0:=by rw[h3]
          have h5:(k3 (ix ql i)).2.2=(ix ql i).2:=by rw[h3]
          rw[←h5] at h2
          dsimp only [nxt] at h2
          exact absurd h2 (by have:=hc4 h4;omega)
         rw[e,k3_bes]
        exact jx ⟨(1:Int),(0:Int),(0:Int)⟩ hN0 ⟨id,id,id,id,id,id,id,tV⟩ ⟨rI,rI,rI,rI,rI,rI,rI,rI,rI,rI,rI,rI,rI,rI,rI,tV⟩
      ·intro⟨px,py,pz⟩ hG
       have hJ4:(px,py,pz)=k3 (qN t (tR s).1 (ix ql i) a):=hG
       skip
       show At _ _ _ [(4,ptr 4 b4 0),(5,ptr 5 b5 0),(8,ptr 8 b8 0),(9,ptr 9 b9 0),(13,ptr 13 b13 0),(17,int (a:Int)),(18,ptr 18 b18 0)] [(2,cell b2 [sl 1 rE_ t.aC,sl 2 sE t.sT]),(3,cell b3 [sl 1 rE_ ((tR s).1.aC),sl 2 sE ((tR s).1.sT)]),(4,cell b4 [eqv (.slice none 0 0),eqv (.slice none 0 0)]),(5,cell b5 [bl false]),(8,cell b8 [mpv 39 b39]),(9,cell b9 [osl 43 v2]),(10,cell b10 [sl 1 rE_ t.aC,osl 100 v10]),(12,cell b12 [int ((k3 (ix ql i)).1),int ((k3 (ix ql i)).2.1),int ((k3 (ix ql i)).2.2)]),(13,cell b13 [sl 1 nE ac,osl 30 (sv v63)]),(18,cell b18 [int px,int py,int pz]),(30,own (sv v63) 3 1 nE nx),(39,mp b39 triV triD intV mm2),(43,own v2 109 3 spotE l2),(100,own v10 72 2 sE outs),(900,obj l (.loop { R with state:= .busy }))]
       refine th (sq (rg (lP rfl rfl rfl T.one110 (lPA rfl rfl T.agg109 rfl (lookup2 (z:=(0:Int)) (q:=(px,py,pz)) rfl rfl agg_tri T.map110 (by rw[hJ4];exact k3_dom f1 f4 hqok1) T.zvi3 (mv (xt rfl rfl (xt rfl rfl (ag (ag (nl (th (sq (sq (rg (mv (no rfl (nl (th ?_)))))))))))))))))))
       refine cd J (fun hc5=> ?_) (fun hc5=> ?_)
       ·skip
        have h5:(mget mm2 (px,py,pz)).isSome=false:=by
         revert hc5
         cases(mget mm2 (px,py,pz)).isSome<;>simp
        refine sq (sq (rg (lP J J J T.one111 (lnO J J T.sl111 (bi J J b_eql (nl (th ?_)))))))
        refine cd J (fun hc6=> ?_) (fun hc6=> ?_)
        ·try simp at hc6
         refine sq (rg (bd (css:= []) T.st25 (eC (eC eZ)) trivial (sPA (cs':= [eqv (.slice none 0 0),eqv (.slice none 0 0)]) J J J T.agg25 J J (sP (φ:=bl false) J J J T.one4 J (nl (th (rt (rt_ (rt_ (rb ?_))))))))))
         have hRr:500<(qL t (tR s).1).length:=by
          exact qn_fail hQW hR0 hc1 hx2 hJ4 h5 hc6
         exact rqR ⟨v2,l2,mm2,nx⟩ ⟨rfl,hRr⟩ ⟨rI,rI,rI,rI,rI,rI,rI,rI,rI,rI,rI,rI,rI,rI,tV⟩
        ·try simp at hc6
         refine sk (th (sq (rg (lP J J J T.one111 (lnO J J T.sl111 (ag (nl (th (sq (rg (lP J J J T.one110 (lPA J J T.agg109 J (mv (mapUpdate (q:=(px,py,pz)) (u:=(l2.length:Int)) J J agg_tri J T.map110 (by rw[hJ4];exact k3_dom f1 f4 hqok1) (nl (th (rg (lP J J J T.one111 (lPA J J T.agg109 J (bs (css:= [[int px,int py,int pz]]) T.mk111 ⟨J,J,pA (cs:= [int px,int py,int pz]) J,tV⟩ J J J (ap (key:=43) (zs:= [qN t (tR s).1 (ix ql i) a]) osl_eq J J (spot_le hJ4) T.mk111 (by unfold maxL at*;simp;omega) (by unfold maxL at*;simp;omega) fun v157=>(storePO J J J J T.one111 J (nl (th (rg (fP J T.fld72_1 (lP J J J T.one63 (mv (mv (iO J J J T.sl63 O O (sO (φ:=int (l2.length:Int)) J J J T.one3 gB J (y':=(l2.length:Int)) J (nl (eb ?_)))))))))))))))))))))))))))))))))
         have hN0:QN t (tR s).1 i ql (m0+1) (l2++ [qN t (tR s).1 (ix ql i) a]) (mset mm2 (px,py,pz) (l2.length:Int)) (nx.set a (l2.length:Int)):=by
          exact qn_new hQW hR0 hc1 hqok1 hx2 hal8 hJ4 h5 O
         exact rqN ⟨v157,l2++ [qN t (tR s).1 (ix ql i) a],mset mm2 (px,py,pz) (l2.length:Int),nx.set a (l2.length:Int)⟩ hN0 ⟨rI,rI,rI,rI,rI,rI,rI,rI,rI,rI,rI,rI,rI,rI,tV⟩
       ·skip
        have h5:(mget mm2 (px,py,pz)).isSome=true:=by
         revert hc5
         cases(mget mm2 (px,py,pz)).isSome<;>simp
        refine sk (th (rg (fP J T.fld72_1 (lP J J J T.one63 (mv (mv (iO J J J T.sl63 O O (sO (φ:=int ((mget mm2 (px,py,pz)).getD (0:Int))) J J J T.one3 gB J (y':=((mget mm2 (px,py,pz)).getD (0:Int))) J (nl (eb ?_))))))))))
        have hN0:QN t (tR s).1 i ql (m0+1) l2 mm2 (nx.set a ((mget mm2 (px,py,pz)).getD (0:Int))):=by
         exact qn_old hQW hR0 hc1 hx2 hal8 hJ4 h5
        exact rqN ⟨v2,l2,mm2,nx.set a ((mget mm2 (px,py,pz)).getD (0:Int))⟩ hN0 ⟨rI,rI,rI,rI,rI,rI,rI,rI,rI,rI,rI,rI,rI,rI,tV⟩
     ·intro⟨v2,l2,mm2,nx⟩ hG0
      have hR0:QN t (tR s).1 i ql (listOf 63 cn).length l2 mm2 nx:=hG0
      show At _ _ _ _ [(2,cell b2 [sl 1 rE_ t.aC,sl 2 sE t.sT]),(3,cell b3 [sl 1 rE_ ((tR s).1.aC),sl 2 sE ((tR s).1.sT)]),(4,cell b4 [eqv (.slice none 0 0),eqv (.slice none 0 0)]),(5,cell b5 [bl false]),(8,cell b8 [mpv 39 b39]),(9,cell b9 [osl 43 v2]),(10,cell b10 [sl 1 rE_ t.aC,osl 100 v10]),(12,cell b12 [int ((k3 (ix ql i)).1),int ((k3 (ix ql i)).2.1),int ((k3 (ix ql i)).2.2)]),(13,cell b13 [sl 1 nE ac,osl 30 (sv v63)]),(30,own (sv v63) 3 1 nE nx),(39,mp b39 triV triD intV mm2),(43,own v2 109 3 spotE l2),(100,own v10 72 2 sE outs)]
      refine eb (th (rg (fP rfl T.fld25_1 (lP rfl rfl rfl T.one23 (fzc 13 30 1 rfl rfl rfl rfl (lPA rfl rfl T.agg72 rfl (bsE (enc:=sE) (xs:= [(⟨ac,nx⟩)]) (css:= [[sl 1 nE ac,sl 1 nE nx]]) T.mk23 ⟨rfl,rfl,pA (cs:= [sl 1 nE ac,sl 1 nE nx]) rfl,tV⟩ rfl rfl rfl rfl (ap (key:=100) (zs:= [(⟨ac,nx⟩)]) osl_eq rfl rfl rfl T.mk23 (by unfold maxL at*;simp;omega) (by unfold maxL at*;simp;omega) fun v167=>(fP rfl T.fld25_1 (storePO rfl rfl rfl rfl T.one23 rfl (nl (eb (th (rg (mv (bi rfl rfl (b_add i6) (ag (nl ?_))))))))))))))))))
      have hN0:QW t (tR s).1 (i+1) l2 mm2 (outs++ [(⟨ac,nx⟩)]):=by
       have hcl:listOf 63 cn=actsL (qA t (tR s).1) (ix ql i):=by
        unfold actsL
        rw[←hJ2,hI1.1,show k1=ac.length by omega,List.take_length]
       rw[hcl] at hR0
       rw[hJ2]
       exact qn_end hn8 hQW hR0 hc1
      exact ln (⟨i+1,v2,l2,mm2,v167,outs++ [(⟨ac,nx⟩)]⟩:Nat × Value × (List (Int × Int)) × (List ((Int × Int × Int) × Int)) × Value × (List SA)) hN0 (by have:=hQW.few;show 501- (i+1)<501- i;omega) ⟨id,id,id,id,id,id,id,id,id,tV⟩ ⟨rI,rI,rI,rI,rI,rI,rI,rI,rI,rI,tV⟩
     ·intro⟨v2,l2,mm2,nx⟩ hS0
      have hRt0:500<(qL t (tR s).1).length:=hS0.2
      show At _ _ _ _ [(2,cell b2 [sl 1 rE_ t.aC,sl 2 sE t.sT]),(3,cell b3 [sl 1 rE_ ((tR s).1.aC),sl 2 sE ((tR s).1.sT)]),(4,cell b4 [eqv (.slice none 0 0),eqv (.slice none 0 0)]),(5,cell b5 [bl false]),(8,cell b8 [mpv 39 b39]),(9,cell b9 [osl 43 v2]),(10,cell b10 [sl 1 rE_ t.aC,osl 100 v10]),(12,cell b12 [int ((k3 (ix ql i)).1),int ((k3 (ix ql i)).2.1),int ((k3 (ix ql i)).2.2)]),(13,cell b13 [sl 1 nE ac,osl 30 (sv v63)]),(30,own (sv v63) 3 1 nE nx),(39,mp b39 triV triD intV mm2),(43,own v2 109 3 spotE l2),(100,own v10 72 2 sE outs)]
      refine rb (rt_ (rb (rt_ (rt_ (rb (rt_ ?_))))))
      refine kncA 4 0 (sl 1 rE_ []) rfl rfl slnil ?_
      refine kncA 4 1 (sl 2 sE []) rfl rfl slnil ?_
      have hr0: []=((quoS t s).1).aC:=by
       rw[quoS_no h00 hRt0]
      have hr1: []=((quoS t s).1).sT:=by
       rw[quoS_no h00 hRt0]
      have hr2:false=((quoS t s).2):=by
       rw[quoS_no h00 hRt0]
      exact rE () [.cell 4 25,.cell 5 4] J [agg [sl 1 rE_ [],sl 2 sE []],bl false] ⟨.agg J J T.agg25 J J,.one J J T.one4 J,tV⟩ (cA3 (fun x0 x1 x2=>rV [agg [sl 1 rE_ x0,sl 2 sE x1],bl x2]) hr0 hr1 hr2) trivial eX
  ·try simp at hc1
   have hdn:=qw_done hQW O
   have hq5:(qL t (tR s).1).length≤500:=by rw[←hdn.1];exact hQW.few
   have hq1:=quoS_yes (t:=t) h00 hq5
   have hqok:oK (quoD t (tR s).1):=q_ok ht (q_numb ht hT hU hTa) rfl O
   refine ex (xt_ (xt_ (xb (th (sq (rg (fzc 10 100 1 J J J J (lPA J J T.agg25 J (kn 170 (spec (quoD t (tR s).1)) J (by rw[show outs=(quoD t (tR s).1).sT from hdn.2];exact fun h=>h) (calW (φs:= [agg [sl 1 rE_ (quoD t (tR s).1).aC,sl 2 sE (quoD t (tR s).1).sT]]) (φ:=tup [agg [sl 1 rE_ ((tR (quoD t (tR s).1)).1.aC),sl 2 sE ((tR (quoD t (tR s).1)).1.sT)],sl 1 nE ((tR (quoD t (tR s).1)).2)]) ⟨J,tV⟩ (prog9.Trimmed_ok (quoD t (tR s).1) aS) T.ent80 (fun N hN=>fun h=>tup_le (cs:= [agg [fre N (sl 1 rE_ ((tR (quoD t (tR s).1)).1.aC)),frb (ix (hOl (quoD t (tR s).1)) 0) N (sl 2 sE ((tR (quoD t (tR s).1)).1.sT))],sl 1 nE ((tR (quoD t (tR s).1)).2)]) (ds:= [agg [sl 1 rE_ ((tR (quoD t (tR s).1)).1.aC),sl 2 sE ((tR (quoD t (tR s).1)).1.sT)],sl 1 nE ((tR (quoD t (tR s).1)).2)]) ⟨fun h=>agg_le (cs:= [fre N (sl 1 rE_ ((tR (quoD t (tR s).1)).1.aC)),frb (ix (hOl (quoD t (tR s).1)) 0) N (sl 2 sE ((tR (quoD t (tR s).1)).1.sT))]) (ds:= [sl 1 rE_ ((tR (quoD t (tR s).1)).1.aC),sl 2 sE ((tR (quoD t (tR s).1)).1.sT)]) ⟨fun h=>nw_le h,fun h=>frb_le h,tV⟩ h,fun h=>h,tV⟩ h) (mv (xt J J (xt J J (sPA (cs':= [sl 1 rE_ ((tR (quoD t (tR s).1)).1.aC),sl 2 sE ((tR (quoD t (tR s).1)).1.sT)]) J J J T.agg25 J J (nl (th (sq (rg (lPA J J T.agg25 J (sPA (cs':= [sl 1 rE_ ((tR (quoD t (tR s).1)).1.aC),sl 2 sE ((tR (quoD t (tR s).1)).1.sT)]) J J J T.agg25 J J (sP (φ:=bl true) J J J T.one4 J (nl (th (rt ?_))))))))))))))))))))))))
   have hr0:((tR (quoD t (tR s).1)).1.aC)=((quoS t s).1).aC:=by
    rw[hq1]
   have hr1:((tR (quoD t (tR s).1)).1.sT)=((quoS t s).1).sT:=by
    rw[hq1]
   have hr2:true=((quoS t s).2):=by
    rw[hq1]
   exact rE () [.cell 4 25,.cell 5 4] J [agg [sl 1 rE_ ((tR (quoD t (tR s).1)).1.aC),sl 2 sE ((tR (quoD t (tR s).1)).1.sT)],bl true] ⟨.agg J J T.agg25 J J,.one J J T.one4 J,tV⟩ (cA3 (fun x0 x1 x2=>rV [agg [sl 1 rE_ x0,sl 2 sE x1],bl x2]) hr0 hr1 hr2) trivial eX
theorem Divide_ok (t s:SS) (htm:smallSpec t) (hsm:smallSpec s):
 Fn0 Tryz.prog 14 [spec t,spec s] (tup [spec (divS t s).1,int (divS t s).2]):=by
 refine fnI Tryz.func14 rfl rfl (fun w0 F0=> ?_)
 refine fcC (inhS 0 J) (fun hS0=> ?_)
 obtain⟨hsa0,hss0,hse0⟩:=sLn hS0
 refine fcC (inhS 1 J) (fun hS1=> ?_)
 obtain⟨hsa1,hss1,hse1⟩:=sLn hS1
 refine sq (rg (bx (key:=2) (cs:= [sl 1 rE_ t.aC,sl 2 sE t.sT]) J fun b2=>(bx (key:=3) (cs:= [sl 1 rE_ s.aC,sl 2 sE s.sT]) J fun b3=>(al (key:=4) T.z25 (eC (eC eZ)) fun b4=>(ag (nl (th (sq (sq (rg (lPA J J T.agg25 J (lPA J J T.agg25 J (cal0 (φs:= [agg [sl 1 rE_ t.aC,sl 2 sE t.sT],agg [sl 1 rE_ s.aC,sl 2 sE s.sT]]) (φ:=int (fineE t s)) ⟨J,J,tV⟩ (judg.Fine_ok t s aS aS) T.ent50 (ag (nl (th (sq (rg (mv (bi J J b_neq (nl (th ?_))))))))))))))))))))))
 refine cd J (fun hc0=> ?_) (fun hc0=> ?_)
 ·try simp at hc0
  have hd:divS t s=(⟨[],[]⟩,fineE t s):=by unfold divS;rw[if_neg hc0]
  refine sq (rg (bd (css:= []) T.st25 (eC (eC eZ)) trivial (mv (sPA (cs':= [eqv (.slice none 0 0),eqv (.slice none 0 0)]) J J J T.agg25 J J (ag (nl (th (rt (rt_ ?_)))))))))
  refine kncA 4 0 (sl 1 rE_ []) rfl rfl slnil ?_
  refine kncA 4 1 (sl 2 sE []) rfl rfl slnil ?_
  have hr0: []=((divS t s).1).aC:=by
   rw[hd]
  have hr1: []=((divS t s).1).sT:=by
   rw[hd]
  have hr2:((fineE t s):Int)=((divS t s).2):=by
   rw[hd]
  exact rE () [.cell 4 25,.tmp 5] J [agg [sl 1 rE_ [],sl 2 sE []],int (fineE t s)] ⟨.agg J J T.agg25 J J,.tmp J,tV⟩ (cA3 (fun x0 x1 x2=>rV [agg [sl 1 rE_ x0,sl 2 sE x1],int x2]) hr0 hr1 hr2) trivial eX
 ·try simp at hc0
  obtain⟨htv,hsv,hts⟩:=Go.Proofs.YtcjemmihcplgdaaGreat.fine_ok hc0
  have ht:=okSpec_of htv
  have hs:=okSpec_of hsv
  refine sk (th (sq (rg (lPA J J T.agg25 J (lPA J J T.agg25 J (cal0 (φs:= [agg [sl 1 rE_ t.aC,sl 2 sE t.sT],agg [sl 1 rE_ s.aC,sl 2 sE s.sT]]) (φ:=tup [agg [sl 1 rE_ ((quoS t s).1).aC,sl 2 sE ((quoS t s).1).sT],bl ((quoS t s).2)]) ⟨J,J,tV⟩ (divq.Quotient_ok t s aS aS aS) T.ent51 (mv (xt J J (xt J J (al (key:=7) T.z25 (eC (eC eZ)) fun b7=>(sPA (cs':= [sl 1 rE_ ((quoS t s).1).aC,sl 2 sE ((quoS t s).1).sT]) J J J T.agg25 J J (ag (nl (th (sq (sq (rg (mv (no J (nl (th ?_)))))))))))))))))))))
  refine cd J (fun hc1=> ?_) (fun hc1=> ?_)
  ·try simp at hc1
   have hd:divS t s=(⟨[],[]⟩,2):=by unfold divS;rw[if_pos hc0,if_neg (by simpa using hc1)]
   refine sq (rg (bd (css:= []) T.st25 (eC (eC eZ)) trivial (sPA (cs':= [eqv (.slice none 0 0),eqv (.slice none 0 0)]) J J J T.agg25 J J (ag (nl (th (rt (rt_ ?_))))))))
   refine kncA 4 0 (sl 1 rE_ []) rfl rfl slnil ?_
   refine kncA 4 1 (sl 2 sE []) rfl rfl slnil ?_
   have hr0: []=((divS t s).1).aC:=by
    rw[hd]
   have hr1: []=((divS t s).1).sT:=by
    rw[hd]
   have hr2:(2:Int)=((divS t s).2):=by
    rw[hd]
   exact rE () [.cell 4 25,.tmp 5] J [agg [sl 1 rE_ [],sl 2 sE []],int 2] ⟨.agg J J T.agg25 J J,.tmp J,tV⟩ (cA3 (fun x0 x1 x2=>rV [agg [sl 1 rE_ x0,sl 2 sE x1],int x2]) hr0 hr1 hr2) trivial eX
  ·try simp at hc1
   have hd:divS t s=((quoS t s).1,0):=by unfold divS;rw[if_pos hc0,if_pos (by simpa using hc1)]
   refine sk (th (sq (rg (lPA J J T.agg25 J (sPA (cs':= [sl 1 rE_ ((quoS t s).1).aC,sl 2 sE ((quoS t s).1).sT]) J J J T.agg25 J J (ag (nl (th (rt ?_)))))))))
   have hr0:((quoS t s).1).aC=((divS t s).1).aC:=by
    rw[hd]
   have hr1:((quoS t s).1).sT=((divS t s).1).sT:=by
    rw[hd]
   have hr2:(0:Int)=((divS t s).2):=by
    rw[hd]
   exact rE () [.cell 4 25,.tmp 5] J [agg [sl 1 rE_ ((quoS t s).1).aC,sl 2 sE ((quoS t s).1).sT],int 0] ⟨.agg J J T.agg25 J J,.tmp J,tV⟩ (cA3 (fun x0 x1 x2=>rV [agg [sl 1 rE_ x0,sl 2 sE x1],int x2]) hr0 hr1 hr2) trivial eX
theorem Missing_ok (t s:SS) (htm:smallSpec t) (hsm:smallSpec s):
 AL.Fn Tryz.prog 16 [spec t,spec s] [] (ι:= { z:SSys × Int//MissOK t s z }) (fun _ i=>tup [sys i.1.1,int i.1.2]) (fun _=> []):=by
 refine fnI Tryz.func16 rfl rfl (fun w0 F0=> ?_)
 refine fcC (inhS 0 J) (fun hS0=> ?_)
 obtain⟨hsa0,hss0,hse0⟩:=sLn hS0
 refine fcC (inhS 1 J) (fun hS1=> ?_)
 obtain⟨hsa1,hss1,hse1⟩:=sLn hS1
 refine sq (rg (bx (key:=2) (cs:= [sl 1 rE_ t.aC,sl 2 sE t.sT]) J fun b2=>(bx (key:=3) (cs:= [sl 1 rE_ s.aC,sl 2 sE s.sT]) J fun b3=>(al (key:=4) T.z38 (eC (eC eZ)) fun b4=>(ag (nl (th (sq (rg (lPA J J T.agg25 J (lPA J J T.agg25 J (cal0 (φs:= [agg [sl 1 rE_ t.aC,sl 2 sE t.sT],agg [sl 1 rE_ s.aC,sl 2 sE s.sT]]) (φ:=tup [agg [sl 1 rE_ ((divS t s).1).aC,sl 2 sE ((divS t s).1).sT],int ((divS t s).2)]) ⟨J,J,tV⟩ (divq.Divide_ok t s aS aS) T.ent14 (mv (xt J J (xt J J (al (key:=6) T.z25 (eC (eC eZ)) fun b6=>(sPA (cs':= [sl 1 rE_ ((divS t s).1).aC,sl 2 sE ((divS t s).1).sT]) J J J T.agg25 J J (ag (nl (th (sq (sq (rg (mv (bi J J b_neq (nl (th ?_)))))))))))))))))))))))))))
 refine cd J (fun hc0=> ?_) (fun hc0=> ?_)
 ·try simp at hc0
  refine sq (rg (bd (css:= []) T.st38 (eC (eC eZ)) trivial (mv (sPA (cs':= [eqv (.slice none 0 0),eqv (.slice none 0 0)]) J J J T.agg38 J J (ag (nl (th (rt (rt_ ?_)))))))))
  refine kncA 4 0 (sl 1 rE_ []) rfl rfl slnil ?_
  refine kncA 4 1 (sl 1 gE []) rfl rfl slnil ?_
  exact rE ⟨(⟨[],[]⟩,(divS t s).2),⟨fun _=>J,fun h=>absurd h hc0⟩⟩ [.cell 4 38,.tmp 5] J [agg [sl 1 rE_ [],sl 1 gE []],int ((divS t s).2)] ⟨.agg J J T.agg38 J J,.tmp J,tV⟩ J trivial eX
 ·try simp at hc0
  have hdm:smallSpec (divS t s).1:=DivM.div_small htm hc0
  refine sk (th (sq (rg (lPA J J T.agg25 J (cl (divw.Some_ok ((divS t s).1) aS) T.ent52 trivial fun N19 i19=>(xt J J (xt J J (sPA (cs':= [sl 1 rE_ i19.1.1.aC,sl 1 gE i19.1.1.sT]) J J J T.agg38 J J (ag (nl (th (rt ?_))))))))))))
  exact rE ⟨i19.1,⟨fun h=>absurd hc0 h,fun _=>i19.2⟩⟩ [.cell 4 38,.tmp 5] J [agg [sl 1 rE_ i19.1.1.aC,sl 1 gE i19.1.1.sT],int i19.1.2] ⟨.agg J J T.agg38 J J,.tmp J,tV⟩ J trivial eX
end divq
end
end Go.Proofs.YtcjemmihcplgdaaGreat
