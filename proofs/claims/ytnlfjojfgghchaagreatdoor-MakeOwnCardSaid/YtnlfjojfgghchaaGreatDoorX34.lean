/- The abstract logic. Own texts of this claim, packed: MkALFresh2. -/
import Derived.Test.YtnlfjojfgghchaaGreatDoorX02
set_option linter.all false
set_option linter.unusedVariables false
namespace AL
open Go
attribute [local semireducible] any eqv agg tup fp ptr sl eD emp cell own obj osl dX clo pf mp mpv HS
def ItN {α:Type} (N:Nat) (P:Program) (f:FuncId) (cs:List AV) (encs:α→List AV) (xs:List α):Prop:=
 ∀(y:Value) (Y:Nat→HA→Prop) (Z:HA→Prop),
  (∀i h x,Y i h→xs[i]?=some x→FnV P y (encs x) [(0,h)] (ι:=Bool × HA) (fun _ bh=>eD ((bh.1=true→Y (i+1) bh.2)∧(bh.1=false→Z bh.2)) (bl bh.1)) (fun bh=> [(0,bh.2)]))→
  ∀h0,Y 0 h0→(∀b,h0.foot b→N≤b)→FnG N P f (eqv y::cs) [(0,h0)] (ι:=HA) (fun _ h'=>eD (Y xs.length h'∨Z h') any) (fun h'=> [(0,h')])
section
variable {P:Program} {r:Option Nat} {Q:Exit→Act→World→Prop} {B:Base} {E:Env} {H:Hp} {a:Act} {w:World} {F:Fz} {Ds:List Nat}
theorem rfN {κ α:Type} {g:Operand} {ps:Array Tmp} {assign body:Code} {f:FuncId} {cs:List AV} {encs:α→List AV} {xs:List α} (hMM:∀b,¬B.M b) (kl:Nat) (Hk:κ→Hp) (G:Nat→κ→Prop) (S:Code→κ→Prop)
 (hg:lkO g E=clo f cs) (hit:ItN B.N P f cs encs xs) (he:Ent P f) (hps:(ps.toList.all fun p=>Nat.blt p B.nt)=true) (hlen:∀x,(encs x).length=ps.size) (hkl:∀k,lkH kl (Hk k)=emp)
 (k0:κ) (g0:G 0 k0) (hH:SubH (Hk k0) H)
 (hbody:∀i k x,G i k→xs[i]?=some x→∀(l:Nat) (R:Loop) (w1:World) (M1 F1:Fz),R.state= .ready→Ct (some l) P (AQ P { w0:=w1,M:=M1,F0:=F1,nt:=B.nt } kl l R Hk (G (i+1)) S body) { w0:=w1,M:=M1,F0:=F1,nt:=B.nt } (rZ ps.toList (encs x) E) ((kl,obj l (.loop R))::Hk k) assign)
 (hdone:∀k,G xs.length k→At Q .normal B E (Hk k)) (hret:∀k,S .ret k→At Q .ret B E (Hk k)) (hexit:∀id k,S (.exit id) k→At Q (.exit id) B E (Hk k)) (hother:∀c k,S c k→c= .ret∨∃id,c= .exit id):
 Ct none P Q B E H (.rangeFunc g ps assign body):=fun a w hs0=>by
 obtain⟨F,Ds,hs⟩:=hs0.less (E':=E) (fun _ _ _ _ h=>h) hH.less
 refine wpIn_rangeFunc (fun fn _=> ?_)
 have hD:=hs.newD
 let R:Loop:= { state:= .ready,pending:=none,fn:=fn,tmps:=a.tmps,params:=ps,assign:=assign,body:=body,defers:=w.heap.size }
 have hw1:(w.alloc (.deferred (some []))).heap.size=w.heap.size+1:=by simp
 have hL:=hD.alloc kl (obj (w.heap.size+1) (.loop R)) (.loop R) (fun b hb=>by have hb:b=w.heap.size+1:=hb;omega) (by
  show((w.alloc (.deferred (some []))).alloc (.loop R)).heap[w.heap.size+1]?=some (.loop R)
  rw[←hw1];exact jR _ _)
 have hp:=hL.pack (ky:=0) rfl (hkl k0) (E0:=E) (fun t=>hL.env t)
 have hgv:=hs.opd g
 rw[hg] at hgv
 obtain⟨us,hgv,hus⟩:=hgv
 have hus2:All2 ((w.alloc (.deferred (some []))).alloc (.loop R)) F cs us:=hD.stays _ (hs.stays _ hus)
 have hinv:(invoke (.fn (.func f) us.toArray) #[.func (.yield (w.heap.size+1)) #[] #[]]).run P ((w.alloc (.deferred (some []))).alloc (.loop R))= .ok (.enter f (#[.func (.yield (w.heap.size+1)) #[] #[]]++us.toArray)) ((w.alloc (.deferred (some []))).alloc (.loop R)):=by
  simp only [invoke];exact he.run _ _
 refine⟨w.heap.size+1,_,_,{ target:= .fn (.func f) us.toArray,args:= #[.func (.yield (w.heap.size+1)) #[] #[]] },(w.alloc (.deferred (some []))).alloc (.loop R),f,#[.func (.yield (w.heap.size+1)) #[] #[]]++us.toArray,(w.alloc (.deferred (some []))).alloc (.loop R),run_enterLoop_outer fn a.tmps ps assign body,?_,fun _ _=>trivial,hinv,fun h=>(by simp at h),?_⟩
 ·have hev: #[Operand.const (Value.func (.yield (w.heap.size+1)) #[] #[])].map a.eval= #[Value.func (.yield (w.heap.size+1)) #[] #[]]:=by simp[Act.eval]
  simp only [resolve,hgv,Deferred.ofValue,hev,Sem.run_bind,Sem.run_pure,Result.andThen_ok]
  simp[R]
 have hfn:=hit (.func (.yield (w.heap.size+1)) #[] #[]) (YY (w.heap.size+1) R E Hk G) (ZZ (w.heap.size+1) R E Hk S)
  (fun i h x hY hx=>DJ (nt:=B.nt) (kl:=kl) rfl rfl hs.sz (fun p hp'=>by
    have:=(List.all_eq_true.1 hps) p hp'
    simpa using this) hlen hkl (fun i k x hG hx w1 M1 F1=>hbody i k x hG hx _ R w1 M1 F1 rfl) i h x hY hx)
  (HS (w.heap.size+1) R E (Hk k0)) ⟨k0,g0,rfl⟩ (fun b hb=>((hp.hN 0 b hb).2).elim id (fun hm=>absurd hm (hMM b)))
 have hc:=hfn _ F (.func (.yield (w.heap.size+1)) #[] #[]::us) hp.Ns ⟨rfl,hus2⟩ (fun b hb=>(hp.Fb b hb).1) ⟨hp.hp,hp.hF,hp.hd,fun k b hb=>(hp.hN k b hb).1⟩
 have hargs: #[Value.func (.yield (w.heap.size+1)) #[] #[]]++us.toArray=(Value.func (.yield (w.heap.size+1)) #[] #[]::us).toArray:=by simp
 rw[hargs]
 refine CallsIn.mono (F:=FW none) ((callsIn_wide (n:=0)).2 hc) (fun e w3 hR=> ?_)
 obtain⟨h',u,F',rfl,hl⟩:=hR
 have hcall:=hp.called (Hi:= [(0,HS (w.heap.size+1) R E (Hk k0))]) ⟨rI,tV⟩ hl
 have hlk:lkH 0 (mJ [(0,h')] [(0,HS (w.heap.size+1) R E (Hk k0))] [(0,HS (w.heap.size+1) R E (Hk k0))])=h':=bD _ _ _
 obtain⟨hYZ,_⟩:=hl.res
 have fin:∀(k:κ) (R3:Loop),h'=HS (w.heap.size+1) R3 E (Hk k)→R3.state≠ .busy→∃w4,(Instr.endLoop (w.heap.size+1)).run P w3= .ok R3.pending w4∧
  Sim B E (Hk k) { a with defers:= [{ target:= .collected w.heap.size,args:= #[] }]++a.defers } w4:=by
  intro k R3 he hb
  have hun:=hcall.unpack (kl:=kl) (by rw[hlk];exact he) (hkl k)
  have hl3:=hun.hp kl
  rw[bD] at hl3
  have hl3:w3.heap[w.heap.size+1]?=some (.loop R3):=hl3
  have hlt:w.heap.size+1<w3.heap.size:=(Array.getElem?_eq_some_iff.1 hl3).1
  refine⟨_,run_endLoop hl3 hb,?_⟩
  have hup:=hun.upd (w':=w3.putObj (w.heap.size+1) (.loop { R3 with state:= .exhausted })) kl (obj (w.heap.size+1) (.loop { R3 with state:= .exhausted })) (by simp) rfl rfl rfl
   (fun b hb' hnf=>World.putObj_heap_other (fun e=>hnf (by rw[bD];exact e))) (fun b hb'=>⟨.inl (by rw[bD];exact hb'),by have hb':b=w.heap.size+1:=hb';subst hb';simpa using hlt⟩) (World.putObj_heap_same hlt)
  refine Sim.less ⟨_,_,hup⟩ (fun _ _ _ _ h=>h) (fun t=> ?_)
  by_cases e:t=kl
  ·subst e;rw[hkl k];exact⟨fun b h=>h.elim,fun _=>trivial⟩
  ·rw[bF _ _ (Ne.symm e),bF _ _ (Ne.symm e)];exact⟨fun _ h=>h,fun h=>h⟩
 rcases hYZ with⟨k,hG,he⟩|⟨k,c,hS,he⟩
 ·obtain⟨w4,hend,hsim⟩:=fin k R he (by simp[R])
  exact⟨none,w4,hend,hdone k hG _ _ hsim⟩
 ·obtain⟨w4,hend,hsim⟩:=fin k _ he (by simp)
  refine⟨some c,w4,hend,?_⟩
  rcases hother c k hS with rfl|⟨id,rfl⟩
  ·exact wpIn_ret (hret k hS _ _ hsim)
  ·exact wpIn_exit (hexit id k hS _ _ hsim)
end
section
variable {P:Program} {r:Option Nat} {ops:Array Oper} {Q:Exit→Act→World→Prop} {rest:List Oper} {B:Base} {E:Env} {H:Hp} {a:Act} {w:World}
theorem QT {N:Nat} {h:HA} (hz:∀b,h.foot b→N≤b) (b:Nat):fB [(0,h)] b→N≤b:=fun hb=>by
 obtain⟨k,hk⟩:=hb
 by_cases e:(0:Nat)=k
 ·subst e;rw[bD] at hk;exact hz b hk
 ·rw[bF _ _ e] at hk;exact hk.elim
theorem Sim.freezeG {α:Type} {v:Value} {et n N:Nat} {enc enc':α→List AV} {xs:List α} (h:Sim B E H a w) (key t:Nat) (hN:N≤B.N) (hM:∀b,B.M b→N≤b) (he:∀x,enc' x=(enc x).map (fre N)) (hk:lkH key H=own v et n enc' xs) (ht:lk t E=osl key v):
 Sim B ((t,fre N (sl n enc xs))::E) ((key,emp)::H) a w:=by
 obtain⟨F,Ds,h⟩:=h
 refine⟨_,Ds,{ h.freeze key with env:=fun s=> ?_ }⟩
 by_cases e:t=s
 ·subst e
  rw[dR]
  have h1:=h.env t
  rw[ht] at h1
  have h1:a.tmps.getD t undef=v:=h1
  rw[h1]
  have h2:=h.hp key
  rw[hk] at h2 ⊢
  exact zH h2 he (fun b hb=>((h.hN key b (by rw[hk];exact hb)).2).elim (Nat.le_trans hN) (hM b))
 ·rw[cQ _ _ e]
  exact(h.freeze key).env s
theorem fzG {α:Type} {v:Value} {et n N:Nat} {enc':α→List AV} {xs:List α} (enc:α→List AV) (key t:Nat) (hN:N≤B.N) (hM:∀b,B.M b→N≤b) (he:∀x,enc' x=(enc x).map (fre N)) (hk:lkH key H=own v et n enc' xs) (ht:lk t E=osl key v)
 (k:St r P ops Q B ((t,fre N (sl n enc xs))::E) ((key,emp)::H) rest):St r P ops Q B E H rest:=fun a w hs=>k a w (hs.freezeG key t hN hM he hk ht)
end
end AL
