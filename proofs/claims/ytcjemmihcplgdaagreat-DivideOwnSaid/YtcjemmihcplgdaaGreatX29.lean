/- The abstract logic. Own texts of this claim, packed: ZzALStr. -/
import Derived.Test.YtcjemmihcplgdaaGreatX19
import Derived.Test.YtcjemmihcplgdaaGreatX27
set_option linter.all false
set_option linter.unusedVariables false
namespace AL
open Go
structure TwoInts (P:Program) (T i0:TypeId):Prop where
 und:P.underlying T=some (.struct (P.fieldsOf T))
 fl:(P.fieldsOf T).toList.map (fun f=>(decide (f.name≠ "_"),f.type,f.offset))= [(true,i0,0),(true,i0,1)]
 hp:P.stoodInHeld T=false
 h0:P.underlying i0=some (.int .i64)
 hg:P.eqGuardType P.depth T=false
theorem eq2_run {P:Program} {T i0:TypeId} (h:TwoInts P T i0) (a b c d:Int) (w:World):(Op.equalIn 10000 T (.agg #[.int .i64 a,.int .i64 b]) (.agg #[.int .i64 c,.int .i64 d])).run P w= .ok (decide ((a,b)=(c,d))) w:=by
 rw[show(10000:Nat)=9999+1 from rfl,run_equalIn_struct w 9999 _ _ _ h.und h.hp]
 have hk:P.plainKey i0=true:=by simp[Program.plainKey,h.h0]
 have e:=h.fl
 rcases hf:(P.fieldsOf T).toList with _|⟨f0,_|⟨f1,_|⟨f2,fr⟩⟩⟩
 ·rw[hf] at e;cases e
 ·rw[hf] at e;simp at e
 ·rw[hf] at e
  simp only [List.map_cons,List.map_nil,List.cons.injEq,Prod.mk.injEq,and_true,decide_eq_true_eq] at e
  obtain⟨⟨n0,t0,o0⟩,n1,t1,o1⟩:=e
  have p0:∀(u v:Int),(part i0 #[Value.int .i64 u,.int .i64 v] 0).run P w= .ok (.int .i64 u) w:=fun u v=>run_part_plain w hk rfl
  have p1:∀(u v:Int),(part i0 #[Value.int .i64 u,.int .i64 v] 1).run P w= .ok (.int .i64 v) w:=fun u v=>run_part_plain w hk rfl
  have q:∀(u v:Int),(Op.equalIn 9999 i0 (.int .i64 u) (.int .i64 v)).run P w= .ok (u==v) w:=fun u v=>run_equalIn_int w 9998 i0 .i64 .i64 u v h.h0
  simp only [Op.eqFields,n0,n1,t0,t1,o0,o1,ne_eq,not_false_eq_true,if_true,Sem.run_bind,p0,p1,q,Result.andThen_ok,Sem.run_ite,Sem.run_pure]
  by_cases g1:a=c
  ·by_cases g2:b=d
   ·subst g1;subst g2;simp[p1,q]
   ·simp[g1,g2,p1,q]
  ·simp[g1]
 ·rw[hf] at e;simp at e
section
variable {P:Program} {r:Option Nat} {ops:Array Oper} {Q:Exit→Act→World→Prop} {rest:List Oper} {B:Base} {E:Env} {H:Hp}
variable {d ty:Nat} {pos:String} {af:Array Edge}
attribute [local semireducible] eqv agg in
theorem biN {T T' i0:TypeId} {x y:Operand} {a b c e:Int} (hx:lkO x E=agg [int a,int b]) (hy:lkO y E=agg [int c,int e]) (hT:TwoInts P T i0)
 (k:St r P ops Q B ((d,bl (!decide ((a,b)=(c,e))))::E) H rest) (hn:Nat.blt d B.nt=true:=by rfl):
 St r P ops Q B E H ({ dst:=some d,op:= .binOp .neq T x y T',type:=ty,pos:=pos,after:=af,guard:=none }::rest):=
 fun A w h=>op_val h rfl rfl hn (fun _=>nofun) (fun F Ds hs=>by
  have h1:=hs.opd x
  have h2:=hs.opd y
  rw[hx] at h1
  rw[hy] at h2
  have h1:A.eval x=pairV (a,b):=agg_pair h1
  have h2:A.eval y=pairV (c,e):=agg_pair h2
  refine⟨.bool (!decide ((a,b)=(c,e))),?_,rfl⟩
  unfold pairV at h1 h2
  simp only [execOp,h1,h2,Sem.run_bind]
  rw[run_eqGuard_agg w .neq T x y _ _ hT.hg]
  simp only [Result.andThen_ok]
  rw[run_neq_struct w T,eq2_run hT]
  rfl) k
attribute [local semireducible] any eqv agg tup fp ptr sl exi andp above emp cell own obj osl eptr clo pf mp mpv in
theorem lregV {α β:Type} {x:Operand} {D:Fz} {ψs:List AV} {vs:List Value} {z:Value} {i j n m:Nat} {enc:α→List AV} {xs:List α} {enc':β→List AV} {ys:List β} (key:Nat) (h:lkO x E=agg [eqv z,eqv (sv (ix vs i)),eqv (sv (ix vs j))]) (hk:lkH key H=reg D ψs vs) (hi:ψs[i]?=some (sl n enc xs)) (hj:ψs[j]?=some (sl m enc' ys)):Lent B E H x (agg [eqv z,sl n enc xs,sl m enc' ys]):=fun {a w F Ds} hs=>by
 have h1:=hs.opd x
 rw[h] at h1
 obtain⟨us,hu,ha⟩:=h1
 match us,ha with
 | [u2,u0,u1],⟨g2,g0,g1,_⟩=>
   have g0:u0=sv (ix vs i):=g0
   have g1:u1=sv (ix vs j):=g1
   have h2:=reg_get hs hk hi
   have h3:=reg_get hs hk hj
   subst g0;subst g1
   rw[sl_sv h2,sl_sv h3] at hu
   rw[hu]
   exact⟨[u2,ix vs i,ix vs j],rfl,g2,(sl n enc xs).st (fun b hb=> .inr (reg_foot hk hb)) (fun _ _=>rfl) h2,(sl m enc' ys).st (fun b hb=> .inr (reg_foot hk hb)) (fun _ _=>rfl) h3,tV⟩
end
attribute [local semireducible] eqv tup in
theorem tup2_fre {N:Nat} {x y:Value} {w:World} {F:Fz} {v:Value} (h:(tup [eqv x,eqv y]).p w F v):(fre N (tup [eqv x,eqv y])).p w F v:=by
 obtain⟨vs,hv,ha⟩:=h
 match vs,ha with
 | [a,b],⟨h0,h1,_⟩=>exact⟨[a,b],hv,h0,h1,tV⟩
attribute [local semireducible] eqv in
theorem eqv_fre {N:Nat} {x:Value} {w:World} {F:Fz} {v:Value} (h:(eqv x).p w F v):(fre N (eqv x)).p w F v:=h
end AL
