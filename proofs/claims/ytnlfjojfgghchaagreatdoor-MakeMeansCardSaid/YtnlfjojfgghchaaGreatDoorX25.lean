/- The abstract logic. Own texts of this claim, packed: MkALRegion2, MkALStr, MkALComp. -/
import Derived.Test.YtnlfjojfgghchaaGreatDoorX11
import Derived.Test.YtnlfjojfgghchaaGreatDoorX21
import Derived.Test.YtnlfjojfgghchaaGreatDoorX02
set_option linter.all false
set_option linter.unusedVariables false
namespace AL
open Go
attribute [local semireducible] any eqv agg tup fp ptr sl eG emp cell own obj osl dL clo pf mp mpv
section
variable {P:Program} {r:Option Nat} {ops:Array Oper} {Q:Exit→Act→World→Prop} {rest:List Oper} {B:Base} {E:Env} {H:Hp} {a:Act} {w:World}
variable {d ty:Nat} {pos:String} {af:Array Edge}
end
end AL
set_option linter.unusedVariables false
namespace AL
open Go
structure zY (P:Program) (T i0:TypeId):Prop where
 und:P.underlying T=some (.struct (P.fieldsOf T))
 fl:(P.fieldsOf T).toList.map (fun f=>(decide (f.name≠ "_"),f.type,f.offset))= [(true,i0,0),(true,i0,1)]
 hp:P.stoodInHeld T=false
 h0:P.underlying i0=some (.int .i64)
 hg:P.eqGuardType P.depth T=false
theorem JH {P:Program} {T i0:TypeId} (h:zY P T i0) (a b c d:Int) (w:World):(Op.equalIn 10000 T (.agg #[.int .i64 a,.int .i64 b]) (.agg #[.int .i64 c,.int .i64 d])).run P w= .ok (decide ((a,b)=(c,d))) w:=by
 rw[show(10000:Nat)=9999+1 from rfl,run_equalIn_struct w 9999 _ _ _ h.und h.hp]
 have hk:P.plainKey i0=true:=by simp[Program.plainKey,h.h0]
 have e:=h.fl
 rcases hf:(P.fieldsOf T).toList with _|⟨f0,_|⟨f1,_|⟨f2,fr⟩⟩⟩
 ·rw[hf] at e;cases e
 ·rw[hf] at e;simp at e
 ·rw[hf] at e
  simp only [List.map_cons,List.map_nil,List.cons.injEq,Prod.mk.injEq,and_true,decide_eq_true_eq] at e
  obtain⟨⟨n0,t0,o0⟩,n1,t1,o1⟩:=e
  have p0:∀(u v:Int),(part i0 #[Value.int .i64 u,.int .i64 v] 0).run P w= .ok (.int .i64 u) w:=fun u v=>run_part_plain w hk rfl
  have p1:∀(u v:Int),(part i0 #[Value.int .i64 u,.int .i64 v] 1).run P w= .ok (.int .i64 v) w:=fun u v=>run_part_plain w hk rfl
  have q:∀(u v:Int),(Op.equalIn 9999 i0 (.int .i64 u) (.int .i64 v)).run P w= .ok (u==v) w:=fun u v=>run_equalIn_int w 9998 i0 .i64 .i64 u v h.h0
  simp only [Op.eqFields,n0,n1,t0,t1,o0,o1,ne_eq,not_false_eq_true,if_true,Sem.run_bind,p0,p1,q,Result.andThen_ok,Sem.run_ite,Sem.run_pure]
  by_cases g1:a=c
  ·by_cases g2:b=d
   ·subst g1;subst g2;simp[p1,q]
   ·simp[g1,g2,p1,q]
  ·simp[g1]
 ·rw[hf] at e;simp at e
section
variable {P:Program} {r:Option Nat} {ops:Array Oper} {Q:Exit→Act→World→Prop} {rest:List Oper} {B:Base} {E:Env} {H:Hp}
variable {d ty:Nat} {pos:String} {af:Array Edge}
attribute [local semireducible] eqv agg in
theorem biN {T T' i0:TypeId} {x y:Operand} {a b c e:Int} (hx:lkO x E=agg [int a,int b]) (hy:lkO y E=agg [int c,int e]) (hT:zY P T i0)
 (k:St r P ops Q B ((d,bl (!decide ((a,b)=(c,e))))::E) H rest) (hn:Nat.blt d B.nt=true:=by rfl):
 St r P ops Q B E H ({ dst:=some d,op:= .binOp .neq T x y T',type:=ty,pos:=pos,after:=af,guard:=none }::rest):=
 fun A w h=>cF h rfl rfl hn (fun _=>nofun) (fun F Ds hs=>by
  have h1:=hs.opd x
  have h2:=hs.opd y
  rw[hx] at h1
  rw[hy] at h2
  have h1:A.eval x=cD (a,b):=eK h1
  have h2:A.eval y=cD (c,e):=eK h2
  refine⟨.bool (!decide ((a,b)=(c,e))),?_,rfl⟩
  unfold cD at h1 h2
  simp only [execOp,h1,h2,Sem.run_bind]
  rw[run_eqGuard_agg w .neq T x y _ _ hT.hg]
  simp only [Result.andThen_ok]
  rw[run_neq_struct w T,JH hT]
  rfl) k
end
end AL
set_option linter.unusedVariables false
namespace AL
open Go
attribute [local semireducible] any eqv agg tup fp ptr sl eG emp cell own obj osl dL clo pf mp mpv
section
variable {P:Program} {r:Option Nat} {ops:Array Oper} {Q:Exit→Act→World→Prop} {rest:List Oper} {B:Base} {E:Env} {H:Hp}
variable {d ty:Nat} {pos:String} {af:Array Edge}
theorem Wt {α:Type} (key:Nat) {v:Value} {e n:Nat} {enc:α→List AV} {xs:List α} (hk:lkH key H=own v e n enc xs) (hl:0<xs.length):∀a w,Sim B E H a w→∃b c,v= .slice (some ⟨b,0,none⟩) xs.length c∧xs.length≤c:=fun a w ⟨F,Ds,hs⟩=>by
 have h:=hs.hp key
 rw[hk] at h
 obtain⟨_,vs,h,_⟩:=h
 rcases h.2 with⟨_,hx⟩|⟨b,cap,c,hv,_,_,hcap,_⟩
 ·omega
 ·exact⟨b,cap,hv,hcap⟩
theorem vO {T e s n l m cap key b:Nat} {x:Operand} {lo hi:Option Operand} (hx:lkO x E=osl key (.slice (some ⟨b,0,none⟩) n cap)) (hT:IsSlice P T e s) (hlo:CY E lo 0 l) (hhi:CY E hi n m) (h1:l≤m) (h2:m≤n) (h3:n≤cap) (h4:l<cap∨l=0)
 (k:St r P ops Q B ((d,eqv (.slice (some ⟨b,l*s,none⟩) (m- l) (cap- l)))::E) H rest) (hn:Nat.blt d B.nt=true:=by rfl):
 St r P ops Q B E H ({ dst:=some d,op:= .slice T x lo hi none,type:=ty,pos:=pos,after:=af,guard:=none }::rest):=fun a w h=>
 cF h rfl rfl hn (fun _=>nofun) (fun F Ds hs=>by
  have hv:=hs.opd x
  rw[hx] at hv
  have hv:a.eval x= .slice (some ⟨b,0,none⟩) n cap:=hv
  refine⟨_,?_,rfl⟩
  have hb:(Instr.sliceBounds true n cap (lo.map a.eval) (hi.map a.eval) none).run P w= .ok (l,m,cap) w:=by
   have e1:∀(y:Operand) (j top:Nat) (c:BoundsCode),lkO y E=int (j:Int)→j≤top→(Instr.sliceBound (a.eval y) top c).run P w= .ok j w:=fun y j top c hy hj=>by
    have:=hs.opd y
    rw[hy] at this
    have this:a.eval y= .int .i64 (j:Int):=this
    have hcond:(0:Int)≤(j:Int)∧(j:Int)≤(top:Int):=by omega
    simp only [this,Instr.sliceBound,asIntOf,Sem.run_bind,Sem.run_pure,Result.andThen_ok]
    rw[if_pos hcond]
    simp
   cases lo with
   |none=>
    have hlo:l=0:=hlo
    subst hlo
    cases hi with
    |none=>
     have hhi:m=n:=hhi
     subst hhi
     simp[Instr.sliceBounds]
    |some y=>simp[Instr.sliceBounds,e1 y m cap _ hhi O]
   |some z=>
    cases hi with
    |none=>
     have hhi:m=n:=hhi
     subst hhi
     simp[Instr.sliceBounds,e1 z l m _ hlo h1]
    |some y=>simp[Instr.sliceBounds,e1 y m cap _ hhi O,e1 z l m _ hlo h1]
  simp only [execOp,hv,Instr.sliceAt,run_underlying hT.und,Instr.slice,Sem.run_bind,Result.andThen_ok,Option.map_none,hb,hT.size,Sem.run_pure]
  have:(if cap=l then(some ⟨b,0,none⟩:Option Addr) else(some ⟨b,0,none⟩:Option Addr).map (·.add (l*s)))=some ⟨b,l*s,none⟩:=by
   split
   ·next e=>rcases h4 with h4|h4
            ·omega
            ·subst h4;simp
   ·simp[iZ]
  rw[this]) k
theorem lnV {T e n m c:Nat} {A:Option Addr} {x:Operand} (hx:lkO x E=eqv (.slice A m c)) (hT:IsSlice P T e n)
 (k:St r P ops Q B ((d,int (m:Int))::E) H rest) (hn:Nat.blt d B.nt=true:=by rfl):
 St r P ops Q B E H ({ dst:=some d,op:= .call { callee:= .builtin .len,args:= #[x],argTypes:= #[T] },type:=ty,pos:=pos,after:=af,guard:=none }::rest):=fun a w h=>
 cF h rfl rfl hn (fun _=>nofun) (fun F Ds hs=>by
  have h1:=hs.opd x
  rw[hx] at h1
  have h1:a.eval x= .slice A m c:=h1
  exact⟨.int .i64 m,by simp[execOp,resolve,h1,invoke,builtin,Builtin.len_,hT.run,goInt],rfl⟩) (fun a w hs=>k a w hs)
theorem iOo {α:Type} {T e n key et b l m m0 c c0:Nat} {enc:α→List AV} {xs:List α} {x i:Operand} {j:Int} (hx:lkO x E=eqv (.slice (some ⟨b,l*n,none⟩) m c)) (hk:lkH key H=own (.slice (some ⟨b,0,none⟩) m0 c0) et n enc xs)
 (hi:lkO i E=int j) (hT:IsSlice P T e n) (h0:0≤j) (hy:j<(m:Int))
 (k:St r P ops Q B ((d,dL key (.slice (some ⟨b,0,none⟩) m0 c0) n (l+j.toNat) 0)::E) H rest) (hn:Nat.blt d B.nt=true:=by rfl):
 St r P ops Q B E H ({ dst:=some d,op:= .indexAddr T x i,type:=ty,pos:=pos,after:=af,guard:=none }::rest):=fun a w h=>
 cF h rfl rfl hn (fun _=>nofun) (fun F Ds hs=>by
  have h1:=hs.opd x
  have h2:=hs.opd i
  rw[hx] at h1
  rw[hi] at h2
  have h1:a.eval x= .slice (some ⟨b,l*n,none⟩) m c:=h1
  have h2:a.eval i= .int .i64 j:=h2
  refine⟨.pointer (some ⟨b,l*n+j.toNat*n,none⟩),?_,b,m0,c0,rfl,by rw[Nat.add_mul];rfl⟩
  simp[execOp,h1,h2,Instr.indexAt,asIntOf,hT.run,h0,hy,hT.size,iZ]) (fun a w hs=>k a w hs)
theorem NE {z:Array Value} (hz:∀u∈z.toList,u.oneCell'=true) (m:Nat):∀u∈(Builtin.zeroCells z m).toList,u.oneCell'=true:=fun u hu=>by
 unfold Builtin.zeroCells at hu
 simp only [Array.toList_map,Array.toList_range,List.mem_map,List.mem_range] at hu
 obtain⟨i,hi,rfl⟩:=hu
 have hp:0<z.size:=by
  rcases Nat.eq_zero_or_pos z.size with h|h
  ·rw[h] at hi;omega
  ·exact h
 have:=Nat.mod_lt i hp
 rw[getElem!_pos z _ this]
 exact hz _ (by simp)
theorem NF (z:Array Value) (m:Nat):(Builtin.zeroCells z m).toList.length=m*z.size:=by simp[Builtin.zeroCells]
theorem Els.take {α:Type} {w:World} {F:Fz} {n:Nat} {enc:α→List AV} {xs:List α} {vs:List Value} (h:Els w F n enc xs vs) {l:Nat} (hl:l≤xs.length):Els w F n enc (xs.take l) (vs.take (l*n)):=by
 have hlen:=h.len
 have hm:l*n≤xs.length*n:=Nat.mul_le_mul_right n hl
 refine⟨by rw[List.length_take,List.length_take,Nat.min_eq_left hl,Nat.min_eq_left O],fun i x hi=> ?_⟩
 have hil:i<l:=by
  have:=(List.getElem?_eq_some_iff.1 hi).1
  simp at this;omega
 have h1:=h.el i x (by rw[List.getElem?_take,if_pos hil] at hi;exact hi)
 have hin:(i+1)*n≤l*n:=Nat.mul_le_mul_right n hil
 rw[Nat.add_mul,Nat.one_mul] at hin
 have e:((vs.take (l*n)).drop (i*n)).take n=(vs.drop (i*n)).take n:=by
  rw[List.drop_take,List.take_take,Nat.min_eq_left O]
 rw[e];exact h1
theorem Wu {α:Type} {T e by_ n key et b l m c m0 c0:Nat} {z:List Value} {enc:α→List AV} {xs:List α} {x:Operand} (hx:lkO x E=eqv (.slice (some ⟨b,l*n,none⟩) m c)) (hk:lkH key H=own (.slice (some ⟨b,0,none⟩) m0 c0) et n enc xs)
 (hT:dW P T e n by_ z) (hz:∀u∈z,u.oneCell'=true) (hl:xs.length=l+m) (h0:0<m)
 (k:St r P ops Q B E ((key,own (.slice (some ⟨b,0,none⟩) l c0) et n enc (xs.take l))::H) rest):
 St r P ops Q B E H ({ dst:=none,op:= .call { callee:= .builtin .clear,args:= #[x],argTypes:= #[T] },type:=ty,pos:=pos,after:=af,guard:=none }::rest):=fun a w h=>
 iD (ι:=Unit) (E':=fun _=>E) (H':=fun _=>(key,own (.slice (some ⟨b,0,none⟩) l c0) et n enc (xs.take l))::H) h rfl (fun _=>nofun) (fun F Ds hs=>by
  have h1:=hs.opd x
  rw[hx] at h1
  have h1:a.eval x= .slice (some ⟨b,l*n,none⟩) m c:=h1
  have h2:=hs.hp key
  rw[hk] at h2
  obtain⟨hm,vs,h2,hels⟩:=h2
  have hfoot:(lkH key H).foot b:=by rw[hk];rfl
  have hFb:¬F b:=hs.hF key b hfoot
  obtain⟨ti,hi,hsz,_,zv,hzv,hcells,hzs⟩:=hT.info
  rcases h2.2 with⟨hv',_⟩|⟨b',cap,cur,hv',hb0,hc,hcap,hmx,hcs,htake⟩
  ·cases hv'
  simp only [Value.slice.injEq,Option.some.injEq,Addr.mk.injEq,and_true] at hv'
  obtain⟨rfl,_,rfl⟩:=hv'
  have hlm:(l+m)*n=l*n+m*n:=Nat.add_mul _ _ _
  have hmul:xs.length*n≤cur.size:=by rw[hcs];exact Nat.mul_le_mul_right n hcap
  rw[hl,hlm] at hmul
  have hzl:(Builtin.zeroCells zv.cells m).toList.length=m*n:=by rw[NF,hzs]
  have hz1:∀u∈zv.cells.toList,u.oneCell'=true:=by rw[hcells];simpa using hz
  have hst:=run_storeCells_at P b (l*n) et (Builtin.zeroCells zv.cells m).toList 0 cur w hc (by rw[hzl];omega) (NE hz1 m)
  simp only [Nat.add_zero] at hst
  obtain⟨q,rfl⟩:∃q,m=q+1:=⟨m- 1,O⟩
  refine⟨.tuple #[],w.setRow b (cur.toList.take (l*n)++(Builtin.zeroCells zv.cells (q+1)).toList++cur.toList.drop (l*n+(Builtin.zeroCells zv.cells (q+1)).toList.length)).toArray,?_,(),F,Ds,SimF.putNone (hs.row key _ _ hfoot (fun b' hb'=>by rw[hk];exact hb') ?_)⟩
  ·simp only [execOp,resolve,Sem.run_bind,Sem.run_pure,Result.andThen_ok,invoke,builtin,List.map_toArray,List.map_cons,List.map_nil,h1]
   have hzr:(zeroValue e).run P w= .ok zv w:=by simp[zeroValue,typeInfo,program,hi,Sem.run,hzv]
   have:(Builtin.clear_ #[T] ty #[.slice (some ⟨b,l*n,none⟩) (q+1) c]).run P w= .ok (.tuple #[]) (w.setRow b (cur.toList.take (l*n)++(Builtin.zeroCells zv.cells (q+1)).toList++cur.toList.drop (l*n+(Builtin.zeroCells zv.cells (q+1)).toList.length)).toArray):=by
    simp[Builtin.clear_,run_underlying hT.und,hzr,hst]
   rw[this];rfl
  ·have hlx:l≤xs.length:=by omega
   have htl:(xs.take l).length=l:=by simp;omega
   have hvl:=hels.len
   refine⟨by rw[htl];omega,vs.take (l*n),⟨?_,.inr ⟨b,c0,_,by rw[htl],Nat.zero_le _,setRow_heap w b cur _ et _ hc,by rw[htl];omega,hmx,?_,?_⟩⟩,?_⟩
   ·rw[htl];simp;rw[hvl,hl,hlm];omega
   ·simp[hzl];omega
   ·rw[htl,←htake]
    show((cur.toList.take (l*n)++(Builtin.zeroCells zv.cells (q+1)).toList++cur.toList.drop (l*n+(Builtin.zeroCells zv.cells (q+1)).toList.length))).take (l*n)=_
    have m1:(cur.toList.take (l*n)).length=l*n:=by simp;omega
    rw[List.append_assoc,List.take_append_of_le_length O,List.take_of_length_le O,List.take_take,Nat.min_eq_left (by rw[hl,hlm];omega)]
   ·exact(hels.take hlx).st (fun _ h=>h) (fun x hx=>setRow_other w b x _ (fun e=>hFb (e▸hx)))) (fun _=>fun a w hs=>k a w hs)
theorem fzL {α:Type} {v:Value} {et n:Nat} {enc':α→List AV} {xs:List α} (enc:α→List AV) (encL:List α→List AV) (key t0 t:Nat) (hM:∀b,¬B.M b) (he:∀x,enc' x=(enc x).map (fre B.N)) (hk:lkH key H=own v et n enc' xs) (h0:lk t0 E=osl key v) (ht:lk t E=sl 1 id [[osl key v]]) (hne:t0≠t) (hE:encL xs= [fre B.N (sl n enc xs)])
 (k:St r P ops Q B ((t,sl 1 encL [xs])::(t0,fre B.N (sl n enc xs))::E) ((key,emp)::H) rest):St r P ops Q B E H rest:=fun a w hs=>by
 obtain⟨F0,D0,hs0⟩:=id hs
 have hv:=hs0.env t0
 rw[h0] at hv
 obtain⟨F,Ds,h1⟩:=hs.freezeN key t0 hM he hk h0
 refine k a w ⟨F,Ds,{ h1 with env:=fun s=> ?_ }⟩
 by_cases e:t=s
 ·subst e
  rw[cR]
  have h2:=h1.env t
  rw[bU _ _ hne,ht] at h2
  have h3:=h1.env t0
  rw[cR] at h3
  have hv:_=v:=hv
  rw[hv] at h3
  obtain⟨A,cap,g1,g2,g3,g4⟩:=h2
  refine⟨A,cap,g1,g2,g3,fun _=> ?_⟩
  obtain⟨b,off,vs,q1,q2,q3,q4⟩:=g4 (by simp)
  refine⟨b,off,vs,q1,q2,q3,⟨q4.len,fun i x hi=> ?_⟩⟩
  have hi0:i=0:=by
   have:=(List.getElem?_eq_some_iff.1 hi).1
   simpa using this
  subst hi0
  have hx:xs=x:=by simpa using hi
  subst hx
  have h5:=q4.el 0 [osl key v] rfl
  match hw:(vs.drop (0*1)).take 1,h5 with
  | [z],h5=>
    have hz:z=v:=h5.1
    subst hz
    rw[hE]
    exact⟨h3,tV⟩
 ·rw[bU _ _ e];exact h1.env s
theorem Wv {T i0:TypeId} {x y:Operand} {a b c d:Int} (hK:P.underlying T=some (.array 2 i0)) (h0:P.underlying i0=some (.int .i64)) (hc:P.cellsOf i0=1) (hg:P.eqGuardType P.depth T=false):
 cP P .neq T x y (.agg #[.int .i64 a,.int .i64 b]) (.agg #[.int .i64 c,.int .i64 d]) (.bool (!decide ((a,b)=(c,d)))):=fun w=>by
 have hq:=Nh (x:=x) (y:=y) (a:=a) (b:=b) (c:=c) (d:=d) hK h0 hc hg w
 have e1:∀o,(eqGuard o T x y (.agg #[.int .i64 a,.int .i64 b]) (.agg #[.int .i64 c,.int .i64 d])).run P w= .ok () w:=fun o=>by
  simp[eqGuard,hg]
 simp only [Sem.run_bind,e1,Result.andThen_ok,binOp] at hq ⊢
 cases he:(Op.equal T (.agg #[.int .i64 a,.int .i64 b]) (.agg #[.int .i64 c,.int .i64 d])).run P w with
 |ok v w'=>
  rw[he] at hq
  simp only [Result.andThen_ok,Sem.run_pure,Result.ok.injEq,Value.bool.injEq] at hq ⊢
  obtain⟨rfl,rfl⟩:=hq
  simp
 |_=>rw[he] at hq;simp[Result.andThen] at hq
theorem Yn {T T' i0:TypeId} {x y:Operand} {a b c e:Int} (hx:lkO x E=agg [int a,int b]) (hy:lkO y E=agg [int c,int e]) (hK:P.underlying T=some (.array 2 i0)) (h0:P.underlying i0=some (.int .i64)) (hc:P.cellsOf i0=1) (hg:P.eqGuardType P.depth T=false)
 (k:St r P ops Q B ((d,bl (!decide ((a,b)=(c,e))))::E) H rest) (hn:Nat.blt d B.nt=true:=by rfl):
 St r P ops Q B E H ({ dst:=some d,op:= .binOp .neq T x y T',type:=ty,pos:=pos,after:=af,guard:=none }::rest):=
 fun A w h=>cF h rfl rfl hn (fun _=>nofun) (fun F Ds hs=>by
  have h1:=hs.opd x
  have h2:=hs.opd y
  rw[hx] at h1
  rw[hy] at h2
  have h1:A.eval x=cD (a,b):=eK h1
  have h2:A.eval y=cD (c,e):=eK h2
  refine⟨.bool (!decide ((a,b)=(c,e))),?_,rfl⟩
  have:=Wv (x:=x) (y:=y) (a:=a) (b:=b) (c:=c) (d:=e) hK h0 hc hg w
  unfold cD at h1 h2
  simp only [execOp,h1,h2,Sem.run_bind] at this ⊢
  rw[this];rfl) k
theorem biE {T T' i0:TypeId} {x y:Operand} {a b c e:Int} (hx:lkO x E=agg [int a,int b]) (hy:lkO y E=agg [int c,int e]) (hT:zY P T i0)
 (k:St r P ops Q B ((d,bl (decide ((a,b)=(c,e))))::E) H rest) (hn:Nat.blt d B.nt=true:=by rfl):
 St r P ops Q B E H ({ dst:=some d,op:= .binOp .eql T x y T',type:=ty,pos:=pos,after:=af,guard:=none }::rest):=
 fun A w h=>cF h rfl rfl hn (fun _=>nofun) (fun F Ds hs=>by
  have h1:=hs.opd x
  have h2:=hs.opd y
  rw[hx] at h1
  rw[hy] at h2
  have h1:A.eval x=cD (a,b):=eK h1
  have h2:A.eval y=cD (c,e):=eK h2
  refine⟨.bool (decide ((a,b)=(c,e))),?_,rfl⟩
  unfold cD at h1 h2
  simp only [execOp,h1,h2,Sem.run_bind]
  rw[run_eqGuard_agg w .eql T x y _ _ hT.hg]
  simp only [Result.andThen_ok,binOp]
  rw[show Op.equal T (Value.agg #[Value.int IntKind.i64 a,Value.int IntKind.i64 b]) (Value.agg #[Value.int IntKind.i64 c,Value.int IntKind.i64 e])=Op.equalIn 10000 T (Value.agg #[Value.int IntKind.i64 a,Value.int IntKind.i64 b]) (Value.agg #[Value.int IntKind.i64 c,Value.int IntKind.i64 e]) from rfl]
  simp only [Sem.run_bind,JH hT,Result.andThen_ok,Sem.run_pure]) k
end
end AL
