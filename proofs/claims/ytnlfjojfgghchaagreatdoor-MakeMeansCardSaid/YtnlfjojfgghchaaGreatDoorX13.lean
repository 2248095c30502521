/- The abstract logic. Own texts of this claim, packed: MkALOpen. -/
import Derived.Test.YtnlfjojfgghchaaGreatDoorX02
import Derived.Deep.Slices
import Derived.Deep.Strs
import Derived.Carry
import Derived.SizedLaws
import Derived.RowKit
set_option linter.all false
set_option linter.unusedVariables false
namespace AL
open Go Go.ChangeShapes Go.WideShapes Go.Deep Go.RowKit
attribute [local semireducible] any eqv agg tup fp ptr sl eG emp cell own obj osl dL
def kX (w:World):Fz:=fun b=>b<w.heap.size
theorem Eu {w:World} {a:Addr} {v:Value} (h:w.cell? a=some v):a.spot=none∧a.block<w.heap.size∧∃c ty fr,w.heap[a.block]?=some (.cells c ty fr)∧c[a.off]?=some v:=by
 unfold World.cell? at h
 split at h
 ·next c ty fr hc=>
  split at h
  ·cases h
  ·next hs=>
   refine⟨by simpa using hs,(Array.getElem?_eq_some_iff.1 hc).1,c,ty,fr,hc,h⟩
 ·cases h
theorem add_add (a:Addr) (x y:Nat):(a.add x).add y=a.add (x+y):=by
 unfold Addr.add
 by_cases hx:x=0
 ·subst hx;simp
 ·by_cases hy:y=0
  ·subst hy;simp[hx]
  ·simp[hx,hy];omega
theorem Iq {w:World} {a:Addr} {n:Nat} {f:Nat→Value} (h0:0<n) (h:∀j,j<n→w.cell? (a.add j)=some (f j)):a=⟨a.block,a.off,none⟩∧a.block<w.heap.size∧rdAt w a.block a.off ((List.range n).map f):=by
 have hz:=h 0 h0
 have e0:a.add 0=a:=rfl
 rw[e0] at hz
 obtain⟨h1,h2,c,ty,fr,hc,h3⟩:=Eu hz
 have ea:a=⟨a.block,a.off,none⟩:=by cases a;simp_all
 refine⟨ea,h2,c,ty,fr,hc,fun j v hj=> ?_⟩
 rw[List.getElem?_map] at hj
 cases hr:(List.range n)[j]? with
 |none=>rw[hr] at hj;cases hj
 |some k=>
  rw[hr] at hj
  obtain⟨hk,hk2⟩:=List.getElem?_eq_some_iff.1 hr
  simp at hk hk2
  subst hk2
  have hj:f j=v:=by simpa using hj
  have hjc:=h j hk
  rw[ea,iZ] at hjc
  obtain⟨_,_,c',ty',fr',hc',h4⟩:=Eu hjc
  have hc':w.heap[a.block]?=some (.cells c' ty' fr'):=hc'
  rw[hc] at hc'
  cases hc'
  rw[←hj];exact h4
section
variable {H:Type} {enc:TypeId × Value→H} {P:Program} {w:World}
theorem Pz {α:Type} [Inhabited α] {n:Nat} {E:α→List AV} {t e:TypeId} {fuel:Nat} {v:Value} {x:DataW H × List MemPlace} (ht:P.underlying t=some (.slice e)) (hc:P.cellsOf e=n) (hn:0<n) (hby:1≤P.bytesOf e)
 (h:DataW.trod enc P w 0 (fun _=>true) true fuel t [v]=some x) (hz:∀k∈x.1.weights P t,k≤reachBytes) (Good:α→Prop)
 (hel:∀(m:Nat) (cs:List Value) (y:DataW H × List MemPlace),DataW.trod enc P w 0 (fun _=>true) true m e cs=some y→(∀k∈y.1.weights P e,k≤reachBytes)→cs.length=n→∃a:α,All2 w (kX w) (E a) cs∧Good a):
 ∃ys:List α,(sl n E ys).p w (kX w) v∧(∀y∈ys,Good y)∧ys.length*P.bytesOf e≤aN:=by
 rcases open_slice ht h with⟨hcs,_⟩|⟨a,len,cap,m,f,D,Pl,hcs,_,hl,hm,hmm,rfl,hx⟩
 ·have hv:v= .slice none 0 0:=by simpa using hcs
  subst hv
  exact⟨[],⟨none,0,rfl,Nat.le_refl _,Nat.zero_le _,fun h=>absurd rfl h⟩,fun y hy=>(by cases hy),by simp⟩
 ·have hv:v= .slice (some a) len cap:=by simpa using hcs
  subst hv
  have hmc:m=cap:=by simpa using hmm
  subst hmc
  have hwt:∀k∈(DataW.slice ((List.range len).map D) ((List.range (m- len)).map fun j=>D (len+j)):DataW H).weights P t,k≤reachBytes:=hz
  unfold DataW.weights at hwt
  rw[ht] at hwt
  dsimp only at hwt
  have hlen:len≤aN:=by
   have h1:=hwt _ (List.mem_cons_self ..)
   simp only [List.length_map,List.length_range] at h1
   have h2:len+(m- len)≤(len+(m- len))*P.bytesOf e:=Nat.le_mul_of_pos_right _ hby
   have h3:reachBytes≤aN:=by decide
   omega
  have hlenB:len*P.bytesOf e≤aN:=by
   have h1:=hwt _ (List.mem_cons_self ..)
   simp only [List.length_map,List.length_range] at h1
   have h2:len*P.bytesOf e≤(len+(m- len))*P.bytesOf e:=Nat.mul_le_mul_right _ O
   have h3:reachBytes≤aN:=by decide
   omega
  have hwe:∀i,i<len→∀k∈(D i).weights P e,k≤reachBytes:=fun i hi k hk=>by
   refine hwt k (List.mem_cons_of_mem _ (List.mem_append.2 (.inl ?_)))
   have:∀(l:List (DataW H)),D i∈l→k∈DataW.weightsAll P e l:=fun l=>by
    induction l with
    |nil=>intro h;cases h
    |cons d r ih=>
     intro h
     unfold DataW.weightsAll
     rcases List.mem_cons.1 h with rfl|h
     ·exact List.mem_append.2 (.inl hk)
     ·exact List.mem_append.2 (.inr (ih h))
   exact this _ (List.mem_map.2 ⟨i,List.mem_range.2 hi,rfl⟩)
  have hall:∀i,i<len→∃z:α × List Value,w.cells? 0 (a.add (i*n)) n=some z.2∧All2 w (kX w) (E z.1) z.2∧Good z.1:=fun i hi=>by
   obtain⟨cs,h1,h2⟩:=hx i O
   rw[hc] at h1
   obtain⟨_,h3,_⟩:=World.cells?_some h1
   obtain⟨y,hy,hg⟩:=hel f cs (D i,Pl i) h2 (hwe i hi) h3
   exact⟨(y,cs),h1,hy,hg⟩
  obtain⟨Z,hZ⟩:=choose_lt hall
  have hcl:∀j,j<len*n→w.cell? (a.add j)=some ((Z (j/n)).2.getD (j % n) undef):=fun j hj=>by
   have hq:j/n<len:=(Nat.div_lt_iff_lt_mul hn).2 hj
   have hr:j % n<n:=Nat.mod_lt _ hn
   obtain⟨_,hl2,hce⟩:=World.cells?_some (hZ _ hq).1
   have:=hce (j % n) hr
   have e:(a.add (j/n*n)).add (j % n)=a.add j:=by
    rw[add_add,Nat.div_add_mod']
   rw[e] at this
   rw[this,List.getD_eq_getElem?_getD,List.getElem?_eq_getElem O];rfl
  refine⟨(List.range len).map fun i=>(Z i).1,⟨some a,m,by simp,by simpa using hl,by simpa using hlen,fun hne=> ?_⟩,fun y hy=> ?_,by simpa using hlenB⟩
  ·have hpos:0<len:=by
    rcases Nat.eq_zero_or_pos len with h0|h0
    ·subst h0;exact absurd rfl hne
    ·exact h0
   obtain⟨r1,r2,r3⟩:=Iq (Nat.mul_pos hpos hn) hcl
   refine⟨a.block,a.off,_,by rw[←r1],r2,r3,⟨by simp,fun i y hi=> ?_⟩⟩
   rw[List.getElem?_map] at hi
   cases hr:(List.range len)[i]? with
   |none=>rw[hr] at hi;cases hi
   |some k=>
    rw[hr] at hi
    obtain⟨hk,hk2⟩:=List.getElem?_eq_some_iff.1 hr
    simp at hk hk2
    subst hk2
    have hi:(Z i).1=y:=by simpa using hi
    subst hi
    obtain⟨g1,g2,g3⟩:=hZ i hk
    obtain⟨_,hl2,_⟩:=World.cells?_some g1
    have e:(((List.range (len*n)).map fun j=>(Z (j/n)).2.getD (j % n) undef).drop (i*n)).take n=(Z i).2:=by
     apply List.ext_getElem?
     intro q
     rw[List.getElem?_take]
     split
     ·next hq=>
      have hin:i*n+q<len*n:=by
       have:(i+1)*n≤len*n:=Nat.mul_le_mul_right _ hk
       rw[Nat.succ_mul] at this
       omega
      rw[List.getElem?_drop,List.getElem?_map,List.getElem?_range hin]
      have e1:(i*n+q)/n=i:=by rw[Nat.mul_comm,Nat.mul_add_div hn,Nat.div_eq_of_lt hq,Nat.add_zero]
      have e2:(i*n+q) % n=q:=by rw[Nat.mul_comm,Nat.mul_add_mod,Nat.mod_eq_of_lt hq]
      simp only [Option.map_some,e1,e2]
      rw[List.getD_eq_getElem?_getD,List.getElem?_eq_getElem O];rfl
     ·next hq=>rw[List.getElem?_eq_none O]
    rw[e];exact g2
  ·obtain⟨i,hi,rfl⟩:=List.mem_map.1 hy
   exact(hZ i (List.mem_range.1 hi)).2.2
theorem sI {α:Type} [Inhabited α] {n:Nat} {E:α→List AV} {t e:TypeId} {fuel:Nat} {v:Value} {x:DataW H × List MemPlace} (ht:P.underlying t=some (.slice e)) (hc:P.cellsOf e=n) (hn:0<n) (hby:1≤P.bytesOf e)
 (h:DataW.trod enc P w 0 (fun _=>true) true fuel t [v]=some x) (hz:∀k∈x.1.weights P t,k≤reachBytes) (Good:α→Prop)
 (hel:∀(m:Nat) (cs:List Value) (y:DataW H × List MemPlace),DataW.trod enc P w 0 (fun _=>true) true m e cs=some y→(∀k∈y.1.weights P e,k≤reachBytes)→cs.length=n→∃a:α,All2 w (kX w) (E a) cs∧Good a):
 ∃ys:List α,(sl n E ys).p w (kX w) v∧∀y∈ys,Good y:=
 let⟨ys,h1,h2,_⟩:=Pz ht hc hn hby h hz Good hel
 ⟨ys,h1,h2⟩
theorem Cq {t e:TypeId} {fuel:Nat} {v:Value} {x:DataW H × List MemPlace} (ht:P.underlying t=some (.slice e)) (he:P.underlying e=some (.int .i64)) (hc:P.cellsOf e=1) (hby:1≤P.bytesOf e)
 (h:DataW.trod enc P w 0 (fun _=>true) true fuel t [v]=some x) (hz:∀k∈x.1.weights P t,k≤reachBytes):
 ∃ys:List Int,(sl 1 (fun y=> [int y]) ys).p w (kX w) v∧∀y∈ys,-9223372036854775808≤y∧y≤9223372036854775807:=
 sI ht hc (by decide) hby h hz (fun y=> -9223372036854775808≤y∧y≤9223372036854775807) (fun m cs y hy _ _=>by
  obtain⟨n,rfl,rfl,hw⟩:=DataW.trod_int he hy
  refine⟨n,⟨rfl,tV⟩,?_⟩
  have hw:decide (IntKind.i64.min≤n∧n≤IntKind.i64.max)=true:=by simpa [Lit.wf] using hw
  have h1:IntKind.i64.min= -9223372036854775808:=by decide
  have h2:IntKind.i64.max=9223372036854775807:=by decide
  rw[h1,h2] at hw
  simpa using hw)
theorem Cr {t e:TypeId} {fuel:Nat} {v:Value} {x:DataW H × List MemPlace} (ht:P.underlying t=some (.slice e)) (he:P.underlying e=some .string) (hc:P.cellsOf e=1) (hby:1≤P.bytesOf e)
 (h:DataW.trod enc P w 0 (fun _=>true) true fuel t [v]=some x) (hz:∀k∈x.1.weights P t,k≤reachBytes):
 ∃ys:List ByteArray,(sl 1 (fun y=> [str y]) ys).p w (kX w) v:=
 let⟨ys,h1,_⟩:=sI ht hc (by decide) hby h hz (fun _=>True) (fun m cs y hy _ _=>by
  obtain⟨s,rfl,_,_⟩:=DataW.trod_string he hy
  exact⟨s,⟨rfl,tV⟩,tV⟩)
 ⟨ys,h1⟩
theorem PD {fn:Func} {s:ChangeSpec} {ds gs:List (DataW H)} {before:List MemPlace} {W W':World} {args:Array Value} {ts:List TypeId} {tb:TypeId} (hlo:laidOutB P=true) (hp:fn.params.toList=ts) (hr:fn.resultTypes= #[tb]) (hb:P.underlying tb=some .bool)
 (hts:ts.all (fun t=>P.readableRec t&&decide (t<P.types.size))=true) (hv:s.vars= [])
 (hfn:s.fn H (ds++gs)= { results:= [.lit (.bool true)],args:=ds }) (hW:DataW.Whole enc P fn.params.toList s.vars false W args.toList ds gs before) (hbl:Below W.heap.size W W'):
 s.post enc P fn false true false false W args (.bool true) W':=by
 have hlt:∀p∈before,p.block<W.heap.size:=fun p hp=>hW.lt p hp
 have hW0:=hW
 obtain⟨p,q,hA,hV,rfl,_,_⟩:=hW
 have hall:∀{ts:List TypeId} {vs:List Value} {ds:List (DataW H)} {ps:List MemPlace},ts.all (fun t=>P.readableRec t&&decide (t<P.types.size))=true→(∀x∈ps,x.block<W.heap.size)→DataW.TrodAll enc P W 0 (fun _=>true) true ts vs ds ps→
  DataW.TrodAll enc P W' 0 (fun b=>decide (b<W.heap.size)) true ts vs ds ps:=by
  intro ts
  induction ts with
  |nil=>intro vs ds ps _ _ h;cases vs<;>cases ds<;>first|exact h|exact h.elim
  |cons t ts ih=>
   intro vs ds ps ht hps h
   match vs,ds,h with
   |v::vs,d::ds,⟨p1,p2,h1,h2,e⟩=>
    subst e
    simp only [List.all_cons,Bool.and_eq_true,decide_eq_true_eq] at ht
    refine⟨p1,p2,Below.trod hlo ht.1.1 ht.1.2 h1 hbl (fun x hx=>hps x (by simp[hx])),ih ?_ (fun x hx=>hps x (by simp[hx])) h2,rfl⟩
    simpa using ht.2
 have hq:gs= []∧q= []:=by
  rw[hv] at hV
  cases gs with
  |nil=>exact⟨rfl,hV⟩
  |cons g r=>exact absurd hV (by intro h;cases h)
 obtain⟨rfl,rfl⟩:=hq
 refine⟨ds,[],p++ [],[],p,[],hW0,?_,?_,?_,hbl.frame _,fun h=>by cases h⟩
 ·rw[hfn,hr]
  exact trodAll_mk1 ⟨1,by simp[DataW.trod,hb,Value.cells]⟩
 ·rw[hfn]
  rw[hp] at hA ⊢
  exact hall hts (fun x hx=>hlt x (by simp[hx])) hA
 ·rw[hfn,hv];rfl
theorem KF {ι:Type} {res:Nat→ι→AV} {Ho:ι→Hp} {i:ι} {v:Value} {F F':Fz} {W W':World} (h:Left W F [] res Ho i v F' W'):Below W.heap.size W W':=
 ⟨h.os,h.tape,h.out,h.size,fun k hk=>h.old k hk (fun⟨j,hj⟩=>hj.elim)⟩
end
end AL
