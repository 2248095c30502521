/- The abstract logic. Own texts of this claim, packed: MkALSortI. -/
import Derived.Test.YtnlfjojfgghchaaGreatDoorX11
import Derived.Shelf.Slices.In.SortNone
import Derived.Shelf.Slices.CompactI
import Derived.Lib.RowBridge
set_option linter.all false
set_option linter.unusedVariables false
namespace AL
open Go Go.Sort Go.Shelf
attribute [local semireducible] any eqv agg tup own osl emp
def AR (x:Int):List AV:= [int x]
theorem PW {w:World} {F:Fz} {xs:List Int} {vs:List Value} (h:Els w F 1 AR xs vs) {i:Nat} (hi:i<xs.length):vs[i]?=some (.int .i64 (ix xs i)):=by
 have h1:=h.el i (ix xs i) (by rw[aG hi];simp[hi])
 match hv:(vs.drop (i*1)).take 1,h1 with
 | [a],⟨ha,_⟩=>
   have ha:a= .int .i64 (ix xs i):=ha
   subst ha
   have:((vs.drop (i*1)).take 1)[0]?=some (.int .i64 (ix xs i)):=by rw[hv];rfl
   rw[List.getElem?_take,if_pos O,List.getElem?_drop] at this
   simpa using this
theorem Jw {xs:List Int} {i:Nat} (hi:i<xs.length):xs.toArray[i]! =ix xs i:=by
 rw[aG hi,getElem!_pos _ i (by simpa using hi)];simp
theorem Ng {w:World} {F:Fz} {xs:List Int} {vs:List Value} {g e:Nat} {cur:Array Value} (hh:w.heap[g]?=some (.cells cur e (0,0))) (hc:cur.toList.take (xs.length*1)=vs) (h:Els w F 1 AR xs vs):
 Holds (Value.int .i64) w g 0 xs.toArray:=by
 intro j hj
 have hj':j<xs.length:=by simpa using hj
 refine⟨?_,by simp[World.frozen?,hh]⟩
 rw[Jw hj']
 have hv:=PW h hj'
 rw[←hc,List.getElem?_take,if_pos O] at hv
 simp only [World.cell?,hh,Nat.zero_add]
 simpa using hv
theorem Wc {w:World} {F:Fz} {cur:Array Value} {ys zs:List Int} (hp:ys<+:zs) (hs:zs.length≤cur.size):Els w F 1 AR ys ((putCells (Value.int .i64) 0 zs.toArray cur).toList.take (ys.length*1)):=by
 have hl:=hp.length_le
 have hsz:(putCells (Value.int .i64) 0 zs.toArray cur).size=cur.size:=by simp[putCells]
 refine⟨by simp[hsz];omega,fun i x hi=> ?_⟩
 obtain⟨hlt,rfl⟩:=List.getElem?_eq_some_iff.1 hi
 have h0:(putCells (Value.int .i64) 0 zs.toArray cur).toList[i]?=some (.int .i64 (ix zs i)):=by
  rw[Array.getElem?_toList]
  unfold putCells
  rw[Array.getElem?_mapIdx,Array.getElem?_eq_getElem O,Option.map_some,if_pos ⟨Nat.zero_le _,by simp;omega⟩,Nat.sub_zero,Jw O]
 have e:(((putCells (Value.int .i64) 0 zs.toArray cur).toList.take (ys.length*1)).drop (i*1)).take 1= [.int .i64 (ix zs i)]:=by
  apply List.ext_getElem?
  intro t
  rw[List.getElem?_take]
  split
  ·next ht=>
   rw[List.getElem?_drop,List.getElem?_take,if_pos O]
   have:t=0:=by omega
   subst this
   rw[show i*1+0=i by omega,h0];rfl
  ·next ht=>rw[List.getElem?_eq_none (by simp;omega)]
 have e2:ys[i]=ix zs i:=by
  obtain⟨r,rfl⟩:=hp
  rw[aG (by simp;omega),List.getElem_append_left hlt]
 rw[e,e2]
 exact⟨rfl,tV⟩
theorem PX {w:World} {g n:Nat} {zs:List Int} {os:Array Obj} {cur:Array Value} {e:Nat} (hh:w.heap[g]?=some (.cells cur e (0,0))) (b:Nat) (hb:b<w.heap.size):
 (grow (putRow (Value.int .i64) (Sort.ahead w n) g 0 zs.toArray) os).heap[b]?=if b=g then some (.cells (putCells (Value.int .i64) 0 zs.toArray cur) e (0,0)) else w.heap[b]?:=by
 rw[heap_grow_old _ _ (show b<(w.heap.modify g _).size by simpa using hb)]
 show(w.heap.modify g _)[b]?=_
 rw[Array.getElem?_modify]
 by_cases e1:g=b
 ·subst e1;rw[if_pos rfl,if_pos rfl,hh];rfl
 ·rw[if_neg e1,if_neg (Ne.symm e1)]
theorem PY {P:Program} {ρ:Ren} (L:Go.Proofs.Lays.n189 P ρ) (kk e:Nat) (v:Value) (xs:List Int):
 Fn P (ρ.f 189) [osl kk v] [(5,own v e 1 AR xs)] (ι:=Unit) (fun _ _=>tup []) (fun _=> [(5,own v e 1 AR (xs.mergeSort fun x y=>decide (x≤y)))]):=by
 intro w F vs hvs hFb hH
 match vs,hvs with
 | [u0],⟨h0,_⟩=>
 have h0:u0=v:=h0
 subst h0
 have hp:=hH.hp 5
 rw[bB] at hp
 have hfoot:∀b,ownB u0 b→b<w.heap.size∧¬F b:=fun b hb=>⟨hH.hN 5 b (by rw[bB];exact hb),hH.hF 5 b (by rw[bB];exact hb)⟩
 obtain⟨hm,us,⟨hul,hrow⟩,hels⟩:=hp
 have hpl:(xs.mergeSort fun x y=>decide (x≤y)).length=xs.length:=List.length_mergeSort _
 by_cases hx:xs= []
 ·subst hx
  have hv:∃p cap,u0= .slice p 0 cap:=by
   rcases hrow with⟨h,_⟩|⟨g',cap,cur,h,_⟩
   ·exact⟨_,_,h⟩
   ·exact⟨_,_,h⟩
  obtain⟨p,cap,hv⟩:=hv
  rw[List.mergeSort_nil,hv]
  refine(Go.Proofs.Any.slices_Sort_int_none L p cap w).mono ?_
  rintro en w' ⟨rfl,rfl⟩
  rw[←hv]
  exact⟨(),_,F,rfl,{ res:=⟨[],rfl,tV⟩,ok:=oZ ⟨hm,us,⟨hul,hrow⟩,hels⟩ (fun b hb=>(hfoot b hb).2) (fun b hb=>(hfoot b hb).1),sub:=fun _ h=>h,new:=fun b h=> .inl h,foot:=fun b h=> .inr h,old:=fun _ _ _=>rfl,size:=Nat.le_refl _,os:=rfl,tape:=rfl,out:=rfl }⟩
 ·rcases hrow with⟨_,h⟩|⟨g',cap,cur,rfl,_,hh,hcap,hcm,hcs,htk⟩
  ·exact absurd (List.eq_nil_of_length_eq_zero h) hx
  have hgl:=(hfoot g' rfl).1
  have hcz:xs.length≤cur.size:=by omega
  have key:=Go.calls_of_every_depth fun D=>Go.Proofs.AnyS.slices_Sort_int_in L.lead D g' 0 cap xs w (Ng hh htk hels) hgl (by unfold aN at hm;omega)
  refine key.mono ?_
  rintro en w' ⟨rfl,n,os,rfl⟩
  have hheap:=PX (n:=n) (os:=os) (zs:=xs.mergeSort fun x y=>decide (x≤y)) hh
  have hsize:(grow (putRow (Value.int .i64) (Sort.ahead w n) g' 0 (xs.mergeSort fun x y=>decide (x≤y)).toArray) os).heap.size=w.heap.size+os.size:=by show((w.heap.modify g' _)++os).size=_;simp
  refine⟨(),_,F,rfl,{ res:=⟨[],rfl,tV⟩,ok:=oZ ⟨by rw[hpl];exact hm,_,⟨?_,.inr ⟨g',cap,_,by rw[hpl],Nat.zero_le _,(hheap g' hgl).trans (if_pos rfl),by rw[hpl];exact hcap,hcm,by simpa [putCells] using hcs,rfl⟩⟩,Wc List.prefix_rfl (by rw[hpl];exact hcz)⟩ (fun b hb=>(hfoot b hb).2) (fun b hb=>by rw[hsize];have:=(hfoot b hb).1;omega),sub:=fun _ h=>h,new:=fun b h=> .inl h,foot:=fun b h=> .inr ((bX 5 _ b).2 (show ownB (.slice (some ⟨g',0,none⟩) xs.length cap) b from(bX 5 _ b).1 h)),old:=fun b hb' hnf=> ?_,size:=by rw[hsize];omega,os:=rfl,tape:=rfl,out:=rfl }⟩
  ·simp[putCells];omega
  ·rw[hheap b hb',if_neg (fun e1=>hnf ((bX _ _ b).2 (by subst e1;rfl)))]
theorem PZ {P:Program} {ρ:Ren} (L:Go.Proofs.Lays2.n20 P ρ) (kk e:Nat) (v:Value) (xs:List Int):
 Fn P (ρ.f 20) [osl kk v] [(5,own v e 1 AR xs)] (ι:=Value) (fun _ v2=>osl kk v2) (fun v2=> [(5,own v2 e 1 AR (Lib.compact xs))]):=by
 intro w F vs hvs hFb hH
 match vs,hvs with
 | [u0],⟨h0,_⟩=>
 have h0:u0=v:=h0
 subst h0
 have hp:=hH.hp 5
 rw[bB] at hp
 have hfoot:∀b,ownB u0 b→b<w.heap.size∧¬F b:=fun b hb=>⟨hH.hN 5 b (by rw[bB];exact hb),hH.hF 5 b (by rw[bB];exact hb)⟩
 obtain⟨hm,us,⟨hul,hrow⟩,hels⟩:=hp
 have hpl:(Lib.compact xs).length≤xs.length:=Lib.compact_length_le xs
 by_cases hx:xs= []
 ·subst hx
  have hv:∃p cap,u0= .slice p 0 cap:=by
   rcases hrow with⟨h,_⟩|⟨g',cap,cur,h,_⟩
   ·exact⟨_,_,h⟩
   ·exact⟨_,_,h⟩
  obtain⟨p,cap,hv⟩:=hv
  have e0:Lib.compact ([]:List Int)= []:=List.eq_nil_of_length_eq_zero (by simpa using hpl)
  rw[e0,hv]
  refine(Go.Proofs.Any.slices_Compact_int_empty L p cap w).mono ?_
  rintro en w' ⟨rfl,rfl⟩
  rw[←hv]
  exact⟨u0,_,F,rfl,{ res:=rfl,ok:=oZ ⟨hm,us,⟨hul,hrow⟩,hels⟩ (fun b hb=>(hfoot b hb).2) (fun b hb=>(hfoot b hb).1),sub:=fun _ h=>h,new:=fun b h=> .inl h,foot:=fun b h=> .inr h,old:=fun _ _ _=>rfl,size:=Nat.le_refl _,os:=rfl,tape:=rfl,out:=rfl }⟩
 ·rcases hrow with⟨_,h⟩|⟨g',cap,cur,rfl,_,hh,hcap,hcm,hcs,htk⟩
  ·exact absurd (List.eq_nil_of_length_eq_zero h) hx
  have hgl:=(hfoot g' rfl).1
  have hcz:xs.length≤cur.size:=by omega
  have key:=Go.Proofs.Any.slices_Compact_int L g' 0 cap xs w (Ng hh htk hels) (by unfold aN at hm;omega) hcap
  refine key.mono ?_
  rintro en w' ⟨rfl,n,rfl⟩
  have hzl:(Lib.compact xs++List.replicate (xs.length- (Lib.compact xs).length) (0:Int)).length=xs.length:=by simp;omega
  have hheap:∀b,b<w.heap.size→(putRow (Value.int .i64) (Sort.ahead w n) g' 0 (Lib.compact xs++List.replicate (xs.length- (Lib.compact xs).length) (0:Int)).toArray).heap[b]?=if b=g' then some (.cells (putCells (Value.int .i64) 0 (Lib.compact xs++List.replicate (xs.length- (Lib.compact xs).length) (0:Int)).toArray cur) e (0,0)) else w.heap[b]?:=fun b hb=>by
   show(w.heap.modify g' _)[b]?=_
   rw[Array.getElem?_modify]
   by_cases e1:g'=b
   ·subst e1;rw[if_pos rfl,if_pos rfl,hh];rfl
   ·rw[if_neg e1,if_neg (Ne.symm e1)]
  have hsize:(putRow (Value.int .i64) (Sort.ahead w n) g' 0 (Lib.compact xs++List.replicate (xs.length- (Lib.compact xs).length) (0:Int)).toArray).heap.size=w.heap.size:=by show(w.heap.modify g' _).size=_;simp
  refine⟨_,_,F,rfl,{ res:=rfl,ok:=oZ ⟨O,_,⟨?_,.inr ⟨g',cap,_,rfl,Nat.zero_le _,(hheap g' hgl).trans (if_pos rfl),O,hcm,by simpa [putCells] using hcs,rfl⟩⟩,Wc (List.prefix_append _ _) (by rw[hzl];exact hcz)⟩ (fun b hb=>(hfoot b hb).2) (fun b hb=>by rw[hsize];exact(hfoot b hb).1),sub:=fun _ h=>h,new:=fun b h=> .inl h,foot:=fun b h=> .inr ((bX 5 _ b).2 (show ownB (.slice (some ⟨g',0,none⟩) xs.length cap) b from(bX 5 _ b).1 h)),old:=fun b hb' hnf=> ?_,size:=by rw[hsize];exact Nat.le_refl _,os:=rfl,tape:=rfl,out:=rfl }⟩
  ·simp[putCells];omega
  ·rw[hheap b hb',if_neg (fun e1=>hnf ((bX _ _ b).2 (by subst e1;rfl)))]
theorem Dy {P:Program} {f:FuncId} {args:List AV} {x:HA} {ι:Type} {y:ι→HA} {res:Nat→ι→AV} (c c':Nat) (h:Fn P f args [(c,x)] res (fun i=> [(c,y i)])):Fn P f args [(c',x)] res (fun i=> [(c',y i)]):=
 fun w F vs h1 h2 h3=>(h w F vs h1 h2 h3.rekey).mono (fun en w' hq=>by
  obtain⟨i,v,F',he,hl⟩:=hq
  exact⟨i,v,F',he,{ hl with
     res:=hl.res
     ok:=hl.ok.rekey
     new:=fun b hb=>(hl.new b hb).imp id (fun h=>h.imp id (fun h=>(bX c' x b).2 ((bX c x b).1 h)))
     foot:=fun b hb=>(hl.foot b ((bX c (y i) b).2 ((bX c' (y i) b).1 hb))).imp id (fun h=>(bX c' x b).2 ((bX c x b).1 h))
     old:=fun b hb hn=>hl.old b hb (fun h=>hn ((bX c' x b).2 ((bX c x b).1 h))) }⟩)
theorem Wd {P:Program} {f:FuncId} {args:List AV} {ι:Type} {y:ι→HA} {res:Nat→ι→AV} (c c':Nat) (h:Fn P f args [] res (fun i=> [(c,y i)])):Fn P f args [] res (fun i=> [(c',y i)]):=
 fun w F vs h1 h2 h3=>(h w F vs h1 h2 h3).mono (fun en w' hq=>by
  obtain⟨i,v,F',he,hl⟩:=hq
  exact⟨i,v,F',he,{ hl with
     res:=hl.res
     ok:=hl.ok.rekey
     foot:=fun b hb=>hl.foot b ((bX c (y i) b).2 ((bX c' (y i) b).1 hb)) }⟩)
attribute [local semireducible] clo in
theorem We {f:FuncId} {w:World} {F:Fz} {v:Value} (h:(eqv (.func (.func f) #[] #[])).p w F v):(clo f []).p w F v:=⟨[],h,tV⟩
end AL
