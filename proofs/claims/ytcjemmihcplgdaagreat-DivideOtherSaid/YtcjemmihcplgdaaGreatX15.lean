/- The walks of the functions and the plain laws. Own texts of this claim, packed: ZzLawZ, ZzJudgM, Zzsysw, Zzdivr, Zzdivs, ZzLevM, Zzdivd, ZzJudgM2, Zzrefj, Zzdive, ZzLevM2. -/
import Derived.Test.YtcjemmihcplgdaaGreatX04
import Derived.Test.YtcjemmihcplgdaaGreatX13
import Derived.SizedLaws
import Derived.Test.YtcjemmihcplgdaaGreatX14
import Derived.Test.YtcjemmihcplgdaaGreatRows
import Derived.ProofKit
import Derived.Lib.SmallJoins
import Derived.OpenShut
import Derived.Stop.Joined
import Derived.Test.YtcjemmihcplgdaaGreatX11
import Derived.Test.YtcjemmihcplgdaaGreatX07
import Derived.Test.YtcjemmihcplgdaaGreatX06
import Derived.Test.YtcjemmihcplgdaaGreatX09
set_option linter.all false
namespace Go.Proofs.YtcjemmihcplgdaaGreat
open AL Go ref01 ref03 ref04 ref06 prog prog2 prog6 WitM wit
open Go.ChangeShapes Go.WideShapes Go.ChangeAt Go.WideElems Go.RowKit
set_option maxRecDepth 100000
set_option linter.all false
namespace LawZ
theorem laidOut:laidOutB Tryz.prog=true:=by kernel_rfl
theorem own:ownKnob Tryz.prog.godebug=none:=by kernel_rfl
theorem weights_agg {H:Type} {P:Program} {t:TypeId} {fs:Array Field} {ps:List (DataW H)} (h:P.underlying t=some (.struct fs)):(DataW.agg ps:DataW H).weights P t=DataW.weightsEach P (fs.toList.map (·.type)) ps:=by
 simp[DataW.weights,h]
section
variable {H:Type} {enc:TypeId × Value→H} {W:World}
attribute [local semireducible] agg in
theorem open_stateA {m:Nat} {cs:List Value} {y:DataW H × List MemPlace} (h:DataW.trod enc Tryz.prog W 0 (fun _=>true) true m 72 cs=some y) (hz:∀k∈y.1.weights Tryz.prog 72,k≤reachBytes) (hl:cs.length=2):
 ∃x:SState,All2 W (allF W) (stateE x) cs∧∀t∈x.accept,t<2^63:=by
 obtain⟨y0,y1,n,hx,_,h0,h1⟩:=trod_struct2 Tryz.underlying72 h
 subst hx
 have hz:∀k∈y0.1.weights Tryz.prog 63++(y1.1.weights Tryz.prog 63++ []),k≤reachBytes:=by
  have e:(DataW.agg [y0.1,y1.1]:DataW H).weights Tryz.prog 72=y0.1.weights Tryz.prog 63++(y1.1.weights Tryz.prog 63++ []):=by
   rw[weights_agg Tryz.underlying72]
   simp[DataW.weightsEach]
  rw[←e];exact hz
 have c63:Tryz.prog.cellsOf 63=1:=by kernel_rfl
 have c3:Tryz.prog.cellsOf 3=1:=by kernel_rfl
 have b3:1≤Tryz.prog.bytesOf 3:=by have:Tryz.prog.bytesOf 3=8:=by kernel_rfl
                                   omega
 match cs,hl with
 | [v0,v1],_=>
   have h0:DataW.trod enc Tryz.prog W 0 (fun _=>true) true n 63 (([v0,v1].drop 0).take (Tryz.prog.cellsOf 63))=some y0:=h0
   have h1:DataW.trod enc Tryz.prog W 0 (fun _=>true) true n 63 (([v0,v1].drop 1).take (Tryz.prog.cellsOf 63))=some y1:=h1
   rw[c63] at h0 h1
   obtain⟨ys,g1,g2⟩:=open_intsA Tryz.underlying63 Tryz.underlying3 c3 b3 h0 (fun k hk=>hz k (List.mem_append.2 (.inl hk)))
   obtain⟨zs,g3,_⟩:=open_intsA Tryz.underlying63 Tryz.underlying3 c3 b3 h1 (fun k hk=>hz k (List.mem_append.2 (.inr (List.mem_append.2 (.inl hk)))))
   exact⟨⟨ys,zs⟩,⟨g1,g3,trivial⟩,fun t ht=>by have:=g2 t ht;omega⟩
attribute [local semireducible] agg in
theorem open_specA {r:Reach} {b0:Nat} {v:Value} {d:DataW H} {p:List MemPlace} (hv:Value.okWide Tryz.prog W r b0 25 v) (h:DataW.Trod enc Tryz.prog W 0 (fun _=>true) true 25 v d p) (hz:∀k∈d.weights Tryz.prog 25,k≤reachBytes):
 ∃s:SSpec,(spec s).p W (allF W) v∧smallSpec s:=by
 obtain⟨v0,v1,y0,y1,n,rfl,rfl,rfl,h0,h1⟩:=Go.Joins.open_agg2 Tryz.underlying25 (by kernel_rfl) (by kernel_rfl) hv h
 have hz:∀k∈y0.1.weights Tryz.prog 22++(y1.1.weights Tryz.prog 23++ []),k≤reachBytes:=by
  have e:(DataW.agg [y0.1,y1.1]:DataW H).weights Tryz.prog 25=y0.1.weights Tryz.prog 22++(y1.1.weights Tryz.prog 23++ []):=by
   rw[weights_agg Tryz.underlying25]
   simp[DataW.weightsEach]
  rw[←e];exact hz
 have c9:Tryz.prog.cellsOf 9=1:=by kernel_rfl
 have b9:1≤Tryz.prog.bytesOf 9:=by have:Tryz.prog.bytesOf 9=16:=by kernel_rfl
                                   omega
 have c72:Tryz.prog.cellsOf 72=2:=by kernel_rfl
 have b72:1≤Tryz.prog.bytesOf 72:=by have:Tryz.prog.bytesOf 72=48:=by kernel_rfl
                                     omega
 obtain⟨al,g1⟩:=open_strsA Tryz.underlying22 Tryz.underlying9 c9 b9 h0 (fun k hk=>hz k (List.mem_append.2 (.inl hk)))
 obtain⟨xs,g2,g3⟩:=open_slA (n:=2) (E:=stateE) Tryz.underlying23 c72 (by decide) b72 h1 (fun k hk=>hz k (List.mem_append.2 (.inr (List.mem_append.2 (.inl hk))))) (fun x=> ∀t∈x.accept,t<2^63) (fun m cs y hy hw hl=>open_stateA hy hw hl)
 refine⟨⟨al,xs⟩,⟨[v0,v1],rfl,g1,g2,trivial⟩,fun k hk i hi=> ?_⟩
 have hk:k<xs.length:=hk
 have hi:i<(ix xs k).accept.length:=hi
 exact g3 (ix xs k) (Rungs.ix_memS hk) _ (Rungs.ix_mem hi)
end
section
variable {H:Type} {enc:TypeId × Value→H} {W:World}
end
end LawZ
end Go.Proofs.YtcjemmihcplgdaaGreat
namespace Go.Proofs.YtcjemmihcplgdaaGreat
open AL ref01 ref03 ref04 ref06 prog15 starts Part Rungs LeftM TrimM RoundM BisM BisM5 BisM6 WalkM StepM WitM
set_option linter.all false
namespace JudgM
def offE (es:List PP):Int:=orAll (es.map fun e=>((2^e.1.toNat:Nat):Int))
abbrev edg (m:SSys) (x:Nat):List PP:=ix m.states x
abbrev offM (m:SSys) (x:Nat):Int:=offE (edg m x)
def edM (m:SSys) (x:Nat):List (Nat × Nat):=(edg m x).map fun e=>(e.1.toNat,e.2.toNat)
theorem has_pow (a b:Nat):has ((2^a:Nat):Int) (b:Int)=decide (a=b):=by
 unfold has;rw[Int.toNat_natCast,Int.toNat_natCast,Nat.testBit_two_pow]
theorem off_has {es:List PP} {a:Nat}:has (offE es) (a:Int)=true↔∃e∈es,e.1.toNat=a:=by
 unfold offE
 rw[orAll_has]
 constructor
 ·rintro⟨u,hu,hh⟩
  obtain⟨e,he,rfl⟩:=List.mem_map.1 hu
  rw[has_pow] at hh
  exact⟨e,he,by simpa using hh⟩
 ·rintro⟨e,he,rfl⟩
  exact⟨_,List.mem_map.2 ⟨e,he,rfl⟩,by rw[has_pow];simp⟩
theorem off_ok (m:SSys):OffOK (offM m) (edM m):=fun x a=>by
 rw[off_has]
 unfold edM
 constructor
 ·rintro⟨e,he,h⟩;exact⟨_,List.mem_map.2 ⟨e,he,rfl⟩,h⟩
 ·rintro⟨e,he,h⟩
  obtain⟨e',he',rfl⟩:=List.mem_map.1 he
  exact⟨e',he',h⟩
structure okSys (m:SSys):Prop where
 acts:actionsOK m.actions=true
 n8:m.actions.length≤8
 few0:1≤m.states.length
 few1:m.states.length≤10000
 ed:∀x,x<m.states.length→∀e∈edg m x,0≤e.1∧e.1<(m.actions.length:Int)∧0≤e.2∧e.2<(m.states.length:Int)
 many:∀x,x<m.states.length→(edg m x).length≤400000
def SatM (m:SSys) (t:SSpec):Prop:=Sat (offM m) (edM m) t 0 0
structure QJ (m:SSys) (t:SSpec) (q:List Mt):Prop where
 ne:0<q.length
 hd:ix q 0=⟨0,0,-1,0⟩
 bd:∀p∈q,0≤p.s∧p.s<(m.states.length:Int)∧0≤p.t∧p.t<(t.states.length:Int)
 nd:(q.map pairOf).Nodup
 back:∀k,0<k→k<q.length→∃(b:Nat) (e:PP),(ix q k).before=(b:Int)∧(ix q k).action=e.1∧b<k∧e∈edg m (ix q b).s.toNat∧(ix q k).s=e.2∧(ix q k).t=ix (nxt t (ix q b).t.toNat) e.1.toNat∧offM m (ix q b).s.toNat∈acc t (ix q b).t.toNat
 all:∀R,SatR (offM m) (edM m) t R→R 0 0→∀p∈q,R p.s.toNat p.t.toNat
def DoneJ (m:SSys) (t:SSpec) (q:List Mt) (k:Nat):Prop:=
 offM m (ix q k).s.toNat∈acc t (ix q k).t.toNat∧∀e∈edg m (ix q k).s.toNat,(e.2,ix (nxt t (ix q k).t.toNat) e.1.toNat)∈q.map pairOf
theorem edge_go {m:SSys} {t:SSpec} (hm:okSys m) (ht:okSpec t) {x y:Nat} (hx:x<m.states.length) (hy:y<t.states.length) (ha:offM m x∈acc t y) {e:PP} (he:e∈edg m x):
 e.1.toNat<t.actions.length∧0≤ix (nxt t y) e.1.toNat∧ix (nxt t y) e.1.toNat<(t.states.length:Int):=by
 have:=or_go ht hy (a:=e.1.toNat) ((orAll_has _ _).2 ⟨_,ha,off_has.2 ⟨e,he,rfl⟩⟩)
 exact this
theorem nodup_pairs:∀(n m:Nat) (l:List (Int × Int)),l.Nodup→(∀p∈l,0≤p.1∧p.1<(n:Int)∧0≤p.2∧p.2<(m:Int))→l.length≤n*m:=by
 intro n m l hnd hb
 have h1:(l.map fun p=>p.1.toNat*m+p.2.toNat).Nodup:=by
  rw[List.nodup_iff_pairwise_ne,List.pairwise_map]
  refine List.Pairwise.imp_of_mem ?_ hnd
  intro a b ha hb' hne e
  have b1:=hb a ha
  have b2:=hb b hb'
  have hm:0<m:=by omega
  have e1:a.1.toNat=b.1.toNat:=by
   have:=congrArg (· /m) e
   simp only [Nat.mul_comm _ m] at this
   rw[Nat.mul_add_div hm,Nat.mul_add_div hm,Nat.div_eq_of_lt (by omega),Nat.div_eq_of_lt (by omega)] at this
   omega
  have e2:a.2.toNat=b.2.toNat:=by rw[e1] at e;omega
  exact hne (Prod.ext (by omega) (by omega))
 have h2:∀x∈(l.map fun p=>p.1.toNat*m+p.2.toNat),x∈List.range (n*m):=fun x hx=>by
  obtain⟨p,hp,rfl⟩:=List.mem_map.1 hx
  have b1:=hb p hp
  rw[List.mem_range]
  have:(p.1.toNat+1)*m≤n*m:=Nat.mul_le_mul_right m (by omega)
  rw[Nat.add_mul] at this
  omega
 have h3:=List.Nodup.length_le_of_subset h1 h2
 simpa using h3
structure MidJ (m:SSys) (t:SSpec) (q:List Mt) (i:Nat) (k:Nat) (q2:List Mt) (mm2:List ((Int × Int) × Bool)):Prop where
 qi:QJ m t q2
 sm:smap mm2 q2
 pre:q<+:q2
 dn:∀k,k<i→DoneJ m t q2 k
 al:∀e∈(edg m (ix q i).s.toNat).take k,(e.2,ix (nxt t (ix q i).t.toNat) e.1.toNat)∈q2.map pairOf
structure VJ where
 holds:Bool
 pairs:List PP
 word:List Int
 state:Int
structure JudgeOK (m:SSys) (t:SSpec) (v:VJ):Prop where
 yes:v.holds=true→SatM m t∧v.word= []∧v.state=0∧∃q,QJ m t q∧(∀k,k<q.length→DoneJ m t q k)∧v.pairs=sortP (q.map pairOf)
 no:v.holds=false→¬SatM m t∧v.pairs= []∧∃q i,QJ m t q∧i<q.length∧v.word=wordTo q i∧v.state=(ix q i).s∧(∀k,k<i→DoneJ m t q k)∧offM m (ix q i).s.toNat∉acc t (ix q i).t.toNat
end JudgM
end Go.Proofs.YtcjemmihcplgdaaGreat
namespace Go.Proofs.YtcjemmihcplgdaaGreat
open AL Go
set_option maxRecDepth 100000
set_option linter.all false
open ref01 ref03 ref04 ref06 prog prog2 prog3 prog6 prog13 prog15 starts search Part Rungs LeftM TrimM RoundM BisM BisM5 WalkM StepM WitM JudgM refw judg wit
def ordI (d e:Int × Int):Int:=if d.1=e.1 then d.2- e.2 else d.1- e.1
theorem ordI_lt {d e:Int × Int} (h:¬0≤ordI d e):d.1<e.1∨(d.1=e.1∧d.2<e.2):=by
 unfold ordI at h
 split at h<;>omega
theorem ordI_ge {d e:Int × Int} (h:0≤ordI d e):¬(d.1<e.1∨(d.1=e.1∧d.2<e.2)):=by
 unfold ordI at h
 split at h<;>omega
def edgeOK (A N:Nat) (e:Int × Int):Bool:=decide (0≤e.1)&&decide (e.1<(A:Int))&&decide (0≤e.2)&&decide (e.2<(N:Int))
theorem edgeOK_iff {A N:Nat} {e:Int × Int}:edgeOK A N e=true↔0≤e.1∧e.1<(A:Int)∧0≤e.2∧e.2<(N:Int):=by
 unfold edgeOK;simp[and_assoc]
def ltP (d e:Int × Int):Bool:=decide (d.1<e.1)||(decide (d.1=e.1)&&decide (d.2<e.2))
theorem ltP_iff {d e:Int × Int}:ltP d e=true↔d.1<e.1∨(d.1=e.1∧d.2<e.2):=by unfold ltP;simp
def edgesOK (A N:Nat) (l:List (Int × Int)):Bool:=l.all (edgeOK A N)&&(List.range (l.length- 1)).all fun i=>ltP (ix l i) (ix l (i+1))
def sumLen (l:List (List (Int × Int))):Nat:=(l.map List.length).sum
theorem sumLen_snoc (l:List (List (Int × Int))) (x:List (Int × Int)):sumLen (l++ [x])=sumLen l+x.length:=by simp[sumLen]
theorem sumLen_take (l:List (List (Int × Int))) (k:Nat):sumLen (l.take k)≤sumLen l:=by
 conv=>rhs;rw[←List.take_append_drop k l]
 unfold sumLen
 rw[List.map_append,List.sum_append];omega
theorem sumLen_ix {l:List (List (Int × Int))} {k:Nat} (h:k<l.length):(ix l k).length≤sumLen l:=by
 have:=sumLen_take l (k+1)
 rw[take_s h,sumLen_snoc] at this
 omega
def sysOK (m:SSys):Bool:=actionsOK m.actions&&decide (1≤m.states.length)&&decide (m.states.length≤5000)&&m.states.all (edgesOK m.actions.length m.states.length)&&decide (sumLen m.states≤400000)
theorem sysOK_ok {m:SSys} (h:sysOK m=true):okSys m:=by
 unfold sysOK at h
 simp only [Bool.and_eq_true,decide_eq_true_eq] at h
 obtain⟨⟨⟨⟨h1,h2⟩,h3⟩,h4⟩,h5⟩:=h
 refine⟨h1,actionsOK_len h1,h2,by omega,fun x hx e he=> ?_,fun x hx=> ?_⟩
 ·have g:=all_ix h4 hx
  unfold edgesOK at g
  rw[Bool.and_eq_true] at g
  exact edgeOK_iff.1 (List.all_eq_true.1 g.1 e he)
 ·exact Nat.le_trans (sumLen_ix hx) h5
theorem edges_of {A N:Nat} {l:List (Int × Int)} (h1:∀j,j<l.length→edgeOK A N (ix l j)=true) (h2:∀j,j+1<l.length→ltP (ix l j) (ix l (j+1))=true):edgesOK A N l=true:=by
 unfold edgesOK
 rw[Bool.and_eq_true]
 refine⟨List.all_eq_true.2 (fun e he=> ?_),List.all_eq_true.2 (fun j hj=>h2 j (by have:=List.mem_range.1 hj;omega))⟩
 obtain⟨j,hj,rfl⟩:=List.getElem_of_mem he
 rw[←ix_get hj];exact h1 j hj
theorem edges_no1 {A N:Nat} {l:List (Int × Int)} {j:Nat} (hj:j<l.length) (h:edgeOK A N (ix l j)=false):edgesOK A N l=false:=by
 cases g:edgesOK A N l with
 |false=>rfl
 |true=>
  unfold edgesOK at g
  rw[Bool.and_eq_true] at g
  rw[all_ix g.1 hj] at h;cases h
theorem edges_no2 {A N:Nat} {l:List (Int × Int)} {j:Nat} (hj:j<l.length) (h0:0<j) (h:ltP (ix l (j- 1)) (ix l j)=false):edgesOK A N l=false:=by
 cases g:edgesOK A N l with
 |false=>rfl
 |true=>
  unfold edgesOK at g
  rw[Bool.and_eq_true] at g
  have:=List.all_eq_true.1 g.2 (j- 1) (List.mem_range.2 (by omega))
  rw[show j- 1+1=j by omega,h] at this;cases this
theorem sys_lens {m:SSys} (h:Inh (sys m)):m.actions.length≤140737488355328∧m.states.length≤140737488355328∧∀k,k<m.states.length→(ix m.states k).length≤140737488355328:=
 ⟨(h.agg 0 rfl).len,(h.agg 1 rfl).len,fun _ hk=>((h.agg 1 rfl).el (gK hk) 0 rfl).len⟩
namespace T
theorem fld94_0:FieldAt Tryz.prog 94 0 0:=fieldAt_of (by kernel_rfl)
theorem fld94_1:FieldAt Tryz.prog 94 1 1:=fieldAt_of (by kernel_rfl)
theorem sl88:IsSlice Tryz.prog 88 94 2:=isSlice_of (by kernel_rfl)
theorem agg94:IsAgg Tryz.prog 94 2:=isAgg_of (by kernel_rfl)
theorem z94:ZeroIs Tryz.prog 94 [.int .i64 0,.int .i64 0]:=zeroIs_of (by kernel_rfl)
theorem sl36:IsSlice Tryz.prog 36 88 1:=isSlice_of (by kernel_rfl)
theorem fld38_0:FieldAt Tryz.prog 38 0 0:=fieldAt_of (by kernel_rfl)
theorem ent69:Ent Tryz.prog 69:=ent_of (by kernel_rfl)
end T
namespace sysw
theorem order_ok (d e:Int × Int) (hd:bdP d) (he:bdP e):
 Fn0 Tryz.prog 69 [agg [int d.1,int d.2],agg [int e.1,int e.2]] (int (ordI d e)):=by
 refine fnI Tryz.func69 rfl rfl (fun w0 F0=> ?_)
 unfold bdP at hd he
 refine sq (rg (bx (key:=2) (cs:= [int d.1,int d.2]) rfl fun b2=>(bx (key:=3) (cs:= [int e.1,int e.2]) rfl fun b3=>(ag (nl (th (sq (sq (rg (fP rfl T.fld94_0 (lP rfl rfl rfl T.one3 (fP rfl T.fld94_0 (lP rfl rfl rfl T.one3 (bi rfl rfl b_neq (nl (th ?_))))))))))))))))
 refine cd rfl (fun hc0=> ?_) (fun hc0=> ?_)
 ·try simp at hc0
  refine sq (rg (fP rfl T.fld94_0 (lP rfl rfl rfl T.one3 (fP rfl T.fld94_0 (lP rfl rfl rfl T.one3 (bi rfl rfl (b_sub (by unfold I64;omega)) (ag (nl (th (rt (rt_ ?_)))))))))))
  have hr0:((d.1- e.1):Int)=(ordI d e):=by
   unfold ordI;rw[if_neg hc0]
  have hall:∀x0,(d.1- e.1)=x0→resAV [int (d.1- e.1)]=resAV [int x0]:=by rintro _ rfl;rfl
  exact rE () [.tmp 4] rfl [int (d.1- e.1)] ⟨.tmp rfl,trivial⟩ (hall _ hr0) trivial (by first|exact .inr rfl|exact .inl rfl)
 ·try simp at hc0
  refine sk (th (sq (rg (fP rfl T.fld94_1 (lP rfl rfl rfl T.one3 (fP rfl T.fld94_1 (lP rfl rfl rfl T.one3 (bi rfl rfl (b_sub (by unfold I64;omega)) (ag (nl (th (rt ?_))))))))))))
  have hr0:((d.2- e.2):Int)=(ordI d e):=by
   unfold ordI;rw[if_pos hc0]
  have hall:∀x0,(d.2- e.2)=x0→resAV [int (d.2- e.2)]=resAV [int x0]:=by rintro _ rfl;rfl
  exact rE () [.tmp 4] rfl [int (d.2- e.2)] ⟨.tmp rfl,trivial⟩ (hall _ hr0) trivial (by first|exact .inr rfl|exact .inl rfl)
theorem Offers_ok (l:List (Int × Int)) (hl:∀e∈l,0≤e.1∧e.1<8):
 Fn0 Tryz.prog 93 [sl 2 pairE l] (int (offE l)):=by
 refine fnI Tryz.func93 rfl rfl (fun w0 F0=> ?_)
 refine fcC (slenI 0 rfl) (fun hm0=> ?_)
 refine sq (rg (ag (nl (th (sq (rg (ag (nl (th (sq (sq (rg (mv (lnF rfl T.sl88 (mv (nl (th (bk ?_))))))))))))))))))
 have hI0_0:0≤l.length:=by
  first|omega|simp
 have hI0_1:(0:Int)=offE (l.take 0)∧0≤(0:Int)∧(0:Int)<256:=by
  exact⟨rfl,by omega,by omega⟩
 refine lp (κ:=Nat × Int) (fun p=> [(2,int 0),(3,int p.2),(6,sl 2 pairE l),(7,int (l.length:Int)),(8,int (p.1:Int))]) (fun p=> []) (fun p=>(p.1≤l.length)∧(p.2=offE (l.take p.1)∧0≤p.2∧p.2<256)) (fun p=>l.length- p.1) ⟨0,(0:Int)⟩ ⟨hI0_0,hI0_1⟩ ⟨id,id,id,id,id,trivial⟩ trivial ?_
 intro⟨k,u⟩ hG0
 obtain⟨hk0,⟨hu,hu0,hu1⟩⟩:(k≤l.length)∧(u=offE (l.take k)∧0≤u∧u<256):=hG0
 show Ct _ _ _ _ [(2,int 0),(3,int u),(6,sl 2 pairE l),(7,int (l.length:Int)),(8,int (k:Int))] [] _
 refine sq (rg (bi rfl rfl b_lss (nl (th (sq ?_)))))
 refine cd rfl (fun hc0=> ?_) (fun hc0=> ?_)
 ·try simp at hc0
  have hek:=hl _ (ix_memS hc0)
  have hp:2^ ((ix l k).1).toNat≤2^7:=Nat.pow_le_pow_right (by omega) (by omega)
  have hp0:0≤(((2^ ((ix l k).1).toNat:Nat):Int)):=Int.natCast_nonneg _
  refine sk (th (sq (bk (sq (rg (iF rfl rfl T.sl88 (by omega) (by first|exact gN (by omega)|exact gI (by omega) (by omega)) (lFA rfl T.agg94 (Nat.le_of_ble_eq_true rfl) (al (key:=5) T.z94 (ex_cons (ex_cons (ex_nil))) fun b5=>(sPA (cs':= [int ((ix l k).1),int ((ix l k).2)]) rfl rfl rfl T.agg94 rfl rfl (nl (th (rg (mv (fP rfl T.fld94_0 (lP rfl rfl rfl T.one3 (bi rfl rfl (b_shlI (by omega) (by omega)) (bi rfl rfl (b_orI (by omega) (by omega) (by omega) (by omega)) (ag (nl (eb (th (rg (bi rfl rfl (b_add (by unfold I64;omega)) (mv (nl ?_)))))))))))))))))))))))))
  have hN0:(k+1)≤l.length:=by
   first|omega|simp_all
  have hN1:((u.toNat|||(2^ (((ix l k).1).toNat)):Nat):Int)=offE (l.take (k+1))∧0≤((u.toNat|||(2^ (((ix l k).1).toNat)):Nat):Int)∧((u.toNat|||(2^ (((ix l k).1).toNat)):Nat):Int)<256:=by
   refine⟨?_,by omega,or_lt256 (b:=((2^ ((ix l k).1).toNat:Nat):Int)) hu1 (by omega)⟩
   rw[take_s hc0]
   unfold offE
   rw[List.map_append,List.map_cons,List.map_nil,orAll_snoc,hu];rfl
  exact ln (⟨k+1,((u.toNat|||(2^ (((ix l k).1).toNat)):Nat):Int)⟩:Nat × Int) ⟨hN0,hN1⟩ (by first|omega|(dsimp only;omega)) ⟨id,id,id,id,id,trivial⟩ trivial
 ·try simp at hc0
  refine ex (xt_ (xt_ (xb (th (sq (rg (mv (ag (nl (th (rt ?_)))))))))))
  have hr0:(u:Int)=(offE l):=by
   rw[hu,show k=l.length by omega,List.take_length]
  have hall:∀x0,u=x0→resAV [int u]=resAV [int x0]:=by rintro _ rfl;rfl
  exact rE () [.tmp 2] rfl [int u] ⟨.tmp rfl,trivial⟩ (hall _ hr0) trivial (by first|exact .inr rfl|exact .inl rfl)
theorem Valid_ok (m:SSys):
 Fn0 Tryz.prog 59 [sys m] (bl (sysOK m)):=by
 refine fnI Tryz.func59 rfl rfl (fun w0 F0=> ?_)
 refine fcC (inhS 0 rfl) (fun hS0=> ?_)
 obtain⟨hma0,hms0,hme0⟩:=sys_lens hS0
 refine sq (rg (bx (key:=1) (cs:= [sl 1 strE m.actions,sl 1 edgesE m.states]) rfl fun b1=>(ag (nl (th (sq (rg (fP rfl T.fld38_1 (lP rfl rfl rfl T.one36 (fc (slenI 10 rfl) fun hm10=>(lnF rfl T.sl36 (ag (nl (th (sq (sq (rg (fP rfl T.fld38_0 (lP rfl rfl rfl T.one22 (cal0 (φs:= [sl 1 strE m.actions]) (φ:=bl (actionsOK m.actions)) ⟨rfl,trivial⟩ (prog.aValid_ok _) T.ent91 (no rfl (mv ?_))))))))))))))))))))))
 apply gOr (t:=16) (pd:=19) rfl
 rotate_left
 ·intro hg0 fin
  have hg0':=hg0
  try simp at hg0'
  exact gy rfl rfl rfl hg0 (mv (gy rfl rfl rfl hg0 (bi rfl rfl b_lss (pkF rfl hg0 rfl (drp (X:= [(18,_),(17,_)]) ⟨rfl,rfl,trivial⟩ (fin))))))
 ·intro hg0 fin
  exact gn rfl rfl rfl hg0 rfl rfl (gn rfl rfl rfl hg0 rfl rfl (pkT rfl hg0 rfl (drp (X:= [(18,_),(17,_)]) ⟨rfl,rfl,trivial⟩ (fin))))
 refine mv ?_
 apply gOr (t:=20) (pd:=23) rfl
 rotate_left
 ·intro hg1 fin
  have hg1':=hg1
  try simp at hg1'
  exact gy rfl rfl rfl hg1 (mv (gy rfl rfl rfl hg1 (bi rfl rfl b_gtr (pkF rfl hg1 rfl (drp (X:= [(22,_),(21,_)]) ⟨rfl,rfl,trivial⟩ (fin))))))
 ·intro hg1 fin
  exact gn rfl rfl rfl hg1 rfl rfl (gn rfl rfl rfl hg1 rfl rfl (pkT rfl hg1 rfl (drp (X:= [(22,_),(21,_)]) ⟨rfl,rfl,trivial⟩ (fin))))
 refine nl (th ?_)
 refine cd rfl (fun hc0=> ?_) (fun hc0=> ?_)
 ·try simp at hc0
  refine sq (rg (ag (nl (th (rt (rt_ ?_))))))
  have hr0:false=(sysOK m):=by
   unfold sysOK
   by_cases h:actionsOK m.actions=true
   ·simp[h] at hc0 ⊢
    omega
   ·simp[h]
  have hall:∀x0,false=x0→resAV [bl false]=resAV [bl x0]:=by rintro _ rfl;rfl
  exact rE () [.tmp 2] rfl [bl false] ⟨.tmp rfl,trivial⟩ (hall _ hr0) trivial (by first|exact .inr rfl|exact .inl rfl)
 ·try simp at hc0
  have hact:=actionsOK_len (l:=m.actions) (by simp_all)
  refine sk (th (sq (rg (ag (nl (th (sq (sq (rg (fP rfl T.fld38_1 (lP rfl rfl rfl T.one36 (lnF rfl T.sl36 (mv (nl (th (bk ?_))))))))))))))))
  have hI0_0:0≤m.states.length:=by
   first|omega|simp
  have hI0_1:(0:Int)=(sumLen (m.states.take 0):Int)∧(m.states.take 0).all (edgesOK m.actions.length m.states.length)=true∧(0:Int)≤400000:=by
   exact⟨rfl,by simp,by omega⟩
  refine lp (κ:=Nat × Int) (fun p=> [(1,ptr 1 b1 0),(3,int (m.states.length:Int)),(4,int p.2),(25,sl 1 edgesE m.states),(26,int (m.states.length:Int)),(27,int (p.1:Int))]) (fun p=> [(1,cell b1 [sl 1 strE m.actions,sl 1 edgesE m.states])]) (fun p=>(p.1≤m.states.length)∧(p.2=(sumLen (m.states.take p.1):Int)∧(m.states.take p.1).all (edgesOK m.actions.length m.states.length)=true∧p.2≤400000)) (fun p=>m.states.length- p.1) ⟨0,(0:Int)⟩ ⟨hI0_0,hI0_1⟩ ⟨id,id,id,id,id,id,trivial⟩ ⟨⟨rfl,id⟩,trivial⟩ ?_
  intro⟨k,n⟩ hG0
  obtain⟨hk0,⟨hn,hal,hn4⟩⟩:(k≤m.states.length)∧(n=(sumLen (m.states.take k):Int)∧(m.states.take k).all (edgesOK m.actions.length m.states.length)=true∧n≤400000):=hG0
  show Ct _ _ _ _ [(1,ptr 1 b1 0),(3,int (m.states.length:Int)),(4,int n),(25,sl 1 edgesE m.states),(26,int (m.states.length:Int)),(27,int (k:Int))] [(1,cell b1 [sl 1 strE m.actions,sl 1 edgesE m.states])] _
  have hmk:=hme0 k
  refine sq (rg (bi rfl rfl b_lss (nl (th (sq ?_)))))
  refine cd rfl (fun hc1=> ?_) (fun hc1=> ?_)
  ·try simp at hc1
   refine sk (th (sq (bk (sq (rg (iF rfl rfl T.sl36 (by omega) (by first|exact gN (by omega)|exact gI (by omega) (by omega)) (lF rfl rfl T.one88 (ag (nl (th (sq (rg (mv (mv (fc (slenI 32 rfl) fun hm32=>(lnF rfl T.sl88 (bi rfl rfl (b_add (by unfold I64;omega)) (ag (nl (th (sq (sq (rg (mv (bi rfl rfl b_gtr (nl (th ?_)))))))))))))))))))))))))))
   refine cd rfl (fun hc2=> ?_) (fun hc2=> ?_)
   ·try simp at hc2
    refine sq (rg (ag (nl (th (rt (rt_ (rb (rt_ (rt_ (rb (rt_ ?_)))))))))))
    have hr0:false=(sysOK m):=by
     unfold sysOK
     rw[decide_eq_false (p:=sumLen m.states≤400000) (by have:=sumLen_take m.states (k+1);rw[take_s (by omega),sumLen_snoc] at this;omega)]
     simp
    have hall:∀x0,false=x0→resAV [bl false]=resAV [bl x0]:=by rintro _ rfl;rfl
    exact rE () [.tmp 2] rfl [bl false] ⟨.tmp rfl,trivial⟩ (hall _ hr0) trivial (by first|exact .inr rfl|exact .inl rfl)
   ·try simp at hc2
    refine sk (th (sq (rg (mv (lnF rfl T.sl88 (mv (nl (th (bk ?_)))))))))
    have hI1_0:0≤(ix m.states k).length:=by
     first|omega|simp
    have hI1_1:(∀j,j<0→edgeOK m.actions.length m.states.length (ix (ix m.states k) j)=true)∧∀j,j+1<0→ltP (ix (ix m.states k) j) (ix (ix m.states k) (j+1))=true:=by
     exact⟨fun j hj=>by omega,fun j hj=>by omega⟩
    refine lp (κ:=Nat) (fun p=> [(1,ptr 1 b1 0),(3,int (m.states.length:Int)),(4,int (n+((ix m.states k).length:Int))),(6,sl 2 pairE (ix m.states k)),(25,sl 1 edgesE m.states),(26,int (m.states.length:Int)),(27,int (k:Int)),(37,sl 2 pairE (ix m.states k)),(38,int ((ix m.states k).length:Int)),(39,int (p:Int))]) (fun p=> [(1,cell b1 [sl 1 strE m.actions,sl 1 edgesE m.states])]) (fun p=>(p≤(ix m.states k).length)∧((∀j,j<p→edgeOK m.actions.length m.states.length (ix (ix m.states k) j)=true)∧∀j,j+1<p→ltP (ix (ix m.states k) j) (ix (ix m.states k) (j+1))=true)) (fun p=>(ix m.states k).length- p) 0 ⟨hI1_0,hI1_1⟩ ⟨id,id,id,id,id,id,id,id,id,id,trivial⟩ ⟨⟨rfl,id⟩,trivial⟩ ?_
    intro k1 hG1
    obtain⟨hk1,hI1⟩:(k1≤(ix m.states k).length)∧((∀j,j<k1→edgeOK m.actions.length m.states.length (ix (ix m.states k) j)=true)∧∀j,j+1<k1→ltP (ix (ix m.states k) j) (ix (ix m.states k) (j+1))=true):=hG1
    refine sq (rg (bi rfl rfl b_lss (nl (th (sq ?_)))))
    refine cd rfl (fun hc3=> ?_) (fun hc3=> ?_)
    ·try simp at hc3
     refine sk (th (sq (bk (sq (rg (mv (iF rfl rfl T.sl88 (by omega) (by first|exact gN (by omega)|exact gI (by omega) (by omega)) (lFA rfl T.agg94 (Nat.le_of_ble_eq_true rfl) (al (key:=8) T.z94 (ex_cons (ex_cons (ex_nil))) fun b8=>(ag (sPA (cs':= [int ((ix (ix m.states k) k1).1),int ((ix (ix m.states k) k1).2)]) rfl rfl rfl T.agg94 rfl rfl (nl (th (sq (dr (nh:=36) [0,1,3,7,15,31,15,79,207,511,1023,2047,4095,8191,16383,32767,65535,131071,262143,131071,1048575,2097151,4194303,8388607,16777215,33554431,67108863,67108863,201326591,536870911,1073741823,67108863,4294967295,8589934591,17179869183,34359738367] T.mixed (by kernel_rfl) ?_)))))))))))))))
     refine st_ rfl (fun _ _ _ gq kq=>fP (gq.1.trans rfl) T.fld94_0 kq) ?_
     refine st_ rfl (fun _ _ _ gq kq=>lP (gq.1.trans rfl) rfl rfl T.one3 kq) ?_
     refine st_ rfl (fun _ _ _ gq kq=>bi (gq.1.trans rfl) rfl b_lss kq) ?_
     refine st_ rfl (fun _ _ _ gq kq=>mv' (gq.1.trans rfl) kq) ?_
     refine sg_ (φ:=ptr 8 b8 0) rfl rfl rfl rfl (List.mem_of_elem_eq_true rfl) (fun hgd=> ?_) ?_
     ·have hgd':=hgd
      try simp at hgd'
      exact fun _ _ _ gq kq=>fP (gq.1.trans rfl) T.fld94_0 kq
     refine sg_ (φ:=int ((ix (ix m.states k) k1).1)) rfl rfl rfl rfl (List.mem_of_elem_eq_true rfl) (fun hgd=> ?_) ?_
     ·have hgd':=hgd
      try simp at hgd'
      exact fun _ _ _ gq kq=>lP (gq.1.trans (gif_t hgd)) rfl rfl T.one3 kq
     refine sg_ (φ:=ptr 1 b1 0) rfl rfl rfl rfl (List.mem_of_elem_eq_true rfl) (fun hgd=> ?_) ?_
     ·have hgd':=hgd
      try simp at hgd'
      exact fun _ _ _ gq kq=>fP (gq.1.trans rfl) T.fld38_0 kq
     refine sg_ (φ:=sl 1 strE m.actions) rfl rfl rfl rfl (List.mem_of_elem_eq_true rfl) (fun hgd=> ?_) ?_
     ·have hgd':=hgd
      try simp at hgd'
      exact fun _ _ _ gq kq=>lP (gq.1.trans (gif_t hgd)) rfl rfl T.one22 kq
     refine sg_ (φ:=int (m.actions.length:Int)) rfl rfl rfl rfl (List.mem_of_elem_eq_true rfl) (fun hgd=> ?_) ?_
     ·have hgd':=hgd
      try simp at hgd'
      exact fun _ _ _ gq kq=>lnF (gq.1.trans (gif_t hgd)) T.sl22 kq
     refine sg_ (φ:=bl (decide ((m.actions.length:Int)≤((ix (ix m.states k) k1).1)))) rfl rfl rfl rfl (List.mem_of_elem_eq_true rfl) (fun hgd=> ?_) ?_
     ·have hgd':=hgd
      try simp at hgd'
      exact fun _ _ _ gq kq=>bi (gq.1.trans (gif_t hgd)) (gq.2.1.trans (gif_t hgd)) b_geq kq
     refine st_ rfl (fun _ _ _ gq kq=>pk (gq.1.trans rfl) (pk_or (x:= .tmp 47) (gq.1.trans rfl) (gq.2.1.trans rfl) rfl) kq) ?_
     refine st_ rfl (fun _ _ _ gq kq=>mv' (gq.1.trans rfl) kq) ?_
     refine sg_ (φ:=ptr 8 b8 1) rfl rfl rfl rfl (List.mem_of_elem_eq_true rfl) (fun hgd=> ?_) ?_
     ·have hgd':=hgd
      try simp at hgd'
      exact fun _ _ _ gq kq=>fP (gq.1.trans rfl) T.fld94_1 kq
     refine sg_ (φ:=int ((ix (ix m.states k) k1).2)) rfl rfl rfl rfl (List.mem_of_elem_eq_true rfl) (fun hgd=> ?_) ?_
     ·have hgd':=hgd
      try simp at hgd'
      exact fun _ _ _ gq kq=>lP (gq.1.trans (gif_t hgd)) rfl rfl T.one3 kq
     refine sg_ (φ:=bl (decide (((ix (ix m.states k) k1).2)<0))) rfl rfl rfl rfl (List.mem_of_elem_eq_true rfl) (fun hgd=> ?_) ?_
     ·have hgd':=hgd
      try simp at hgd'
      exact fun _ _ _ gq kq=>bi (gq.1.trans (gif_t hgd)) rfl b_lss kq
     refine st_ rfl (fun _ _ _ gq kq=>pk (gq.1.trans rfl) (pk_or (x:= .tmp 55) (gq.1.trans rfl) (gq.2.1.trans rfl) rfl) kq) ?_
     refine st_ rfl (fun _ _ _ gq kq=>mv' (gq.1.trans rfl) kq) ?_
     refine sg_ (φ:=ptr 8 b8 1) rfl rfl rfl rfl (List.mem_of_elem_eq_true rfl) (fun hgd=> ?_) ?_
     ·have hgd':=hgd
      try simp at hgd'
      exact fun _ _ _ gq kq=>fP (gq.1.trans rfl) T.fld94_1 kq
     refine sg_ (φ:=int ((ix (ix m.states k) k1).2)) rfl rfl rfl rfl (List.mem_of_elem_eq_true rfl) (fun hgd=> ?_) ?_
     ·have hgd':=hgd
      try simp at hgd'
      exact fun _ _ _ gq kq=>lP (gq.1.trans (gif_t hgd)) rfl rfl T.one3 kq
     refine sg_ (φ:=int (m.states.length:Int)) rfl rfl rfl rfl (List.mem_of_elem_eq_true rfl) (fun hgd=> ?_) ?_
     ·have hgd':=hgd
      try simp at hgd'
      exact fun _ _ _ gq kq=>mv' (gq.1.trans rfl) kq
     refine sg_ (φ:=bl (decide ((m.states.length:Int)≤((ix (ix m.states k) k1).2)))) rfl rfl rfl rfl (List.mem_of_elem_eq_true rfl) (fun hgd=> ?_) ?_
     ·have hgd':=hgd
      try simp at hgd'
      exact fun _ _ _ gq kq=>bi (gq.1.trans (gif_t hgd)) (gq.2.1.trans (gif_t hgd)) b_geq kq
     refine st_ rfl (fun _ _ _ gq kq=>pk (gq.1.trans rfl) (pk_or (x:= .tmp 60) (gq.1.trans rfl) (gq.2.1.trans rfl) rfl) kq) ?_
     refine st_ rfl (fun _ _ _ gq kq=>mv' (gq.1.trans rfl) kq) ?_
     refine sg_ (φ:=int (k1:Int)) rfl rfl rfl rfl (List.mem_of_elem_eq_true rfl) (fun hgd=> ?_) ?_
     ·have hgd':=hgd
      try simp at hgd'
      exact fun _ _ _ gq kq=>mv' (gq.1.trans rfl) kq
     refine sg_ (φ:=bl (decide (0<(k1:Int)))) rfl rfl rfl rfl (List.mem_of_elem_eq_true rfl) (fun hgd=> ?_) ?_
     ·have hgd':=hgd
      try simp at hgd'
      exact fun _ _ _ gq kq=>bi (gq.1.trans (gif_t hgd)) rfl b_gtr kq
     refine sg_ (φ:=bl (decide (0<(k1:Int)))) rfl rfl rfl rfl (List.mem_of_elem_eq_true rfl) (fun hgd=> ?_) ?_
     ·have hgd':=hgd
      try simp at hgd'
      exact fun _ _ _ gq kq=>mv' (gq.1.trans (gif_t hgd)) kq
     refine sg2_ (φ:=sl 2 pairE (ix m.states k)) rfl rfl rfl rfl (List.mem_of_elem_eq_true rfl) (fun hgd hgd2=> ?_) ?_
     ·have hgd':=hgd
      try simp at hgd'
      have hgd2':=hgd2
      try simp at hgd2'
      exact fun _ _ _ gq kq=>mv' (gq.1.trans rfl) kq
     refine sg2_ (φ:=int (k1:Int)) rfl rfl rfl rfl (List.mem_of_elem_eq_true rfl) (fun hgd hgd2=> ?_) ?_
     ·have hgd':=hgd
      try simp at hgd'
      have hgd2':=hgd2
      try simp at hgd2'
      exact fun _ _ _ gq kq=>mv' (gq.1.trans rfl) kq
     refine sg2_ (φ:=int ((k1:Int)- 1)) rfl rfl rfl rfl (List.mem_of_elem_eq_true rfl) (fun hgd hgd2=> ?_) ?_
     ·have hgd':=hgd
      try simp at hgd'
      have hgd2':=hgd2
      try simp at hgd2'
      exact fun _ _ _ gq kq=>bi (gq.1.trans (gif_t2 hgd hgd2)) rfl (b_sub (by unfold I64;omega)) kq
     refine sg2_ (φ:=fp [int ((ix (ix m.states k) (((k1:Int)- 1).toNat)).1),int ((ix (ix m.states k) (((k1:Int)- 1).toNat)).2)]) rfl rfl rfl rfl (List.mem_of_elem_eq_true rfl) (fun hgd hgd2=> ?_) ?_
     ·have hgd':=hgd
      try simp at hgd'
      have hgd2':=hgd2
      try simp at hgd2'
      exact fun _ _ _ gq kq=>iF (gq.1.trans (gif_t2 hgd hgd2)) (gq.2.1.trans (gif_t2 hgd hgd2)) T.sl88 (by omega) (by first|exact gN (by omega)|exact gI (by omega) (by omega)) kq
     refine sg2_ (φ:=agg [int ((ix (ix m.states k) (((k1:Int)- 1).toNat)).1),int ((ix (ix m.states k) (((k1:Int)- 1).toNat)).2)]) rfl rfl rfl rfl (List.mem_of_elem_eq_true rfl) (fun hgd hgd2=> ?_) ?_
     ·have hgd':=hgd
      try simp at hgd'
      have hgd2':=hgd2
      try simp at hgd2'
      exact fun _ _ _ gq kq=>lFA (gq.1.trans (gif_t2 hgd hgd2)) T.agg94 (Nat.le_of_ble_eq_true rfl) kq
     refine sg2_ (φ:=agg [int ((ix (ix m.states k) k1).1),int ((ix (ix m.states k) k1).2)]) rfl rfl rfl rfl (List.mem_of_elem_eq_true rfl) (fun hgd hgd2=> ?_) ?_
     ·have hgd':=hgd
      try simp at hgd'
      have hgd2':=hgd2
      try simp at hgd2'
      exact fun _ _ _ gq kq=>lPA (gq.1.trans rfl) rfl T.agg94 rfl kq
     refine sg2_ (φ:=int (ordI ((ix (ix m.states k) (((k1:Int)- 1).toNat)).1,(ix (ix m.states k) (((k1:Int)- 1).toNat)).2) ((ix (ix m.states k) k1).1,(ix (ix m.states k) k1).2))) rfl rfl rfl rfl (List.mem_of_elem_eq_true rfl) (fun hgd hgd2=> ?_) ?_
     ·have hgd':=hgd
      try simp at hgd'
      have hgd2':=hgd2
      try simp at hgd2'
      have hp1:=edgeOK_iff.1 (hI1.1 (((k1:Int)- 1).toNat) (by omega))
      have hb1:bdP ((ix (ix m.states k) (((k1:Int))- 1).toNat).1,(ix (ix m.states k) (((k1:Int))- 1).toNat).2):=by unfold bdP;dsimp only;omega
      have hb2:bdP ((ix (ix m.states k) k1).1,(ix (ix m.states k) k1).2):=by unfold bdP;dsimp only;omega
      exact fun _ _ _ gq kq=>cal0 (φs:= [agg [int ((ix (ix m.states k) (((k1:Int)- 1).toNat)).1),int ((ix (ix m.states k) (((k1:Int)- 1).toNat)).2)],agg [int ((ix (ix m.states k) k1).1),int ((ix (ix m.states k) k1).2)]]) (φ:=int (ordI ((ix (ix m.states k) (((k1:Int)- 1).toNat)).1,(ix (ix m.states k) (((k1:Int)- 1).toNat)).2) ((ix (ix m.states k) k1).1,(ix (ix m.states k) k1).2))) ⟨(gq.1.trans (gif_t2 hgd hgd2)),(gq.2.1.trans (gif_t2 hgd hgd2)),trivial⟩ (sysw.order_ok ((ix (ix m.states k) (((k1:Int)- 1).toNat)).1,(ix (ix m.states k) (((k1:Int)- 1).toNat)).2) ((ix (ix m.states k) k1).1,(ix (ix m.states k) k1).2) (by assumption) (by assumption)) T.ent69 kq
     refine sg2_ (φ:=bl (decide (0≤(ordI ((ix (ix m.states k) (((k1:Int)- 1).toNat)).1,(ix (ix m.states k) (((k1:Int)- 1).toNat)).2) ((ix (ix m.states k) k1).1,(ix (ix m.states k) k1).2))))) rfl rfl rfl rfl (List.mem_of_elem_eq_true rfl) (fun hgd hgd2=> ?_) ?_
     ·have hgd':=hgd
      try simp at hgd'
      have hgd2':=hgd2
      try simp at hgd2'
      exact fun _ _ _ gq kq=>bi (gq.1.trans (gif_t2 hgd hgd2)) rfl b_geq kq
     refine sg_ (φ:=bl ((decide (0<(k1:Int)))&&(decide (0≤(ordI ((ix (ix m.states k) (((k1:Int)- 1).toNat)).1,(ix (ix m.states k) (((k1:Int)- 1).toNat)).2) ((ix (ix m.states k) k1).1,(ix (ix m.states k) k1).2)))))) rfl rfl rfl rfl (List.mem_of_elem_eq_true rfl) (fun hgd=> ?_) ?_
     ·have hgd':=hgd
      try simp at hgd'
      exact fun _ _ _ gq kq=>pk (gq.1.trans (gif_t hgd)) (pk_and (x:= .tmp 69) (gq.1.trans (gif_t hgd)) (gq.2.1.trans (gif_and hgd)) rfl) kq
     refine st_ rfl (fun _ _ _ gq kq=>pk (gq.1.trans rfl) (pk_or (x:= .tmp 66) (gq.1.trans rfl) (gq.2.1.trans rfl) rfl) kq) ?_
     refine pn (nl (th ?_))
     refine cd rfl (fun hc4=> ?_) (fun hc4=> ?_)
     ·skip
      simp only [Bool.or_eq_true,Bool.and_eq_true,decide_eq_true_eq] at hc4
      refine sq (rg (ag (nl (th (rt (rb (rt_ (rt_ (rb (rb (rt_ (rt_ (rb (rt_ ?_))))))))))))))
      have hr0:false=(sysOK m):=by
       unfold sysOK
       rw[all_fail (xs:=m.states) (k:=k) (by omega) ?_];simp
       have hno:∀{p:Prop},(edgeOK m.actions.length m.states.length (ix (ix m.states k) k1)=true→¬p)→p→edgesOK m.actions.length m.states.length (ix m.states k)=false:=fun hh hp=>edges_no1 hc3 (by cases g:edgeOK m.actions.length m.states.length (ix (ix m.states k) k1) with|false=>rfl|true=>exact absurd hp (hh g))
       rcases hc4 with(((h|h)|h)|h)|h
       ·exact hno (fun g=>by have:=edgeOK_iff.1 g;omega) h
       ·exact hno (fun g=>by have:=edgeOK_iff.1 g;omega) h
       ·exact hno (fun g=>by have:=edgeOK_iff.1 g;omega) h
       ·exact hno (fun g=>by have:=edgeOK_iff.1 g;omega) h
       ·have h5:=ordI_ge h.2
        rw[show((k1:Int)- 1).toNat=k1- 1 by omega] at h5
        refine edges_no2 hc3 (by omega) ?_
        cases g:ltP (ix (ix m.states k) (k1- 1)) (ix (ix m.states k) k1) with
        |false=>rfl
        |true=>exact absurd (ltP_iff.1 g) h5
      have hall:∀x0,false=x0→resAV [bl false]=resAV [bl x0]:=by rintro _ rfl;rfl
      exact rE () [.tmp 2] rfl [bl false] ⟨.tmp rfl,trivial⟩ (hall _ hr0) trivial (by first|exact .inr rfl|exact .inl rfl)
     ·skip
      simp only [Bool.or_eq_false_iff,Bool.and_eq_false_iff,decide_eq_false_iff_not] at hc4
      obtain⟨⟨⟨⟨h41,h42⟩,h43⟩,h44⟩,h45⟩:=hc4
      refine sk (eb (th (rg (bi rfl rfl (b_add (by unfold I64;omega)) (mv (nl ?_))))))
      have hN0:(k1+1)≤(ix m.states k).length:=by
       first|omega|simp_all
      have hN1:(∀j,j<(k1+1)→edgeOK m.actions.length m.states.length (ix (ix m.states k) j)=true)∧∀j,j+1<(k1+1)→ltP (ix (ix m.states k) j) (ix (ix m.states k) (j+1))=true:=by
       refine⟨fun j hj=> ?_,fun j hj=> ?_⟩
       ·by_cases e:j=k1
        ·subst e;exact edgeOK_iff.2 ⟨by omega,by omega,by omega,by omega⟩
        ·exact hI1.1 j (by omega)
       ·by_cases e:j+1=k1
        ·subst e
         rcases h45 with h|h
         ·exact absurd (by omega) h
         ·rw[show(((j+1:Nat):Int)- 1).toNat=j by omega] at h
          exact ltP_iff.2 (ordI_lt h)
        ·exact hI1.2 j (by omega)
      exact ln (k1+1) ⟨hN0,hN1⟩ (by first|omega|(dsimp only;omega)) ⟨id,id,id,id,id,id,id,id,id,id,trivial⟩ ⟨⟨rfl,id⟩,trivial⟩
    ·try simp at hc3
     refine ex (xt_ (xt_ (xb (eb (th (rg (bi rfl rfl (b_add (by unfold I64;omega)) (mv (nl ?_)))))))))
     have hN0:(k+1)≤m.states.length:=by
      first|omega|simp_all
     have hN1:(n+((ix m.states k).length:Int))=(sumLen (m.states.take (k+1)):Int)∧(m.states.take (k+1)).all (edgesOK m.actions.length m.states.length)=true∧(n+((ix m.states k).length:Int))≤400000:=by
      refine⟨?_,?_,by omega⟩
      ·rw[take_s (by omega),sumLen_snoc];omega
      ·rw[all_take_succ (by omega),hal,edges_of (fun j hj=>hI1.1 j (by omega)) (fun j hj=>hI1.2 j (by omega))];rfl
     exact ln (⟨k+1,n+((ix m.states k).length:Int)⟩:Nat × Int) ⟨hN0,hN1⟩ (by first|omega|(dsimp only;omega)) ⟨id,id,id,id,id,id,trivial⟩ ⟨⟨rfl,id⟩,trivial⟩
  ·try simp at hc1
   refine ex (xt_ (xt_ (xb (th (sq (rg (ag (nl (th (rt ?_))))))))))
   have hr0:true=(sysOK m):=by
    have hkk:k=m.states.length:=by omega
    rw[hkk,List.take_length] at hal hn
    unfold sysOK
    rw[hal,hc0.1.1]
    simp;omega
   have hall:∀x0,true=x0→resAV [bl true]=resAV [bl x0]:=by rintro _ rfl;rfl
   exact rE () [.tmp 2] rfl [bl true] ⟨.tmp rfl,trivial⟩ (hall _ hr0) trivial (by first|exact .inr rfl|exact .inl rfl)
end sysw
end Go.Proofs.YtcjemmihcplgdaaGreat
namespace Go.Proofs.YtcjemmihcplgdaaGreat
open AL Go
set_option maxRecDepth 100000
set_option linter.all false
open ref01 ref03 ref04 ref06 prog prog2 prog3 prog6 Part Rungs LeftM TrimM RoundM BisM BisM5
def everyS (l:List ByteArray):SSpec:=⟨l,[⟨(List.range (2^l.length)).map fun(x:Nat)=>(x:Int),List.replicate l.length 0⟩]⟩
noncomputable def tstR (s:SSpec) (x:Int):SState:=⟨(ix (solid s).states x.toNat).accept,(ix (solid s).states x.toNat).next.map (mapK (atL s.states.length (ordS s)))⟩
theorem tstR_eq {s:SSpec} (hs:okSpec s) {x:Int} (h0:0≤x) (hx:x<(s.states.length:Int)):tstR s x=tstate s x:=by
 have hx':x.toNat<s.states.length:=by omega
 have hl:=solid_next hs hx'
 unfold tstR tstate
 congr 1
 ·exact solid_acc hx'
 ·rw[map_ix_range,hl]
  refine List.map_congr_left fun a ha=> ?_
  have ha:=List.mem_range.1 ha
  have h1:=solid_ix hs hx' ha
  have h2:=(hs.st _ hx').nx a ha
  dsimp only [nxt] at h1 h2 ⊢
  rw[h1]
  by_cases h:has (orAll (keep s x.toNat)) (a:Int)=true
  ·have hg:=can_go hs hx' h
   rw[if_pos h,if_pos h]
   unfold mapK
   rw[if_pos hg.2.1,atL_ix (by omega),Int.toNat_of_nonneg hg.2.1]
  ·rw[if_neg h,if_neg h];rfl
noncomputable def isNoneS (s:SSpec):Bool:=decide (s=nothing s.actions)
noncomputable def isTrimS (s:SSpec):Bool:=decide (s=(trimS s).1)
namespace T
theorem ent74:Ent Tryz.prog 74:=ent_of (by kernel_rfl)
theorem ent75:Ent Tryz.prog 75:=ent_of (by kernel_rfl)
theorem ent76:Ent Tryz.prog 76:=ent_of (by kernel_rfl)
theorem ent33:Ent Tryz.prog 33:=ent_of (by kernel_rfl)
theorem ent43:Ent Tryz.prog 43:=ent_of (by kernel_rfl)
end T
namespace divr
theorem In_ok (l:List Int) (x:Int):
 Fn0 Tryz.prog 77 [ints l,int x] (bl (decide (x∈l))):=by
 refine fnI Tryz.func77 rfl rfl (fun w0 F0=> ?_)
 refine fcC (slenI 0 rfl) (fun hm0=> ?_)
 refine sq (rg (ag (nl (th (sq (sq (rg (mv (lnF rfl T.sl63 (mv (nl (th (bk ?_)))))))))))))
 have hI0_0:0≤l.length:=by
  first|omega|simp
 have hI0_1:∀j,j<0→x≠ix l j:=by
  intro j hj;omega
 refine lp (κ:=Nat) (fun p=> [(1,int x),(7,sl 1 intE l),(8,int (l.length:Int)),(9,int (p:Int))]) (fun p=> []) (fun p=>(p≤l.length)∧(∀j,j<p→x≠ix l j)) (fun p=>l.length- p) 0 ⟨hI0_0,hI0_1⟩ ⟨id,id,id,id,trivial⟩ trivial ?_
 intro k hG0
 obtain⟨hk0,hI0⟩:(k≤l.length)∧(∀j,j<k→x≠ix l j):=hG0
 refine sq (rg (bi rfl rfl b_lss (nl (th (sq ?_)))))
 refine cd rfl (fun hc0=> ?_) (fun hc0=> ?_)
 ·try simp at hc0
  refine sk (th (sq (bk (sq (rg (iF rfl rfl T.sl63 (by omega) (by first|exact gN (by omega)|exact gI (by omega) (by omega)) (lF rfl rfl T.one3 (ag (nl (th (sq (rg (mv (mv (bi rfl rfl b_eql (nl (th ?_)))))))))))))))))
  refine cd rfl (fun hc1=> ?_) (fun hc1=> ?_)
  ·try simp at hc1
   refine sq (rg (ag (nl (th (rt (rb (rt_ (rt_ (rb (rt_ ?_))))))))))
   have hr0:true=(decide (x∈l)):=by
    exact(decide_eq_true (by rw[hc1];exact ix_mem (by omega))).symm
   have hall:∀x0,true=x0→resAV [bl true]=resAV [bl x0]:=by rintro _ rfl;rfl
   exact rE () [.tmp 4] rfl [bl true] ⟨.tmp rfl,trivial⟩ (hall _ hr0) trivial (by first|exact .inr rfl|exact .inl rfl)
  ·try simp at hc1
   refine sk (eb (th (rg (bi rfl rfl (b_add (by unfold I64;omega)) (mv (nl ?_))))))
   have hN0:(k+1)≤l.length:=by
    first|omega|simp_all
   have hN1:∀j,j<(k+1)→x≠ix l j:=by
    intro j hj
    by_cases e:j=k
    ·subst e;exact hc1
    ·exact hI0 j (by omega)
   exact ln (k+1) ⟨hN0,hN1⟩ (by first|omega|(dsimp only;omega)) ⟨id,id,id,id,trivial⟩ trivial
 ·try simp at hc0
  refine ex (xt_ (xt_ (xb (th (sq (rg (ag (nl (th (rt ?_))))))))))
  have hr0:false=(decide (x∈l)):=by
   refine(decide_eq_false (fun hx=> ?_)).symm
   obtain⟨j,hj,e⟩:=List.getElem_of_mem hx
   exact hI0 j (by omega) (by rw[ix_get hj];exact e.symm)
  have hall:∀x0,false=x0→resAV [bl false]=resAV [bl x0]:=by rintro _ rfl;rfl
  exact rE () [.tmp 4] rfl [bl false] ⟨.tmp rfl,trivial⟩ (hall _ hr0) trivial (by first|exact .inr rfl|exact .inl rfl)
theorem All_ok (l:List ByteArray) (hl:l.length≤8):
 Fn0 Tryz.prog 45 [strs l] (spec (everyS l)):=by
 refine fnI Tryz.func45 rfl rfl (fun w0 F0=> ?_)
 have h2n:2^l.length≤2^8:=Nat.pow_le_pow_right (by omega) hl
 refine fcC (slenI 0 rfl) (fun hm0=> ?_)
 refine sq (rg (al (key:=2) T.z25 (ex_cons (ex_cons (ex_nil))) fun b2=>(nl (th (sq (rg (al (key:=3) T.z72 (ex_cons (ex_cons (ex_nil))) fun b3=>(nl (th (sq (sq (rg (mv (lnF rfl T.sl22 (bi rfl rfl (b_shlI (by omega) (by omega)) (mv (nl (th (bk ?_)))))))))))))))))))
 refine nwC 30 3 1 intE (kncC 3 0 (osl 30 (.slice none 0 0)) rfl rfl eq_osl ?_)
 have hI0_0:0≤2^l.length:=by
  first|omega|simp
 have hI0_1:([]:List Int)=(List.range 0).map fun(x:Nat)=>(x:Int):=by
  rfl
 refine lp (κ:=Nat × Value × (List Int)) (fun p=> [(0,sl 1 strE l),(2,ptr 2 b2 0),(3,ptr 3 b3 0),(7,int ((2^l.length:Nat):Int)),(8,int (p.1:Int))]) (fun p=> [(2,cell b2 [eqv (.slice none 0 0),eqv (.slice none 0 0)]),(3,cell b3 [osl 30 p.2.1,eqv (.slice none 0 0)]),(30,own p.2.1 3 1 intE p.2.2)]) (fun p=>(p.1≤2^l.length)∧(p.2.2=(List.range p.1).map fun(x:Nat)=>(x:Int))) (fun p=>2^l.length- p.1) ⟨0,(.slice none 0 0),([]:List Int)⟩ ⟨hI0_0,hI0_1⟩ ⟨id,id,id,id,id,trivial⟩ ⟨⟨rfl,id⟩,⟨rfl,id⟩,⟨rfl,id⟩,trivial⟩ ?_
 intro⟨k,v,acc⟩ hG0
 obtain⟨hk0,hI0⟩:(k≤2^l.length)∧(acc=(List.range k).map fun(x:Nat)=>(x:Int)):=hG0
 show Ct _ _ _ _ [(0,sl 1 strE l),(2,ptr 2 b2 0),(3,ptr 3 b3 0),(7,int ((2^l.length:Nat):Int)),(8,int (k:Int))] [(2,cell b2 [eqv (.slice none 0 0),eqv (.slice none 0 0)]),(3,cell b3 [osl 30 v,eqv (.slice none 0 0)]),(30,own v 3 1 intE acc)] _
 have hlen:acc.length=k:=by rw[hI0];simp
 refine sq (rg (bi rfl rfl b_lss (nl (th (sq ?_)))))
 refine cd rfl (fun hc0=> ?_) (fun hc0=> ?_)
 ·try simp at hc0
  have hkk:k<2^l.length:=by exact_mod_cast hc0
  refine sk (th (sq (bk (sq (rg (mv (ag (nl (th (rg (fP rfl T.fld72_0 (lP rfl rfl rfl T.one63 (mv (bsE (enc:=intE) (xs:= [(k:Int)]) (css:= [[int (k:Int)]]) T.mk63 ⟨rfl,rfl,p1 (φ:=int (k:Int)) rfl,trivial⟩ rfl rfl rfl rfl (ap (key:=30) (zs:= [(k:Int)]) osl_eq rfl rfl rfl T.mk63 (by unfold maxL at*;simp;omega) (by unfold maxL at*;simp;omega) fun v15=>(fP rfl T.fld72_0 (storePO rfl rfl rfl rfl T.one63 rfl (nl (eb (th (rg (bi rfl rfl (b_add (by unfold I64;omega)) (mv (nl ?_))))))))))))))))))))))))
  have hN0:(k+1)≤2^l.length:=by
   first|omega|simp_all
  have hN1:(acc++ [(k:Int)])=(List.range (k+1)).map fun(x:Nat)=>(x:Int):=by
   rw[hI0,List.range_succ,List.map_append];rfl
  exact ln (⟨k+1,v15,acc++ [(k:Int)]⟩:Nat × Value × (List Int)) ⟨hN0,hN1⟩ (by first|omega|(dsimp only;omega)) ⟨id,id,id,id,id,trivial⟩ ⟨⟨rfl,id⟩,⟨rfl,id⟩,⟨rfl,id⟩,trivial⟩
 ·try simp at hc0
  have hkk:2^l.length≤k:=by first|exact_mod_cast hc0|exact Nat.le_of_not_lt (by exact_mod_cast hc0)
  refine ex (xt_ (xt_ (xb (th (sq (sq (rg (mv (lnF rfl T.sl22 (mv (nl (th (bk ?_)))))))))))))
  refine nwC 31 3 1 intE (kncC 3 1 (osl 31 (.slice none 0 0)) rfl rfl eq_osl ?_)
  have hI1_0:0≤l.length:=by
   first|omega|simp
  have hI1_1:([]:List Int)=List.replicate 0 0:=by
   rfl
  refine lp (κ:=Nat × Value × (List Int)) (fun p=> [(0,sl 1 strE l),(2,ptr 2 b2 0),(3,ptr 3 b3 0),(19,int (l.length:Int)),(20,int (p.1:Int))]) (fun p=> [(2,cell b2 [eqv (.slice none 0 0),eqv (.slice none 0 0)]),(3,cell b3 [osl 30 v,osl 31 p.2.1]),(30,own v 3 1 intE acc),(31,own p.2.1 3 1 intE p.2.2)]) (fun p=>(p.1≤l.length)∧(p.2.2=List.replicate p.1 0)) (fun p=>l.length- p.1) ⟨0,(.slice none 0 0),([]:List Int)⟩ ⟨hI1_0,hI1_1⟩ ⟨id,id,id,id,id,trivial⟩ ⟨⟨rfl,id⟩,⟨rfl,id⟩,⟨rfl,id⟩,⟨rfl,id⟩,trivial⟩ ?_
  intro⟨k1,v1,ac1⟩ hG1
  obtain⟨hk1,hI1⟩:(k1≤l.length)∧(ac1=List.replicate k1 0):=hG1
  show Ct _ _ _ _ [(0,sl 1 strE l),(2,ptr 2 b2 0),(3,ptr 3 b3 0),(19,int (l.length:Int)),(20,int (k1:Int))] [(2,cell b2 [eqv (.slice none 0 0),eqv (.slice none 0 0)]),(3,cell b3 [osl 30 v,osl 31 v1]),(30,own v 3 1 intE acc),(31,own v1 3 1 intE ac1)] _
  have hlen1:ac1.length=k1:=by rw[hI1];simp
  refine sq (rg (bi rfl rfl b_lss (nl (th (sq ?_)))))
  refine cd rfl (fun hc1=> ?_) (fun hc1=> ?_)
  ·try simp at hc1
   refine sk (th (sq (bk (rg (fP rfl T.fld72_1 (lP rfl rfl rfl T.one63 (bsE (enc:=intE) (xs:= [0]) (css:= [[int 0]]) T.mk63 ⟨rfl,rfl,p1 (φ:=int 0) rfl,trivial⟩ rfl rfl rfl rfl (ap (key:=31) (zs:= [0]) osl_eq rfl rfl rfl T.mk63 (by unfold maxL at*;simp;omega) (by unfold maxL at*;simp;omega) fun v25=>(fP rfl T.fld72_1 (storePO rfl rfl rfl rfl T.one63 rfl (nl (eb (th (rg (bi rfl rfl (b_add (by unfold I64;omega)) (mv (nl ?_)))))))))))))))))
   have hN0:(k1+1)≤l.length:=by
    first|omega|simp_all
   have hN1:(ac1++ [0])=List.replicate (k1+1) 0:=by
    rw[hI1,List.replicate_succ']
   exact ln (⟨k1+1,v25,ac1++ [0]⟩:Nat × Value × (List Int)) ⟨hN0,hN1⟩ (by first|omega|(dsimp only;omega)) ⟨id,id,id,id,id,trivial⟩ ⟨⟨rfl,id⟩,⟨rfl,id⟩,⟨rfl,id⟩,⟨rfl,id⟩,trivial⟩
  ·try simp at hc1
   refine ex (xt_ (xt_ (xb (th (sq (fzcC 3 30 0 rfl rfl rfl rfl (fzcC 3 31 1 rfl rfl rfl rfl (dr (nh:=5) [0,1,0,4,15,31] T.mixed (by kernel_rfl) ?_))))))))
   refine st_ rfl (fun _ _ _ gq kq=>mv' (gq.1.trans rfl) kq) ?_
   refine st_ rfl (fun _ _ _ gq kq=>appendF (enc:=strE) (ys:=l) rfl (gq.1.trans rfl) T.mk22 (by unfold maxL;omega) kq) ?_
   refine st_ rfl (fun _ _ _ gq kq=>lPA (gq.1.trans rfl) rfl T.agg72 rfl kq) ?_
   refine st_ rfl (fun _ _ _ gq kq=>bsE (enc:=stateE) (xs:= [(⟨acc,ac1⟩)]) (css:= [[sl 1 intE acc,sl 1 intE ac1]]) T.mk23 ⟨rfl,rfl,pA (cs:= [sl 1 intE acc,sl 1 intE ac1]) (by exact(gq.1.trans rfl)),trivial⟩ rfl rfl rfl rfl kq) ?_
   refine st_ rfl (fun _ _ _ gq kq=>bd (css:= [(0,_),(1,_)]) T.st25 (ex_cons (ex_cons (ex_nil))) ⟨rfl,rfl,p1 (φ:=sl 1 strE l) (by exact(gq.1.trans rfl)),⟨rfl,rfl,p1 (φ:=sl 2 stateE [(⟨acc,ac1⟩)]) (by exact(gq.2.1.trans rfl)),trivial⟩⟩ kq) ?_
   refine pn (sPA (cs':= [sl 1 strE l,sl 2 stateE [(⟨acc,ac1⟩)]]) rfl rfl rfl T.agg25 rfl rfl (nl (th (rt ?_))))
   have hr0:l=((everyS l).actions):=by
    rfl
   have hr1: [(⟨acc,ac1⟩)]=((everyS l).states):=by
    unfold everyS;rw[hI1,hI0,show k1=l.length by omega,show k=2^l.length by omega]
   have hall:∀x0 x1,l=x0→[(⟨acc,ac1⟩)]=x1→resAV [agg [sl 1 strE l,sl 2 stateE [(⟨acc,ac1⟩)]]]=resAV [agg [sl 1 strE x0,sl 2 stateE x1]]:=by rintro _ _ rfl rfl;rfl
   exact rE () [.cell 2 25] rfl [agg [sl 1 strE l,sl 2 stateE [(⟨acc,ac1⟩)]]] ⟨.agg rfl rfl T.agg25 rfl rfl,trivial⟩ (hall _ _ hr0 hr1) trivial (by first|exact .inr rfl|exact .inl rfl)
theorem Trim_ok (s:SSpec) (hs:okSpec s):
 Fn0 Tryz.prog 43 [spec s] (tup [spec (trimS s).1,ints (trimS s).2]):=by
 refine fnI Tryz.func43 rfl rfl (fun w0 F0=> ?_)
 have hf0:=hs.few0;have hf1:=hs.few1;have hn8:=hs.n8;have hhl:=hollow_len s;have hsl:=solid_len s;have hoq:=order_okQ hs;have hol:=hoq.le;have hnd:(order (solid s)).Nodup:=order_nodup _
 refine fcC (inhS 0 rfl) (fun hS0=> ?_)
 obtain⟨hsa0,hss0,hse0⟩:=spec_lens hS0
 refine sq (rg (bx (key:=1) (cs:= [sl 1 strE s.actions,sl 2 stateE s.states]) rfl fun b1=>(al (key:=2) T.z25 (ex_cons (ex_cons (ex_nil))) fun b2=>(ag (nl (th (sq (sq (rg (lPA rfl rfl T.agg25 rfl (cal0 (φs:= [agg [sl 1 strE s.actions,sl 2 stateE s.states]]) (φ:=sl 1 blE (hollow s)) ⟨rfl,trivial⟩ (ref04.Hollow_ok s (by assumption)) T.ent13 (iF rfl rfl T.sl31 (by omega) (gK (k:=0) (by omega)) (lF rfl rfl T.one4 (nl (th ?_)))))))))))))))
 refine cd rfl (fun hc0=> ?_) (fun hc0=> ?_)
 ·try simp at hc0
  refine sq (rg (fP rfl T.fld25_0 (lP rfl rfl rfl T.one22 (cal0 (φs:= [sl 1 strE s.actions]) (φ:=agg [sl 1 strE ((nothing s.actions).actions),sl 2 stateE ((nothing s.actions).states)]) ⟨rfl,trivial⟩ (ref03.Nothing_ok s.actions (by omega)) T.ent74 (sPA (cs':= [sl 1 strE ((nothing s.actions).actions),sl 2 stateE ((nothing s.actions).states)]) rfl rfl rfl T.agg25 rfl rfl (ag (nl (th (rt (rt_ ?_))))))))))
  have hL:=trimmed_hol hc0
  refine knA 3 (sl 1 intE []) rfl slnil ?_
  have hr0:((nothing s.actions).actions)=(((trimS s).1).actions):=by
   rw[hL]
  have hr1:((nothing s.actions).states)=(((trimS s).1).states):=by
   rw[hL]
  have hr2: []=((trimS s).2):=by
   rw[hL]
  have hall:∀x0 x1 x2,((nothing s.actions).actions)=x0→((nothing s.actions).states)=x1→[]=x2→resAV [agg [sl 1 strE ((nothing s.actions).actions),sl 2 stateE ((nothing s.actions).states)],sl 1 intE []]=resAV [agg [sl 1 strE x0,sl 2 stateE x1],sl 1 intE x2]:=by rintro _ _ _ rfl rfl rfl;rfl
  exact rE () [.cell 2 25,.tmp 3] rfl [agg [sl 1 strE ((nothing s.actions).actions),sl 2 stateE ((nothing s.actions).states)],sl 1 intE []] ⟨.agg rfl rfl T.agg25 rfl rfl,.tmp rfl,trivial⟩ (hall _ _ _ hr0 hr1 hr2) trivial (by first|exact .inr rfl|exact .inl rfl)
 ·try simp at hc0
  refine sk (th (sq (rg (lPA rfl rfl T.agg25 rfl (cal0 (φs:= [agg [sl 1 strE s.actions,sl 2 stateE s.states]]) (φ:=agg [sl 1 strE ((solid s).actions),sl 2 stateE ((solid s).states)]) ⟨rfl,trivial⟩ (ref04.Solid_ok s (by assumption)) T.ent75 (al (key:=4) T.z25 (ex_cons (ex_cons (ex_nil))) fun b4=>(sPA (cs':= [sl 1 strE ((solid s).actions),sl 2 stateE ((solid s).states)]) rfl rfl rfl T.agg25 rfl rfl (nl (th (sq (rg (lPA rfl rfl T.agg25 rfl (cal0 (φs:= [agg [sl 1 strE ((solid s).actions),sl 2 stateE ((solid s).states)]]) (φ:=sl 1 intE (order (solid s))) ⟨rfl,trivial⟩ (ref04.Order_ok (solid s) (by rw[hsl];omega) (by rw[hsl];omega) (fun k hk=>by rw[hsl] at hk;exact⟨by rw[solid_next hs hk];omega,fun a ha=>by rw[hsl];exact solid_bd hs hk ha⟩)) T.ent76 (ag (nl (th (sq (rg (fP rfl T.fld25_1 (lP rfl rfl rfl T.one23 (fc (slenI 27 rfl) fun hm27=>(lnF rfl T.sl23 (mk (key:=29) (m:=s.states.length) (enc:=intE) (y:=(0:Int)) rfl rfl T.mk63 (ex_cons ex_nil) (by unfold maxL;omega) (by unfold maxL;omega) fun v29=>(ag (nl (th (sq (sq (rg (mv (fc (slenI 30 rfl) fun hm30=>(lnF rfl T.sl63 (mv (nl (th (bk ?_))))))))))))))))))))))))))))))))))))
  have hI0_0:0≤(order (solid s)).length:=by
   first|omega|simp
  have hI0_1:(List.replicate s.states.length (0:Int))=atL s.states.length ((order (solid s)).take 0):=by
   exact atL_zero _
  refine lp (κ:=Nat × (List Int)) (fun p=> [(1,ptr 1 b1 0),(2,ptr 2 b2 0),(3,eqv (.slice none 0 0)),(4,ptr 4 b4 0),(5,sl 1 intE (order (solid s))),(6,osl 29 v29),(30,sl 1 intE (order (solid s))),(31,int ((order (solid s)).length:Int)),(32,int (p.1:Int))]) (fun p=> [(1,cell b1 [sl 1 strE s.actions,sl 2 stateE s.states]),(2,cell b2 [eqv (.slice none 0 0),eqv (.slice none 0 0)]),(4,cell b4 [sl 1 strE ((solid s).actions),sl 2 stateE ((solid s).states)]),(29,own v29 3 1 intE p.2)]) (fun p=>(p.1≤(order (solid s)).length)∧(p.2=atL s.states.length ((order (solid s)).take p.1))) (fun p=>(order (solid s)).length- p.1) ⟨0,List.replicate s.states.length (0:Int)⟩ ⟨hI0_0,hI0_1⟩ ⟨id,id,id,id,id,id,id,id,id,trivial⟩ ⟨⟨rfl,id⟩,⟨rfl,id⟩,⟨rfl,id⟩,⟨rfl,id⟩,trivial⟩ ?_
  intro⟨k,pl⟩ hG0
  obtain⟨hk0,hI0⟩:(k≤(order (solid s)).length)∧(pl=atL s.states.length ((order (solid s)).take k)):=hG0
  show Ct _ _ _ _ [(1,ptr 1 b1 0),(2,ptr 2 b2 0),(3,eqv (.slice none 0 0)),(4,ptr 4 b4 0),(5,sl 1 intE (order (solid s))),(6,osl 29 v29),(30,sl 1 intE (order (solid s))),(31,int ((order (solid s)).length:Int)),(32,int (k:Int))] [(1,cell b1 [sl 1 strE s.actions,sl 2 stateE s.states]),(2,cell b2 [eqv (.slice none 0 0),eqv (.slice none 0 0)]),(4,cell b4 [sl 1 strE ((solid s).actions),sl 2 stateE ((solid s).states)]),(29,own v29 3 1 intE pl)] _
  have hpl:pl.length=s.states.length:=by rw[hI0];exact atL_len _ _
  refine sq (rg (bi rfl rfl b_lss (nl (th (sq ?_)))))
  refine cd rfl (fun hc1=> ?_) (fun hc1=> ?_)
  ·try simp at hc1
   have hox:=hoq.1 k (by omega)
   refine sk (th (sq (bk (sq (rg (mv (iF rfl rfl T.sl63 (by omega) (by first|exact gN (by omega)|exact gI (by omega) (by omega)) (lF rfl rfl T.one3 (ag (ag (nl (th (rg (mv (mv (mv (iO rfl rfl rfl T.sl63 (by omega) (by omega) (sO (φ:=int (k:Int)) rfl rfl rfl T.one3 (by first|exact gN (by omega)|exact gI (by omega) (by omega)) rfl (y':=(k:Int)) rfl (nl (eb (th (rg (bi rfl rfl (b_add (by unfold I64;omega)) (mv (nl ?_)))))))))))))))))))))))))
   have hN0:(k+1)≤(order (solid s)).length:=by
    first|omega|simp_all
   have hN1:(pl.set ((ix (order (solid s)) k).toNat) (k:Int))=atL s.states.length ((order (solid s)).take (k+1)):=by
    have hat:=atL_snoc (n:=s.states.length) (fresh hnd (m:=k) (by omega)) hox.1 hox.2
    rw[List.length_take,Nat.min_eq_left (by omega)] at hat
    rw[hI0,take_s (by omega)]
    exact hat
   exact ln (⟨k+1,pl.set ((ix (order (solid s)) k).toNat) (k:Int)⟩:Nat × (List Int)) ⟨hN0,hN1⟩ (by first|omega|(dsimp only;omega)) ⟨id,id,id,id,id,id,id,id,id,trivial⟩ ⟨⟨rfl,id⟩,⟨rfl,id⟩,⟨rfl,id⟩,⟨rfl,id⟩,trivial⟩
  ·try simp at hc1
   refine ex (xt_ (xt_ (xb (th (sq (rg (fP rfl T.fld25_0 (lP rfl rfl rfl T.one22 (appendF (enc:=strE) (ys:=s.actions) rfl rfl T.mk22 (by unfold maxL;omega) (bd (css:= [(0,_)]) T.st25 (ex_cons (ex_cons (ex_nil))) ⟨rfl,rfl,p1 (φ:=sl 1 strE s.actions) rfl,trivial⟩ (al (key:=9) T.z25 (ex_cons (ex_cons (ex_nil))) fun b9=>(sPA (cs':= [sl 1 strE s.actions,eqv (.slice none 0 0)]) rfl rfl rfl T.agg25 rfl rfl (nl (th (sq (sq (rg (mv (lnF rfl T.sl63 (mv (nl (th (bk ?_)))))))))))))))))))))))
   refine nwC 90 72 2 stateE (kncC 9 1 (osl 90 (.slice none 0 0)) rfl rfl eq_osl ?_)
   have hI1_0:0≤(order (solid s)).length:=by
    first|omega|simp
   have hI1_1:([]:List SState)=((order (solid s)).take 0).map (tstR s):=by
    simp
   refine lp (κ:=Nat × Value × (List SState)) (fun p=> [(2,ptr 2 b2 0),(3,eqv (.slice none 0 0)),(4,ptr 4 b4 0),(5,sl 1 intE (order (solid s))),(6,osl 29 v29),(9,ptr 9 b9 0),(46,sl 1 intE (order (solid s))),(47,int ((order (solid s)).length:Int)),(48,int (p.1:Int))]) (fun p=> [(1,cell b1 [sl 1 strE s.actions,sl 2 stateE s.states]),(2,cell b2 [eqv (.slice none 0 0),eqv (.slice none 0 0)]),(4,cell b4 [sl 1 strE ((solid s).actions),sl 2 stateE ((solid s).states)]),(9,cell b9 [sl 1 strE s.actions,osl 90 p.2.1]),(29,own v29 3 1 intE pl),(90,own p.2.1 72 2 stateE p.2.2)]) (fun p=>(p.1≤(order (solid s)).length)∧(p.2.2=((order (solid s)).take p.1).map (tstR s))) (fun p=>(order (solid s)).length- p.1) ⟨0,(.slice none 0 0),([]:List SState)⟩ ⟨hI1_0,hI1_1⟩ ⟨id,id,id,id,id,id,id,id,id,trivial⟩ ⟨⟨rfl,id⟩,⟨rfl,id⟩,⟨rfl,id⟩,⟨rfl,id⟩,⟨rfl,id⟩,⟨rfl,id⟩,trivial⟩ ?_
   intro⟨k1,v2x,acc⟩ hG1
   obtain⟨hk1,hI1⟩:(k1≤(order (solid s)).length)∧(acc=((order (solid s)).take k1).map (tstR s)):=hG1
   show Ct _ _ _ _ [(2,ptr 2 b2 0),(3,eqv (.slice none 0 0)),(4,ptr 4 b4 0),(5,sl 1 intE (order (solid s))),(6,osl 29 v29),(9,ptr 9 b9 0),(46,sl 1 intE (order (solid s))),(47,int ((order (solid s)).length:Int)),(48,int (k1:Int))] [(1,cell b1 [sl 1 strE s.actions,sl 2 stateE s.states]),(2,cell b2 [eqv (.slice none 0 0),eqv (.slice none 0 0)]),(4,cell b4 [sl 1 strE ((solid s).actions),sl 2 stateE ((solid s).states)]),(9,cell b9 [sl 1 strE s.actions,osl 90 v2x]),(29,own v29 3 1 intE pl),(90,own v2x 72 2 stateE acc)] _
   have hal:acc.length≤k1:=by rw[hI1];simp;omega
   refine sq (rg (bi rfl rfl b_lss (nl (th (sq ?_)))))
   refine cd rfl (fun hc2=> ?_) (fun hc2=> ?_)
   ·try simp at hc2
    have hox1:=hoq.1 k1 (by omega)
    have hsn:=solid_next hs (x:=(ix (order (solid s)) k1).toNat) (by omega)
    refine sk (th (sq (bk (sq (rg (iF rfl rfl T.sl63 (by omega) (by first|exact gN (by omega)|exact gI (by omega) (by omega)) (lF rfl rfl T.one3 (ag (nl (th (sq (rg (fP rfl T.fld25_1 (lP rfl rfl rfl T.one23 (mv (iF rfl rfl T.sl23 (by omega) (by first|exact gN (by omega)|exact gI (by omega) (by omega)) (fF rfl T.fld72_0 (lF rfl rfl T.one63 (bd (css:= [(0,_)]) T.st72 (ex_cons (ex_cons (ex_nil))) ⟨rfl,rfl,p1 (φ:=sl 1 intE ((ix ((solid s).states) ((ix (order (solid s)) k1).toNat)).accept)) rfl,trivial⟩ (al (key:=12) T.z72 (ex_cons (ex_cons (ex_nil))) fun b12=>(sPA (cs':= [sl 1 intE ((ix ((solid s).states) ((ix (order (solid s)) k1).toNat)).accept),eqv (.slice none 0 0)]) rfl rfl rfl T.agg72 rfl rfl (nl (th (sq (sq (rg (fP rfl T.fld25_1 (lP rfl rfl rfl T.one23 (mv (iF rfl rfl T.sl23 (by omega) (by first|exact gN (by omega)|exact gI (by omega) (by omega)) (fF rfl T.fld72_1 (lF rfl rfl T.one63 (fc (slenI 64 rfl) fun hm64=>(lnF rfl T.sl63 (mv (nl (th (bk ?_))))))))))))))))))))))))))))))))))))))
    refine nwC 121 3 1 intE (kncC 12 1 (osl 121 (.slice none 0 0)) rfl rfl eq_osl ?_)
    have hI2_0:0≤((ix ((solid s).states) ((ix (order (solid s)) k1).toNat)).next).length:=by
     first|omega|simp
    have hI2_1:([]:List Int)=((ix (solid s).states (ix (order (solid s)) k1).toNat).next.take 0).map (mapK pl):=by
     simp
    refine lp (κ:=Nat × Value × (List Int)) (fun p=> [(2,ptr 2 b2 0),(3,eqv (.slice none 0 0)),(4,ptr 4 b4 0),(5,sl 1 intE (order (solid s))),(6,osl 29 v29),(9,ptr 9 b9 0),(12,ptr 12 b12 0),(46,sl 1 intE (order (solid s))),(47,int ((order (solid s)).length:Int)),(48,int (k1:Int)),(64,sl 1 intE ((ix ((solid s).states) ((ix (order (solid s)) k1).toNat)).next)),(65,int (((ix ((solid s).states) ((ix (order (solid s)) k1).toNat)).next).length:Int)),(66,int (p.1:Int))]) (fun p=> [(1,cell b1 [sl 1 strE s.actions,sl 2 stateE s.states]),(2,cell b2 [eqv (.slice none 0 0),eqv (.slice none 0 0)]),(4,cell b4 [sl 1 strE ((solid s).actions),sl 2 stateE ((solid s).states)]),(9,cell b9 [sl 1 strE s.actions,osl 90 v2x]),(12,cell b12 [sl 1 intE ((ix (solid s).states (ix (order (solid s)) k1).toNat).accept),osl 121 p.2.1]),(29,own v29 3 1 intE pl),(90,own v2x 72 2 stateE acc),(121,own p.2.1 3 1 intE p.2.2)]) (fun p=>(p.1≤((ix ((solid s).states) ((ix (order (solid s)) k1).toNat)).next).length)∧(p.2.2=((ix (solid s).states (ix (order (solid s)) k1).toNat).next.take p.1).map (mapK pl))) (fun p=>((ix ((solid s).states) ((ix (order (solid s)) k1).toNat)).next).length- p.1) ⟨0,(.slice none 0 0),([]:List Int)⟩ ⟨hI2_0,hI2_1⟩ ⟨id,id,id,id,id,id,id,id,id,id,id,id,id,trivial⟩ ⟨⟨rfl,id⟩,⟨rfl,id⟩,⟨rfl,id⟩,⟨rfl,id⟩,⟨rfl,id⟩,⟨rfl,id⟩,⟨rfl,id⟩,⟨rfl,id⟩,trivial⟩ ?_
    intro⟨k2,v3x,l3⟩ hG2
    obtain⟨hk2,hI2⟩:(k2≤((ix ((solid s).states) ((ix (order (solid s)) k1).toNat)).next).length)∧(l3=((ix (solid s).states (ix (order (solid s)) k1).toNat).next.take k2).map (mapK pl)):=hG2
    show Ct _ _ _ _ [(2,ptr 2 b2 0),(3,eqv (.slice none 0 0)),(4,ptr 4 b4 0),(5,sl 1 intE (order (solid s))),(6,osl 29 v29),(9,ptr 9 b9 0),(12,ptr 12 b12 0),(46,sl 1 intE (order (solid s))),(47,int ((order (solid s)).length:Int)),(48,int (k1:Int)),(64,sl 1 intE ((ix ((solid s).states) ((ix (order (solid s)) k1).toNat)).next)),(65,int (((ix ((solid s).states) ((ix (order (solid s)) k1).toNat)).next).length:Int)),(66,int (k2:Int))] [(1,cell b1 [sl 1 strE s.actions,sl 2 stateE s.states]),(2,cell b2 [eqv (.slice none 0 0),eqv (.slice none 0 0)]),(4,cell b4 [sl 1 strE ((solid s).actions),sl 2 stateE ((solid s).states)]),(9,cell b9 [sl 1 strE s.actions,osl 90 v2x]),(12,cell b12 [sl 1 intE ((ix (solid s).states (ix (order (solid s)) k1).toNat).accept),osl 121 v3x]),(29,own v29 3 1 intE pl),(90,own v2x 72 2 stateE acc),(121,own v3x 3 1 intE l3)] _
    have hl3:l3.length≤k2:=by rw[hI2];simp;omega
    refine sq (rg (bi rfl rfl b_lss (nl (th (sq ?_)))))
    refine cd rfl (fun hc3=> ?_) (fun hc3=> ?_)
    ·try simp at hc3
     have hbd:=solid_bd hs (x:=(ix (order (solid s)) k1).toNat) (by omega) (a:=k2) (by omega)
     refine sk (th (sq (bk (sq (rg (iF rfl rfl T.sl63 (by omega) (by first|exact gN (by omega)|exact gI (by omega) (by omega)) (lF rfl rfl T.one3 (ag (nl (th (sq (sq (rg (mv (bi rfl rfl b_geq (nl (th ?_)))))))))))))))))
     refine cd rfl (fun hc4=> ?_) (fun hc4=> ?_)
     ·try simp at hc4
      refine rg (mv (mv (iO rfl rfl rfl T.sl63 (by omega) (by omega) (lO rfl rfl (by first|exact gN (by omega)|exact gI (by omega) (by omega)) rfl T.one3 (ag (nl (th (rg (fP rfl T.fld72_1 (lP rfl rfl rfl T.one63 (mv (bsE (enc:=intE) (xs:= [(ix pl ((ix ((ix ((solid s).states) ((ix (order (solid s)) k1).toNat)).next) k2).toNat))]) (css:= [[int (ix pl ((ix ((ix ((solid s).states) ((ix (order (solid s)) k1).toNat)).next) k2).toNat))]]) T.mk63 ⟨rfl,rfl,p1 (φ:=int (ix pl ((ix ((ix ((solid s).states) ((ix (order (solid s)) k1).toNat)).next) k2).toNat))) rfl,trivial⟩ rfl rfl rfl rfl (ap (key:=121) (zs:= [(ix pl ((ix ((ix ((solid s).states) ((ix (order (solid s)) k1).toNat)).next) k2).toNat))]) osl_eq rfl rfl rfl T.mk63 (by unfold maxL at*;simp;omega) (by unfold maxL at*;simp;omega) fun v80=>(fP rfl T.fld72_1 (storePO rfl rfl rfl rfl T.one63 rfl (nl (eb (th (rg (bi rfl rfl (b_add (by unfold I64;omega)) (mv (nl ?_))))))))))))))))))))))
      have hN0:(k2+1)≤((ix ((solid s).states) ((ix (order (solid s)) k1).toNat)).next).length:=by
       first|omega|simp_all
      have hN1:(l3++ [(ix pl ((ix ((ix ((solid s).states) ((ix (order (solid s)) k1).toNat)).next) k2).toNat))])=((ix (solid s).states (ix (order (solid s)) k1).toNat).next.take (k2+1)).map (mapK pl):=by
       rw[map_take_succ (by omega),hI2];simp[mapK,hc4]
      exact ln (⟨k2+1,v80,l3++ [(ix pl ((ix ((ix ((solid s).states) ((ix (order (solid s)) k1).toNat)).next) k2).toNat))]⟩:Nat × Value × (List Int)) ⟨hN0,hN1⟩ (by first|omega|(dsimp only;omega)) ⟨id,id,id,id,id,id,id,id,id,id,id,id,id,trivial⟩ ⟨⟨rfl,id⟩,⟨rfl,id⟩,⟨rfl,id⟩,⟨rfl,id⟩,⟨rfl,id⟩,⟨rfl,id⟩,⟨rfl,id⟩,⟨rfl,id⟩,trivial⟩
     ·try simp at hc4
      refine sk (th (rg (fP rfl T.fld72_1 (lP rfl rfl rfl T.one63 (mv (bsE (enc:=intE) (xs:= [(ix ((ix ((solid s).states) ((ix (order (solid s)) k1).toNat)).next) k2)]) (css:= [[int (ix ((ix ((solid s).states) ((ix (order (solid s)) k1).toNat)).next) k2)]]) T.mk63 ⟨rfl,rfl,p1 (φ:=int (ix ((ix ((solid s).states) ((ix (order (solid s)) k1).toNat)).next) k2)) rfl,trivial⟩ rfl rfl rfl rfl (ap (key:=121) (zs:= [(ix ((ix ((solid s).states) ((ix (order (solid s)) k1).toNat)).next) k2)]) osl_eq rfl rfl rfl T.mk63 (by unfold maxL at*;simp;omega) (by unfold maxL at*;simp;omega) fun v80=>(fP rfl T.fld72_1 (storePO rfl rfl rfl rfl T.one63 rfl (nl (eb (th (rg (bi rfl rfl (b_add (by unfold I64;omega)) (mv (nl ?_))))))))))))))))
      have hN0:(k2+1)≤((ix ((solid s).states) ((ix (order (solid s)) k1).toNat)).next).length:=by
       first|omega|simp_all
      have hN1:(l3++ [(ix ((ix ((solid s).states) ((ix (order (solid s)) k1).toNat)).next) k2)])=((ix (solid s).states (ix (order (solid s)) k1).toNat).next.take (k2+1)).map (mapK pl):=by
       rw[map_take_succ (by omega),hI2];simp[mapK];omega
      exact ln (⟨k2+1,v80,l3++ [(ix ((ix ((solid s).states) ((ix (order (solid s)) k1).toNat)).next) k2)]⟩:Nat × Value × (List Int)) ⟨hN0,hN1⟩ (by first|omega|(dsimp only;omega)) ⟨id,id,id,id,id,id,id,id,id,id,id,id,id,trivial⟩ ⟨⟨rfl,id⟩,⟨rfl,id⟩,⟨rfl,id⟩,⟨rfl,id⟩,⟨rfl,id⟩,⟨rfl,id⟩,⟨rfl,id⟩,⟨rfl,id⟩,trivial⟩
    ·try simp at hc3
     refine ex (xt_ (xt_ (xb (th (rg (fP rfl T.fld25_1 (lP rfl rfl rfl T.one23 (fzc 12 121 1 rfl rfl rfl rfl (lPA rfl rfl T.agg72 rfl (bsE (enc:=stateE) (xs:= [(⟨(ix (solid s).states (ix (order (solid s)) k1).toNat).accept,l3⟩)]) (css:= [[sl 1 intE ((ix (solid s).states (ix (order (solid s)) k1).toNat).accept),sl 1 intE l3]]) T.mk23 ⟨rfl,rfl,pA (cs:= [sl 1 intE ((ix (solid s).states (ix (order (solid s)) k1).toNat).accept),sl 1 intE l3]) rfl,trivial⟩ rfl rfl rfl rfl (ap (key:=90) (zs:= [(⟨(ix (solid s).states (ix (order (solid s)) k1).toNat).accept,l3⟩)]) osl_eq rfl rfl rfl T.mk23 (by unfold maxL at*;simp;omega) (by unfold maxL at*;simp;omega) fun v87=>(fP rfl T.fld25_1 (storePO rfl rfl rfl rfl T.one23 rfl (nl (eb (th (rg (bi rfl rfl (b_add (by unfold I64;omega)) (mv (nl ?_))))))))))))))))))))
     have hN0:(k1+1)≤(order (solid s)).length:=by
      first|omega|simp_all
     have hN1:(acc++ [(⟨(ix (solid s).states (ix (order (solid s)) k1).toNat).accept,l3⟩)])=((order (solid s)).take (k1+1)).map (tstR s):=by
      rw[map_take_succ (by omega),hI1]
      congr 2
      unfold tstR
      rw[hI2,show k2=(ix (solid s).states (ix (order (solid s)) k1).toNat).next.length by omega,List.take_length,hI0,show k=(order (solid s)).length by omega,List.take_length]
     exact ln (⟨k1+1,v87,acc++ [(⟨(ix (solid s).states (ix (order (solid s)) k1).toNat).accept,l3⟩)]⟩:Nat × Value × (List SState)) ⟨hN0,hN1⟩ (by first|omega|(dsimp only;omega)) ⟨id,id,id,id,id,id,id,id,id,trivial⟩ ⟨⟨rfl,id⟩,⟨rfl,id⟩,⟨rfl,id⟩,⟨rfl,id⟩,⟨rfl,id⟩,⟨rfl,id⟩,trivial⟩
   ·try simp at hc2
    refine ex (xt_ (xt_ (xb (th (sq (rg (fzc 9 90 1 rfl rfl rfl rfl (lPA rfl rfl T.agg25 rfl (mv (sPA (cs':= [sl 1 strE s.actions,sl 2 stateE acc]) rfl rfl rfl T.agg25 rfl rfl (ag (nl (th (rt ?_))))))))))))))
    have hL:=trimmed_not (s:=s) (by simpa using hc0)
    have hr0:s.actions=(((trimS s).1).actions):=by
     rw[hL]
    have hr1:acc=(((trimS s).1).states):=by
     rw[hL,hI1,show k1=(order (solid s)).length by omega,List.take_length]
     exact List.map_congr_left fun x hx=>by
      obtain⟨j,hj,rfl⟩:=List.getElem_of_mem hx
      have:=hoq.1 j hj
      rw[ix_get hj] at this
      exact tstR_eq hs this.1 this.2
    have hr2:(order (solid s))=((trimS s).2):=by
     rw[hL]
    have hall:∀x0 x1 x2,s.actions=x0→acc=x1→(order (solid s))=x2→resAV [agg [sl 1 strE s.actions,sl 2 stateE acc],sl 1 intE (order (solid s))]=resAV [agg [sl 1 strE x0,sl 2 stateE x1],sl 1 intE x2]:=by rintro _ _ _ rfl rfl rfl;rfl
    exact rE () [.cell 2 25,.tmp 3] rfl [agg [sl 1 strE s.actions,sl 2 stateE acc],sl 1 intE (order (solid s))] ⟨.agg rfl rfl T.agg25 rfl rfl,.tmp rfl,trivial⟩ (hall _ _ _ hr0 hr1 hr2) trivial (by first|exact .inr rfl|exact .inl rfl)
theorem IsNone_ok (s:SSpec) (hn:s.actions.length≤8):
 Fn0 Tryz.prog 44 [spec s] (bl (isNoneS s)):=by
 refine fnI Tryz.func44 rfl rfl (fun w0 F0=> ?_)
 refine fcC (inhS 0 rfl) (fun hS0=> ?_)
 obtain⟨hsa0,hss0,hse0⟩:=spec_lens hS0
 refine sq (rg (bx (key:=1) (cs:= [sl 1 strE s.actions,sl 2 stateE s.states]) rfl fun b1=>(ag (nl (th (sq (dr (nh:=6) [0,0,2,6,15,31] T.mixed (by kernel_rfl) ?_)))))))
 refine st_ rfl (fun _ _ _ gq kq=>lPA (gq.1.trans rfl) rfl T.agg25 rfl kq) ?_
 refine st_ rfl (fun _ _ _ gq kq=>fP (gq.1.trans rfl) T.fld25_0 kq) ?_
 refine st_ rfl (fun _ _ _ gq kq=>lP (gq.1.trans rfl) rfl rfl T.one22 kq) ?_
 refine st_ rfl (fun _ _ _ gq kq=>cal0 (φs:= [sl 1 strE s.actions]) (φ:=agg [sl 1 strE ((nothing s.actions).actions),sl 2 stateE ((nothing s.actions).states)]) ⟨(gq.1.trans rfl),trivial⟩ (ref03.Nothing_ok s.actions (by omega)) T.ent74 kq) ?_
 refine st_ rfl (fun _ _ _ gq kq=>cal0 (φs:= [agg [sl 1 strE s.actions,sl 2 stateE s.states],agg [sl 1 strE ((nothing s.actions).actions),sl 2 stateE ((nothing s.actions).states)]]) (φ:=bl (isNoneS s)) ⟨(gq.1.trans rfl),(gq.2.1.trans rfl),trivial⟩ (ref03.Same_ok s (nothing s.actions)) T.ent33 kq) ?_
 refine st_ rfl (fun _ _ _ gq kq=>ag' (gq.1.trans rfl) kq) ?_
 refine pn (nl (th (rt ?_)))
 exact rE () [.tmp 2] rfl [bl (isNoneS s)] ⟨.tmp rfl,trivial⟩ (rfl) trivial (by first|exact .inr rfl|exact .inl rfl)
theorem IsTrim_ok (s:SSpec) (hs:okSpec s):
 Fn0 Tryz.prog 70 [spec s] (bl (isTrimS s)):=by
 refine fnI Tryz.func70 rfl rfl (fun w0 F0=> ?_)
 refine fcC (inhS 0 rfl) (fun hS0=> ?_)
 obtain⟨hsa0,hss0,hse0⟩:=spec_lens hS0
 refine sq (rg (bx (key:=1) (cs:= [sl 1 strE s.actions,sl 2 stateE s.states]) rfl fun b1=>(ag (nl (th (sq (rg (lPA rfl rfl T.agg25 rfl (cal0 (φs:= [agg [sl 1 strE s.actions,sl 2 stateE s.states]]) (φ:=tup [agg [sl 1 strE (((trimS s).1).actions),sl 2 stateE (((trimS s).1).states)],sl 1 intE ((trimS s).2)]) ⟨rfl,trivial⟩ (divr.Trim_ok s (by assumption)) T.ent43 (mv (xt rfl rfl (xt rfl rfl (al (key:=3) T.z25 (ex_cons (ex_cons (ex_nil))) fun b3=>(sPA (cs':= [sl 1 strE (((trimS s).1).actions),sl 2 stateE (((trimS s).1).states)]) rfl rfl rfl T.agg25 rfl rfl (ag (nl (th (sq (rg (lPA rfl rfl T.agg25 rfl (lPA rfl rfl T.agg25 rfl (cal0 (φs:= [agg [sl 1 strE s.actions,sl 2 stateE s.states],agg [sl 1 strE (((trimS s).1).actions),sl 2 stateE (((trimS s).1).states)]]) (φ:=bl (isTrimS s)) ⟨rfl,rfl,trivial⟩ (ref03.Same_ok s (trimS s).1) T.ent33 (ag (nl (th (rt ?_))))))))))))))))))))))))))
 exact rE () [.tmp 2] rfl [bl (isTrimS s)] ⟨.tmp rfl,trivial⟩ (rfl) trivial (by first|exact .inr rfl|exact .inl rfl)
end divr
end Go.Proofs.YtcjemmihcplgdaaGreat
namespace Go.Proofs.YtcjemmihcplgdaaGreat
open AL Go
set_option maxRecDepth 100000
set_option linter.all false
open ref01 ref03 ref04 ref06 prog prog2 prog3 prog6 prog13 Part Rungs LeftM TrimM RoundM BisM BisM5 WalkM StepM WitM JudgM refw judg wit sysw divr
def andI (u o:Int):Int:=((u.toNat&&&o.toNat:Nat):Int)
def fitsB (x y:SState) (u:Int):Bool:=y.accept.all fun o=>decide (andI u o∈x.accept)
def partsB (x y:SState):Bool:=x.accept.any fun o=>decide (o∉y.accept)
noncomputable def bothE (t s:SSpec):Int:=if specOK t=true∧specOK s=true then(if t.actions=s.actions then 0 else 10) else 30
def largeB (t s:SSpec):Bool:=decide ((t.states.length:Int)*(s.states.length:Int)+1>500)
def noneM (m:SSys):Bool:=decide (m.actions.length=0)&&decide (m.states.length=0)
def goalS:SSpec:=⟨[⟨#[97]⟩,⟨#[98]⟩],[⟨[1],[0,-1]⟩]⟩
def partS:SSpec:=⟨[⟨#[97]⟩,⟨#[98]⟩],[⟨[1,3],[0,0]⟩]⟩
def accB (s:SSpec) (x u:Int):Bool:=decide (0≤x)&&decide (u∈acc s x.toNat)
theorem all_no {α:Type} [Inhabited α] {l:List α} {p:α→Bool} {k:Nat} (hk:k<l.length) (h:p (ix l k)=false):l.all p=false:=by
 cases g:l.all p with
 |false=>rfl
 |true=>rw[List.all_eq_true.1 g _ (ix_memS hk)] at h;cases h
theorem all_yes {α:Type} [Inhabited α] {l:List α} {p:α→Bool} (h:∀j,j<l.length→p (ix l j)=true):l.all p=true:=
 List.all_eq_true.2 fun e he=>by
  obtain⟨j,hj,rfl⟩:=List.getElem_of_mem he
  rw[←ix_get hj];exact h j hj
theorem any_yes {α:Type} [Inhabited α] {l:List α} {p:α→Bool} {k:Nat} (hk:k<l.length) (h:p (ix l k)=true):l.any p=true:=List.any_eq_true.2 ⟨_,ix_memS hk,h⟩
theorem any_no {α:Type} [Inhabited α] {l:List α} {p:α→Bool} (h:∀j,j<l.length→p (ix l j)=false):l.any p=false:=by
 cases g:l.any p with
 |false=>rfl
 |true=>
  obtain⟨e,he,hp⟩:=List.any_eq_true.1 g
  obtain⟨j,hj,rfl⟩:=List.getElem_of_mem he
  rw[←ix_get hj,h j hj] at hp;cases hp
namespace T
theorem ent77:Ent Tryz.prog 77:=ent_of (by kernel_rfl)
theorem ent41:Ent Tryz.prog 41:=ent_of (by kernel_rfl)
theorem ent86:Ent Tryz.prog 86:=ent_of (by kernel_rfl)
end T
namespace divs
theorem fits_ok (x y:SState) (u:Int) (hy:∀k,k<y.accept.length→0≤ix y.accept k∧ix y.accept k<256) (h0:0≤u) (h1:u<256):
 Fn0 Tryz.prog 46 [state x,state y,int u] (bl (fitsB x y u)):=by
 refine fnI Tryz.func46 rfl rfl (fun w0 F0=> ?_)
 refine fcC (inhS 0 rfl) (fun hS0=> ?_)
 obtain⟨hxa0,hxn0⟩:=state_lens hS0
 refine fcC (inhS 1 rfl) (fun hS1=> ?_)
 obtain⟨hxa1,hxn1⟩:=state_lens hS1
 refine sq (rg (bx (key:=3) (cs:= [sl 1 intE x.accept,sl 1 intE x.next]) rfl fun b3=>(bx (key:=4) (cs:= [sl 1 intE y.accept,sl 1 intE y.next]) rfl fun b4=>(ag (nl (th (sq (sq (rg (fP rfl T.fld72_0 (lP rfl rfl rfl T.one63 (fc (slenI 10 rfl) fun hm10=>(lnF rfl T.sl63 (mv (nl (th (bk ?_)))))))))))))))))
 have hI0_0:0≤y.accept.length:=by
  first|omega|simp
 have hI0_1:∀j,j<0→decide (andI u (ix y.accept j)∈x.accept)=true:=by
  intro j hj;omega
 refine lp (κ:=Nat) (fun p=> [(2,int u),(3,ptr 3 b3 0),(10,sl 1 intE y.accept),(11,int (y.accept.length:Int)),(12,int (p:Int))]) (fun p=> [(3,cell b3 [sl 1 intE x.accept,sl 1 intE x.next]),(4,cell b4 [sl 1 intE y.accept,sl 1 intE y.next])]) (fun p=>(p≤y.accept.length)∧(∀j,j<p→decide (andI u (ix y.accept j)∈x.accept)=true)) (fun p=>y.accept.length- p) 0 ⟨hI0_0,hI0_1⟩ ⟨id,id,id,id,id,trivial⟩ ⟨⟨rfl,id⟩,⟨rfl,id⟩,trivial⟩ ?_
 intro k hG0
 obtain⟨hk0,hI0⟩:(k≤y.accept.length)∧(∀j,j<k→decide (andI u (ix y.accept j)∈x.accept)=true):=hG0
 refine sq (rg (bi rfl rfl b_lss (nl (th (sq ?_)))))
 refine cd rfl (fun hc0=> ?_) (fun hc0=> ?_)
 ·try simp at hc0
  have hyk:=hy k (by omega)
  refine sk (th (sq (bk (sq (rg (iF rfl rfl T.sl63 (by omega) (by first|exact gN (by omega)|exact gI (by omega) (by omega)) (lF rfl rfl T.one3 (ag (nl (th (sq (rg (fP rfl T.fld72_0 (lP rfl rfl rfl T.one63 (mv (mv (bi rfl rfl (b_andI (by omega) (by omega) (by omega) (by omega)) (cal0 (φs:= [sl 1 intE x.accept,int ((u.toNat&&&((ix y.accept k).toNat):Nat):Int)]) (φ:=bl (decide (((u.toNat&&&((ix y.accept k).toNat):Nat):Int)∈x.accept))) ⟨rfl,rfl,trivial⟩ (divr.In_ok _ _) T.ent77 (no rfl (nl (th ?_)))))))))))))))))))))
  refine cd rfl (fun hc1=> ?_) (fun hc1=> ?_)
  ·skip
   refine sq (rg (ag (nl (th (rt (rb (rt_ (rt_ (rb (rt_ ?_))))))))))
   have hr0:false=(fitsB x y u):=by
    refine(all_no (k:=k) (by omega) ?_).symm
    by_cases g:andI u (ix y.accept k)∈x.accept
    ·exact absurd hc1 (by unfold andI at g;simp[g])
    ·exact decide_eq_false g
   have hall:∀x0,false=x0→resAV [bl false]=resAV [bl x0]:=by rintro _ rfl;rfl
   exact rE () [.tmp 6] rfl [bl false] ⟨.tmp rfl,trivial⟩ (hall _ hr0) trivial (by first|exact .inr rfl|exact .inl rfl)
  ·skip
   refine sk (eb (th (rg (bi rfl rfl (b_add (by unfold I64;omega)) (mv (nl ?_))))))
   have hN0:(k+1)≤y.accept.length:=by
    first|omega|simp_all
   have hN1:∀j,j<(k+1)→decide (andI u (ix y.accept j)∈x.accept)=true:=by
    intro j hj
    by_cases e:j=k
    ·subst e
     by_cases g:andI u (ix y.accept j)∈x.accept
     ·exact decide_eq_true g
     ·exact absurd hc1 (by unfold andI at g;simp[g])
    ·exact hI0 j (by omega)
   exact ln (k+1) ⟨hN0,hN1⟩ (by first|omega|(dsimp only;omega)) ⟨id,id,id,id,id,trivial⟩ ⟨⟨rfl,id⟩,⟨rfl,id⟩,trivial⟩
 ·try simp at hc0
  refine ex (xt_ (xt_ (xb (th (sq (rg (ag (nl (th (rt ?_))))))))))
  have hr0:true=(fitsB x y u):=by
   exact(all_yes (fun j hj=>hI0 j (by omega))).symm
  have hall:∀x0,true=x0→resAV [bl true]=resAV [bl x0]:=by rintro _ rfl;rfl
  exact rE () [.tmp 6] rfl [bl true] ⟨.tmp rfl,trivial⟩ (hall _ hr0) trivial (by first|exact .inr rfl|exact .inl rfl)
theorem parts_ok (x y:SState):
 Fn0 Tryz.prog 162 [state x,state y] (bl (partsB x y)):=by
 refine fnI Tryz.func162 rfl rfl (fun w0 F0=> ?_)
 refine fcC (inhS 0 rfl) (fun hS0=> ?_)
 obtain⟨hxa0,hxn0⟩:=state_lens hS0
 refine fcC (inhS 1 rfl) (fun hS1=> ?_)
 obtain⟨hxa1,hxn1⟩:=state_lens hS1
 refine sq (rg (bx (key:=2) (cs:= [sl 1 intE x.accept,sl 1 intE x.next]) rfl fun b2=>(bx (key:=3) (cs:= [sl 1 intE y.accept,sl 1 intE y.next]) rfl fun b3=>(ag (nl (th (sq (sq (rg (fP rfl T.fld72_0 (lP rfl rfl rfl T.one63 (fc (slenI 8 rfl) fun hm8=>(lnF rfl T.sl63 (mv (nl (th (bk ?_)))))))))))))))))
 have hI0_0:0≤x.accept.length:=by
  first|omega|simp
 have hI0_1:∀j,j<0→decide (ix x.accept j∉y.accept)=false:=by
  intro j hj;omega
 refine lp (κ:=Nat) (fun p=> [(3,ptr 3 b3 0),(8,sl 1 intE x.accept),(9,int (x.accept.length:Int)),(10,int (p:Int))]) (fun p=> [(2,cell b2 [sl 1 intE x.accept,sl 1 intE x.next]),(3,cell b3 [sl 1 intE y.accept,sl 1 intE y.next])]) (fun p=>(p≤x.accept.length)∧(∀j,j<p→decide (ix x.accept j∉y.accept)=false)) (fun p=>x.accept.length- p) 0 ⟨hI0_0,hI0_1⟩ ⟨id,id,id,id,trivial⟩ ⟨⟨rfl,id⟩,⟨rfl,id⟩,trivial⟩ ?_
 intro k hG0
 obtain⟨hk0,hI0⟩:(k≤x.accept.length)∧(∀j,j<k→decide (ix x.accept j∉y.accept)=false):=hG0
 refine sq (rg (bi rfl rfl b_lss (nl (th (sq ?_)))))
 refine cd rfl (fun hc0=> ?_) (fun hc0=> ?_)
 ·try simp at hc0
  refine sk (th (sq (bk (sq (rg (iF rfl rfl T.sl63 (by omega) (by first|exact gN (by omega)|exact gI (by omega) (by omega)) (lF rfl rfl T.one3 (ag (nl (th (sq (rg (fP rfl T.fld72_0 (lP rfl rfl rfl T.one63 (mv (cal0 (φs:= [sl 1 intE y.accept,int (ix x.accept k)]) (φ:=bl (decide ((ix x.accept k)∈y.accept))) ⟨rfl,rfl,trivial⟩ (divr.In_ok _ _) T.ent77 (no rfl (nl (th ?_)))))))))))))))))))
  refine cd rfl (fun hc1=> ?_) (fun hc1=> ?_)
  ·skip
   refine sq (rg (ag (nl (th (rt (rb (rt_ (rt_ (rb (rt_ ?_))))))))))
   have hr0:true=(partsB x y):=by
    exact(any_yes (k:=k) (by omega) (by simpa using hc1)).symm
   have hall:∀x0,true=x0→resAV [bl true]=resAV [bl x0]:=by rintro _ rfl;rfl
   exact rE () [.tmp 4] rfl [bl true] ⟨.tmp rfl,trivial⟩ (hall _ hr0) trivial (by first|exact .inr rfl|exact .inl rfl)
  ·skip
   refine sk (eb (th (rg (bi rfl rfl (b_add (by unfold I64;omega)) (mv (nl ?_))))))
   have hN0:(k+1)≤x.accept.length:=by
    first|omega|simp_all
   have hN1:∀j,j<(k+1)→decide (ix x.accept j∉y.accept)=false:=by
    intro j hj
    by_cases e:j=k
    ·subst e;simpa using hc1
    ·exact hI0 j (by omega)
   exact ln (k+1) ⟨hN0,hN1⟩ (by first|omega|(dsimp only;omega)) ⟨id,id,id,id,trivial⟩ ⟨⟨rfl,id⟩,⟨rfl,id⟩,trivial⟩
 ·try simp at hc0
  refine ex (xt_ (xt_ (xb (th (sq (rg (ag (nl (th (rt ?_))))))))))
  have hr0:false=(partsB x y):=by
   exact(any_no (fun j hj=>hI0 j (by omega))).symm
  have hall:∀x0,false=x0→resAV [bl false]=resAV [bl x0]:=by rintro _ rfl;rfl
  exact rE () [.tmp 4] rfl [bl false] ⟨.tmp rfl,trivial⟩ (hall _ hr0) trivial (by first|exact .inr rfl|exact .inl rfl)
theorem both_ok (t s:SSpec):
 Fn0 Tryz.prog 11 [spec t,spec s] (int (bothE t s)):=by
 refine fnI Tryz.func11 rfl rfl (fun w0 F0=> ?_)
 refine fcC (inhS 0 rfl) (fun hS0=> ?_)
 obtain⟨hsa0,hss0,hse0⟩:=spec_lens hS0
 refine fcC (inhS 1 rfl) (fun hS1=> ?_)
 obtain⟨hsa1,hss1,hse1⟩:=spec_lens hS1
 refine sq (rg (bx (key:=2) (cs:= [sl 1 strE t.actions,sl 2 stateE t.states]) rfl fun b2=>(bx (key:=3) (cs:= [sl 1 strE s.actions,sl 2 stateE s.states]) rfl fun b3=>(ag (nl (th (sq (bk (sq (rg (lPA rfl rfl T.agg25 rfl (cal0 (φs:= [agg [sl 1 strE t.actions,sl 2 stateE t.states]]) (φ:=bl (specOK t)) ⟨rfl,trivial⟩ (ref03.Is_ok t) T.ent41 (no rfl (mv ?_))))))))))))))
 apply gOr (t:=9) (pd:=13) rfl
 rotate_left
 ·intro hg0 fin
  have hg0':=hg0
  try simp at hg0'
  exact gy rfl rfl rfl hg0 (lPA rfl rfl T.agg25 rfl (gy rfl rfl rfl hg0 (cal0 (φs:= [agg [sl 1 strE s.actions,sl 2 stateE s.states]]) (φ:=bl (specOK s)) ⟨rfl,trivial⟩ (ref03.Is_ok s) T.ent41 (gy rfl rfl rfl hg0 (no rfl (pkF rfl hg0 rfl (drp (X:= [(12,_),(11,_),(10,_)]) ⟨rfl,rfl,rfl,trivial⟩ (fin))))))))
 ·intro hg0 fin
  exact gn rfl rfl rfl hg0 rfl rfl (gn rfl rfl rfl hg0 rfl rfl (gn rfl rfl rfl hg0 rfl rfl (pkT rfl hg0 rfl (drp (X:= [(12,_),(11,_),(10,_)]) ⟨rfl,rfl,rfl,trivial⟩ (fin)))))
 refine ag (nl (th ?_))
 refine cd rfl (fun hc0=> ?_) (fun hc0=> ?_)
 ·skip
  have hn:¬(specOK t=true∧specOK s=true):=by rintro⟨h1,h2⟩;simp[h1,h2] at hc0
  refine sq (rg (ag (nl (th (rt (rb (rt_ ?_)))))))
  have hr0:(30:Int)=(bothE t s):=by
   unfold bothE;rw[if_neg hn]
  have hall:∀x0,30=x0→resAV [int 30]=resAV [int x0]:=by rintro _ rfl;rfl
  exact rE () [.tmp 4] rfl [int 30] ⟨.tmp rfl,trivial⟩ (hall _ hr0) trivial (by first|exact .inr rfl|exact .inl rfl)
 ·skip
  have hy:specOK t=true∧specOK s=true:=by
   cases h1:specOK t<;>cases h2:specOK s<;>simp_all
  refine sq (rg (fP rfl T.fld25_0 (lP rfl rfl rfl T.one22 (fP rfl T.fld25_0 (lP rfl rfl rfl T.one22 (cal0 (φs:= [sl 1 strE t.actions,sl 1 strE s.actions]) (φ:=bl (decide (t.actions=s.actions))) ⟨rfl,rfl,trivial⟩ (ref01.SameStrings_ok _ _) T.ent42 (no rfl (ag (nl (th ?_))))))))))
  refine cd rfl (fun hc1=> ?_) (fun hc1=> ?_)
  ·skip
   refine sq (rg (ag (nl (th (rt (rb (rt_ ?_)))))))
   have hr0:(10:Int)=(bothE t s):=by
    unfold bothE;rw[if_pos hy,if_neg (by simpa using hc1)]
   have hall:∀x0,10=x0→resAV [int 10]=resAV [int x0]:=by rintro _ rfl;rfl
   exact rE () [.tmp 4] rfl [int 10] ⟨.tmp rfl,trivial⟩ (hall _ hr0) trivial (by first|exact .inr rfl|exact .inl rfl)
  ·skip
   refine sk (eb (th (sq (rg (ag (nl (th (rt ?_))))))))
   have hr0:(0:Int)=(bothE t s):=by
    unfold bothE;rw[if_pos hy,if_pos (by simpa using hc1)]
   have hall:∀x0,0=x0→resAV [int 0]=resAV [int x0]:=by rintro _ rfl;rfl
   exact rE () [.tmp 4] rfl [int 0] ⟨.tmp rfl,trivial⟩ (hall _ hr0) trivial (by first|exact .inr rfl|exact .inl rfl)
theorem goal_ok:
 Fn0 Tryz.prog 38 [] (spec goalS):=by
 refine fnI Tryz.func38 rfl rfl (fun w0 F0=> ?_)
 refine sq (rg (al (key:=0) T.z25 (ex_cons (ex_cons (ex_nil))) fun b0=>(nl (th (sq (rg (bsE (enc:=strE) (xs:= [({ data:= #[97] }),({ data:= #[98] })]) (css:= [[str ({ data:= #[97] })],[str ({ data:= #[98] })]]) T.mk22 ⟨rfl,rfl,p1 (φ:=str ({ data:= #[97] })) rfl,⟨rfl,rfl,p1 (φ:=str ({ data:= #[98] })) rfl,trivial⟩⟩ rfl rfl rfl rfl (bsE (enc:=intE) (xs:= [1]) (css:= [[int 1]]) T.mk63 ⟨rfl,rfl,p1 (φ:=int 1) rfl,trivial⟩ rfl rfl rfl rfl (bsE (enc:=intE) (xs:= [0,(-1)]) (css:= [[int 0],[int (-1)]]) T.mk63 ⟨rfl,rfl,p1 (φ:=int 0) rfl,⟨rfl,rfl,p1 (φ:=int (-1)) rfl,trivial⟩⟩ rfl rfl rfl rfl (bd (css:= [(0,_),(1,_)]) T.st72 (ex_cons (ex_cons (ex_nil))) ⟨rfl,rfl,p1 (φ:=sl 1 intE [1]) rfl,⟨rfl,rfl,p1 (φ:=sl 1 intE [0,(-1)]) rfl,trivial⟩⟩ (bsE (enc:=stateE) (xs:= [(⟨[1],[0,(-1)]⟩)]) (css:= [[sl 1 intE [1],sl 1 intE [0,(-1)]]]) T.mk23 ⟨rfl,rfl,pA (cs:= [sl 1 intE [1],sl 1 intE [0,(-1)]]) rfl,trivial⟩ rfl rfl rfl rfl (bd (css:= [(0,_),(1,_)]) T.st25 (ex_cons (ex_cons (ex_nil))) ⟨rfl,rfl,p1 (φ:=sl 1 strE [({ data:= #[97] }),({ data:= #[98] })]) rfl,⟨rfl,rfl,p1 (φ:=sl 2 stateE [(⟨[1],[0,(-1)]⟩)]) rfl,trivial⟩⟩ (sPA (cs':= [sl 1 strE [({ data:= #[97] }),({ data:= #[98] })],sl 2 stateE [(⟨[1],[0,(-1)]⟩)]]) rfl rfl rfl T.agg25 rfl rfl (nl (th (rt ?_))))))))))))))))
 have hr0: [({ data:= #[97] }),({ data:= #[98] })]=goalS.actions:=by
  first|rfl|simp_all|omega
 have hr1: [(⟨[1],[0,(-1)]⟩)]=goalS.states:=by
  first|rfl|simp_all|omega
 have hall:∀x0 x1,[({ data:= #[97] }),({ data:= #[98] })]=x0→[(⟨[1],[0,(-1)]⟩)]=x1→resAV [agg [sl 1 strE [({ data:= #[97] }),({ data:= #[98] })],sl 2 stateE [(⟨[1],[0,(-1)]⟩)]]]=resAV [agg [sl 1 strE x0,sl 2 stateE x1]]:=by rintro _ _ rfl rfl;rfl
 exact rE () [.cell 0 25] rfl [agg [sl 1 strE [({ data:= #[97] }),({ data:= #[98] })],sl 2 stateE [(⟨[1],[0,(-1)]⟩)]]] ⟨.agg rfl rfl T.agg25 rfl rfl,trivial⟩ (hall _ _ hr0 hr1) trivial (by first|exact .inr rfl|exact .inl rfl)
theorem part_ok:
 Fn0 Tryz.prog 39 [] (spec partS):=by
 refine fnI Tryz.func39 rfl rfl (fun w0 F0=> ?_)
 refine sq (rg (al (key:=0) T.z25 (ex_cons (ex_cons (ex_nil))) fun b0=>(nl (th (sq (rg (bsE (enc:=strE) (xs:= [({ data:= #[97] }),({ data:= #[98] })]) (css:= [[str ({ data:= #[97] })],[str ({ data:= #[98] })]]) T.mk22 ⟨rfl,rfl,p1 (φ:=str ({ data:= #[97] })) rfl,⟨rfl,rfl,p1 (φ:=str ({ data:= #[98] })) rfl,trivial⟩⟩ rfl rfl rfl rfl (bsE (enc:=intE) (xs:= [1,3]) (css:= [[int 1],[int 3]]) T.mk63 ⟨rfl,rfl,p1 (φ:=int 1) rfl,⟨rfl,rfl,p1 (φ:=int 3) rfl,trivial⟩⟩ rfl rfl rfl rfl (bsE (enc:=intE) (xs:= [0,0]) (css:= [[int 0],[int 0]]) T.mk63 ⟨rfl,rfl,p1 (φ:=int 0) rfl,⟨rfl,rfl,p1 (φ:=int 0) rfl,trivial⟩⟩ rfl rfl rfl rfl (bd (css:= [(0,_),(1,_)]) T.st72 (ex_cons (ex_cons (ex_nil))) ⟨rfl,rfl,p1 (φ:=sl 1 intE [1,3]) rfl,⟨rfl,rfl,p1 (φ:=sl 1 intE [0,0]) rfl,trivial⟩⟩ (bsE (enc:=stateE) (xs:= [(⟨[1,3],[0,0]⟩)]) (css:= [[sl 1 intE [1,3],sl 1 intE [0,0]]]) T.mk23 ⟨rfl,rfl,pA (cs:= [sl 1 intE [1,3],sl 1 intE [0,0]]) rfl,trivial⟩ rfl rfl rfl rfl (bd (css:= [(0,_),(1,_)]) T.st25 (ex_cons (ex_cons (ex_nil))) ⟨rfl,rfl,p1 (φ:=sl 1 strE [({ data:= #[97] }),({ data:= #[98] })]) rfl,⟨rfl,rfl,p1 (φ:=sl 2 stateE [(⟨[1,3],[0,0]⟩)]) rfl,trivial⟩⟩ (sPA (cs':= [sl 1 strE [({ data:= #[97] }),({ data:= #[98] })],sl 2 stateE [(⟨[1,3],[0,0]⟩)]]) rfl rfl rfl T.agg25 rfl rfl (nl (th (rt ?_))))))))))))))))
 have hr0: [({ data:= #[97] }),({ data:= #[98] })]=partS.actions:=by
  first|rfl|simp_all|omega
 have hr1: [(⟨[1,3],[0,0]⟩)]=partS.states:=by
  first|rfl|simp_all|omega
 have hall:∀x0 x1,[({ data:= #[97] }),({ data:= #[98] })]=x0→[(⟨[1,3],[0,0]⟩)]=x1→resAV [agg [sl 1 strE [({ data:= #[97] }),({ data:= #[98] })],sl 2 stateE [(⟨[1,3],[0,0]⟩)]]]=resAV [agg [sl 1 strE x0,sl 2 stateE x1]]:=by rintro _ _ rfl rfl;rfl
 exact rE () [.cell 0 25] rfl [agg [sl 1 strE [({ data:= #[97] }),({ data:= #[98] })],sl 2 stateE [(⟨[1,3],[0,0]⟩)]]] ⟨.agg rfl rfl T.agg25 rfl rfl,trivial⟩ (hall _ _ hr0 hr1) trivial (by first|exact .inr rfl|exact .inl rfl)
theorem Accepts_ok (s:SSpec) (x u:Int) (hx:x<(s.states.length:Int)):
 Fn0 Tryz.prog 118 [spec s,int x,int u] (bl (accB s x u)):=by
 refine fnI Tryz.func118 rfl rfl (fun w0 F0=> ?_)
 refine fcC (inhS 0 rfl) (fun hS0=> ?_)
 obtain⟨hsa0,hss0,hse0⟩:=spec_lens hS0
 refine sq (rg (bx (key:=3) (cs:= [sl 1 strE s.actions,sl 2 stateE s.states]) rfl fun b3=>(ag (nl (th (sq (rg (mv (bi rfl rfl b_geq (mv ?_))))))))))
 apply gAnd (t:=9) (pd:=18) rfl
 rotate_left
 ·intro hg0 fin
  have hg0':=hg0
  try simp at hg0'
  exact gy rfl rfl rfl hg0 (fP rfl T.fld25_1 (gy rfl rfl rfl hg0 (lP rfl rfl rfl T.one23 (gy rfl rfl rfl hg0 (mv (gy rfl rfl rfl hg0 (iF rfl rfl T.sl23 (by omega) (by first|exact gN (by omega)|exact gI (by omega) (by omega)) (gy rfl rfl rfl hg0 (fF rfl T.fld72_0 (gy rfl rfl rfl hg0 (lF rfl rfl T.one63 (gy rfl rfl rfl hg0 (mv (gy rfl rfl rfl hg0 (cal0 (φs:= [sl 1 intE ((ix s.states x.toNat).accept),int u]) (φ:=bl (decide (u∈((ix s.states x.toNat).accept)))) ⟨rfl,rfl,trivial⟩ (divr.In_ok _ _) T.ent77 (pkT rfl hg0 rfl (drp (X:= [(17,_),(16,_),(15,_),(14,_),(13,_),(12,_),(11,_),(10,_)]) ⟨rfl,rfl,rfl,rfl,rfl,rfl,rfl,rfl,trivial⟩ (fin))))))))))))))))))
 ·intro hg0 fin
  exact gn rfl rfl rfl hg0 rfl rfl (gn rfl rfl rfl hg0 rfl rfl (gn rfl rfl rfl hg0 rfl rfl (gn rfl rfl rfl hg0 rfl rfl (gn rfl rfl rfl hg0 rfl rfl (gn rfl rfl rfl hg0 rfl rfl (gn rfl rfl rfl hg0 rfl rfl (gn rfl rfl rfl hg0 rfl rfl (pkF rfl hg0 rfl (drp (X:= [(17,_),(16,_),(15,_),(14,_),(13,_),(12,_),(11,_),(10,_)]) ⟨rfl,rfl,rfl,rfl,rfl,rfl,rfl,rfl,trivial⟩ (fin))))))))))
 refine ag (nl (th (rt ?_)))
 have hr0:((decide (0≤x))&&(decide (u∈((ix s.states x.toNat).accept))))=(accB s x u):=by
  first|rfl|simp_all|omega
 have hall:∀x0,((decide (0≤x))&&(decide (u∈((ix s.states x.toNat).accept))))=x0→resAV [bl ((decide (0≤x))&&(decide (u∈((ix s.states x.toNat).accept))))]=resAV [bl x0]:=by rintro _ rfl;rfl
 exact rE () [.tmp 6] rfl [bl ((decide (0≤x))&&(decide (u∈((ix s.states x.toNat).accept))))] ⟨.tmp rfl,trivial⟩ (hall _ hr0) trivial (by first|exact .inr rfl|exact .inl rfl)
theorem before_ok (d e:Int × Int):
 Fn0 Tryz.prog 86 [agg [int d.1,int d.2],agg [int e.1,int e.2]] (bl (ltP d e)):=by
 refine fnI Tryz.func86 rfl rfl (fun w0 F0=> ?_)
 refine sq (rg (bx (key:=2) (cs:= [int d.1,int d.2]) rfl fun b2=>(bx (key:=3) (cs:= [int e.1,int e.2]) rfl fun b3=>(ag (nl (th (sq (rg (fP rfl T.fld94_0 (lP rfl rfl rfl T.one3 (fP rfl T.fld94_0 (lP rfl rfl rfl T.one3 (bi rfl rfl b_lss (mv ?_))))))))))))))
 apply gOr (t:=10) (pd:=23) rfl
 rotate_left
 ·intro hg0 fin
  have hg0':=hg0
  try simp at hg0'
  refine gy rfl rfl rfl hg0 (fP rfl T.fld94_0 (gy rfl rfl rfl hg0 (lP rfl rfl rfl T.one3 (gy rfl rfl rfl hg0 (fP rfl T.fld94_0 (gy rfl rfl rfl hg0 (lP rfl rfl rfl T.one3 (gy rfl rfl rfl hg0 (bi rfl rfl b_eql (gy rfl rfl rfl hg0 (mv ?_)))))))))))
  apply gAnd (t:=16) (pd:=22) rfl
  rotate_left
  ·intro hg1 fin
   have hg1':=hg1
   try simp at hg1'
   exact gy rfl rfl rfl hg1 (fP rfl T.fld94_1 (gy rfl rfl rfl hg1 (lP rfl rfl rfl T.one3 (gy rfl rfl rfl hg1 (fP rfl T.fld94_1 (gy rfl rfl rfl hg1 (lP rfl rfl rfl T.one3 (gy rfl rfl rfl hg1 (bi rfl rfl b_lss (gy rfl rfl rfl hg0 (pkT rfl hg1 rfl (drp (X:= [(21,_),(20,_),(19,_),(18,_),(17,_)]) ⟨rfl,rfl,rfl,rfl,rfl,trivial⟩ (fin)))))))))))))
  ·intro hg1 fin
   exact gn rfl rfl rfl hg1 rfl rfl (gn rfl rfl rfl hg1 rfl rfl (gn rfl rfl rfl hg1 rfl rfl (gn rfl rfl rfl hg1 rfl rfl (gn rfl rfl rfl hg1 rfl rfl (gy rfl rfl rfl hg0 (pkF rfl hg1 rfl (drp (X:= [(21,_),(20,_),(19,_),(18,_),(17,_)]) ⟨rfl,rfl,rfl,rfl,rfl,trivial⟩ (fin))))))))
  exact pkF rfl hg0 rfl (drp (X:= [(22,_),(16,_),(15,_),(14,_),(13,_),(12,_),(11,_)]) ⟨rfl,rfl,rfl,rfl,rfl,rfl,rfl,trivial⟩ (fin))
 ·intro hg0 fin
  exact gn rfl rfl rfl hg0 rfl rfl (gn rfl rfl rfl hg0 rfl rfl (gn rfl rfl rfl hg0 rfl rfl (gn rfl rfl rfl hg0 rfl rfl (gn rfl rfl rfl hg0 rfl rfl (gn rfl rfl rfl hg0 rfl rfl (gu rfl rfl rfl rfl rfl (gu rfl rfl rfl rfl rfl (gu rfl rfl rfl rfl rfl (gu rfl rfl rfl rfl rfl (gu rfl rfl rfl rfl rfl (gn rfl rfl rfl hg0 rfl rfl (pkT rfl hg0 rfl (drp (X:= [(22,_),(21,_),(20,_),(19,_),(18,_),(17,_),(16,_),(15,_),(14,_),(13,_),(12,_),(11,_)]) ⟨rfl,rfl,rfl,rfl,rfl,rfl,rfl,rfl,rfl,rfl,rfl,rfl,trivial⟩ (fin))))))))))))))
 refine ag (nl (th (rt ?_)))
 have hr0:((decide (d.1<e.1))||((decide (d.1=e.1))&&(decide (d.2<e.2))))=(ltP d e):=by
  first|rfl|simp_all|omega
 have hall:∀x0,((decide (d.1<e.1))||((decide (d.1=e.1))&&(decide (d.2<e.2))))=x0→resAV [bl ((decide (d.1<e.1))||((decide (d.1=e.1))&&(decide (d.2<e.2))))]=resAV [bl x0]:=by rintro _ rfl;rfl
 exact rE () [.tmp 4] rfl [bl ((decide (d.1<e.1))||((decide (d.1=e.1))&&(decide (d.2<e.2))))] ⟨.tmp rfl,trivial⟩ (hall _ hr0) trivial (by first|exact .inr rfl|exact .inl rfl)
theorem Offer_ok (m:SSys) (x:Int) (hm:∀e∈ix m.states x.toNat,0≤e.1∧e.1<8) (h0:0≤x) (hx:x<(m.states.length:Int)):
 Fn0 Tryz.prog 119 [sys m,int x] (int (offM m x.toNat)):=by
 refine fnI Tryz.func119 rfl rfl (fun w0 F0=> ?_)
 refine fcC (inhS 0 rfl) (fun hS0=> ?_)
 obtain⟨hma0,hms0,hme0⟩:=sys_lens hS0
 refine sq (rg (bx (key:=2) (cs:= [sl 1 strE m.actions,sl 1 edgesE m.states]) rfl fun b2=>(ag (nl (th (sq (rg (ag (nl (th (sq (sq (rg (fP rfl T.fld38_1 (lP rfl rfl rfl T.one36 (mv (iF rfl rfl T.sl36 (by omega) (by first|exact gN (by omega)|exact gI (by omega) (by omega)) (lF rfl rfl T.one88 (fc (slenI 12 rfl) fun hm12=>(lnF rfl T.sl88 (mv (nl (th (bk ?_))))))))))))))))))))))))
 have hI0_0:0≤(ix m.states x.toNat).length:=by
  first|omega|simp
 have hI0_1:(0:Int)=offE ((ix m.states x.toNat).take 0)∧0≤(0:Int)∧(0:Int)<256:=by
  exact⟨rfl,by omega,by omega⟩
 refine lp (κ:=Nat × Int) (fun p=> [(4,int 0),(5,int p.2),(12,sl 2 pairE (ix m.states x.toNat)),(13,int ((ix m.states x.toNat).length:Int)),(14,int (p.1:Int))]) (fun p=> [(2,cell b2 [sl 1 strE m.actions,sl 1 edgesE m.states])]) (fun p=>(p.1≤(ix m.states x.toNat).length)∧(p.2=offE ((ix m.states x.toNat).take p.1)∧0≤p.2∧p.2<256)) (fun p=>(ix m.states x.toNat).length- p.1) ⟨0,(0:Int)⟩ ⟨hI0_0,hI0_1⟩ ⟨id,id,id,id,id,trivial⟩ ⟨⟨rfl,id⟩,trivial⟩ ?_
 intro⟨k,u⟩ hG0
 obtain⟨hk0,⟨hu,hu0,hu1⟩⟩:(k≤(ix m.states x.toNat).length)∧(u=offE ((ix m.states x.toNat).take k)∧0≤u∧u<256):=hG0
 show Ct _ _ _ _ [(4,int 0),(5,int u),(12,sl 2 pairE (ix m.states x.toNat)),(13,int ((ix m.states x.toNat).length:Int)),(14,int (k:Int))] [(2,cell b2 [sl 1 strE m.actions,sl 1 edgesE m.states])] _
 refine sq (rg (bi rfl rfl b_lss (nl (th (sq ?_)))))
 refine cd rfl (fun hc0=> ?_) (fun hc0=> ?_)
 ·try simp at hc0
  have hek:=hm _ (ix_memS hc0)
  have hp:2^ ((ix (ix m.states x.toNat) k).1).toNat≤2^7:=Nat.pow_le_pow_right (by omega) (by omega)
  have hp0:0≤(((2^ ((ix (ix m.states x.toNat) k).1).toNat:Nat):Int)):=Int.natCast_nonneg _
  refine sk (th (sq (bk (sq (rg (iF rfl rfl T.sl88 (by omega) (by first|exact gN (by omega)|exact gI (by omega) (by omega)) (lFA rfl T.agg94 (Nat.le_of_ble_eq_true rfl) (al (key:=7) T.z94 (ex_cons (ex_cons (ex_nil))) fun b7=>(sPA (cs':= [int ((ix (ix m.states x.toNat) k).1),int ((ix (ix m.states x.toNat) k).2)]) rfl rfl rfl T.agg94 rfl rfl (nl (th (rg (mv (fP rfl T.fld94_0 (lP rfl rfl rfl T.one3 (bi rfl rfl (b_shlI (by omega) (by omega)) (bi rfl rfl (b_orI (by omega) (by omega) (by omega) (by omega)) (ag (nl (eb (th (rg (bi rfl rfl (b_add (by unfold I64;omega)) (mv (nl ?_)))))))))))))))))))))))))
  have hN0:(k+1)≤(ix m.states x.toNat).length:=by
   first|omega|simp_all
  have hN1:((u.toNat|||(2^ (((ix (ix m.states x.toNat) k).1).toNat)):Nat):Int)=offE ((ix m.states x.toNat).take (k+1))∧0≤((u.toNat|||(2^ (((ix (ix m.states x.toNat) k).1).toNat)):Nat):Int)∧((u.toNat|||(2^ (((ix (ix m.states x.toNat) k).1).toNat)):Nat):Int)<256:=by
   refine⟨?_,by omega,or_lt256 (b:=((2^ ((ix (ix m.states x.toNat) k).1).toNat:Nat):Int)) hu1 (by omega)⟩
   rw[take_s hc0]
   unfold offE
   rw[List.map_append,List.map_cons,List.map_nil,orAll_snoc,hu];rfl
  exact ln (⟨k+1,((u.toNat|||(2^ (((ix (ix m.states x.toNat) k).1).toNat)):Nat):Int)⟩:Nat × Int) ⟨hN0,hN1⟩ (by first|omega|(dsimp only;omega)) ⟨id,id,id,id,id,trivial⟩ ⟨⟨rfl,id⟩,trivial⟩
 ·try simp at hc0
  refine ex (xt_ (xt_ (xb (th (sq (rg (mv (ag (nl (th (rt ?_)))))))))))
  have hr0:(u:Int)=(offM m x.toNat):=by
   rw[hu,show k=(ix m.states x.toNat).length by omega,List.take_length]
  have hall:∀x0,u=x0→resAV [int u]=resAV [int x0]:=by rintro _ rfl;rfl
  exact rE () [.tmp 4] rfl [int u] ⟨.tmp rfl,trivial⟩ (hall _ hr0) trivial (by first|exact .inr rfl|exact .inl rfl)
theorem Is_ok (m:SSys):
 Fn0 Tryz.prog 54 [sys m] (bl (sysOK m)):=by
 refine fnI Tryz.func54 rfl rfl (fun w0 F0=> ?_)
 refine fcC (inhS 0 rfl) (fun hS0=> ?_)
 obtain⟨hma0,hms0,hme0⟩:=sys_lens hS0
 refine sq (rg (bx (key:=1) (cs:= [sl 1 strE m.actions,sl 1 edgesE m.states]) rfl fun b1=>(ag (nl (th (sq (sq (rg (fP rfl T.fld38_0 (lP rfl rfl rfl T.one22 (cal0 (φs:= [sl 1 strE m.actions]) (φ:=bl (actionsOK m.actions)) ⟨rfl,trivial⟩ (ref01.Is_ok _) T.ent72 (no rfl (mv ?_)))))))))))))
 apply gOr (t:=12) (pd:=17) rfl
 rotate_left
 ·intro hg0 fin
  have hg0':=hg0
  try simp at hg0'
  exact gy rfl rfl rfl hg0 (fP rfl T.fld38_1 (gy rfl rfl rfl hg0 (lP rfl rfl rfl T.one36 (gy rfl rfl rfl hg0 (fc (slenI 14 rfl) fun hm14=>(lnF rfl T.sl36 (gy rfl rfl rfl hg0 (bi rfl rfl b_lss (pkF rfl hg0 rfl (drp (X:= [(16,_),(15,_),(14,_),(13,_)]) ⟨rfl,rfl,rfl,rfl,trivial⟩ (fin)))))))))))
 ·intro hg0 fin
  exact gn rfl rfl rfl hg0 rfl rfl (gn rfl rfl rfl hg0 rfl rfl (gn rfl rfl rfl hg0 rfl rfl (gn rfl rfl rfl hg0 rfl rfl (pkT rfl hg0 rfl (drp (X:= [(16,_),(15,_),(14,_),(13,_)]) ⟨rfl,rfl,rfl,rfl,trivial⟩ (fin))))))
 refine mv ?_
 apply gOr (t:=18) (pd:=23) rfl
 rotate_left
 ·intro hg1 fin
  have hg1':=hg1
  try simp at hg1'
  exact gy rfl rfl rfl hg1 (fP rfl T.fld38_1 (gy rfl rfl rfl hg1 (lP rfl rfl rfl T.one36 (gy rfl rfl rfl hg1 (fc (slenI 20 rfl) fun hm20=>(lnF rfl T.sl36 (gy rfl rfl rfl hg1 (bi rfl rfl b_gtr (pkF rfl hg1 rfl (drp (X:= [(22,_),(21,_),(20,_),(19,_)]) ⟨rfl,rfl,rfl,rfl,trivial⟩ (fin)))))))))))
 ·intro hg1 fin
  exact gn rfl rfl rfl hg1 rfl rfl (gn rfl rfl rfl hg1 rfl rfl (gn rfl rfl rfl hg1 rfl rfl (gn rfl rfl rfl hg1 rfl rfl (pkT rfl hg1 rfl (drp (X:= [(22,_),(21,_),(20,_),(19,_)]) ⟨rfl,rfl,rfl,rfl,trivial⟩ (fin))))))
 refine nl (th ?_)
 refine cd rfl (fun hc0=> ?_) (fun hc0=> ?_)
 ·try simp at hc0
  refine sq (rg (ag (nl (th (rt (rt_ ?_))))))
  have hr0:false=(sysOK m):=by
   unfold sysOK
   by_cases h:actionsOK m.actions=true
   ·simp[h] at hc0 ⊢
    omega
   ·simp[h]
  have hall:∀x0,false=x0→resAV [bl false]=resAV [bl x0]:=by rintro _ rfl;rfl
  exact rE () [.tmp 2] rfl [bl false] ⟨.tmp rfl,trivial⟩ (hall _ hr0) trivial (by first|exact .inr rfl|exact .inl rfl)
 ·try simp at hc0
  have hact:=actionsOK_len (l:=m.actions) (by simp_all)
  refine sk (th (sq (rg (ag (nl (th (sq (sq (rg (fP rfl T.fld38_1 (lP rfl rfl rfl T.one36 (fc (slenI 25 rfl) fun hm25=>(lnF rfl T.sl36 (mv (nl (th (bk ?_)))))))))))))))))
  have hI0_0:0≤m.states.length:=by
   first|omega|simp
  have hI0_1:(0:Int)=(sumLen (m.states.take 0):Int)∧(m.states.take 0).all (edgesOK m.actions.length m.states.length)=true∧(0:Int)≤140737488355328*(0:Int):=by
   exact⟨rfl,by simp,by omega⟩
  refine lp (κ:=Nat × Int) (fun p=> [(1,ptr 1 b1 0),(3,int p.2),(25,sl 1 edgesE m.states),(26,int (m.states.length:Int)),(27,int (p.1:Int))]) (fun p=> [(1,cell b1 [sl 1 strE m.actions,sl 1 edgesE m.states])]) (fun p=>(p.1≤m.states.length)∧(p.2=(sumLen (m.states.take p.1):Int)∧(m.states.take p.1).all (edgesOK m.actions.length m.states.length)=true∧p.2≤140737488355328*(p.1:Int))) (fun p=>m.states.length- p.1) ⟨0,(0:Int)⟩ ⟨hI0_0,hI0_1⟩ ⟨id,id,id,id,id,trivial⟩ ⟨⟨rfl,id⟩,trivial⟩ ?_
  intro⟨k,n⟩ hG0
  obtain⟨hk0,⟨hn,hal,hn4⟩⟩:(k≤m.states.length)∧(n=(sumLen (m.states.take k):Int)∧(m.states.take k).all (edgesOK m.actions.length m.states.length)=true∧n≤140737488355328*(k:Int)):=hG0
  show Ct _ _ _ _ [(1,ptr 1 b1 0),(3,int n),(25,sl 1 edgesE m.states),(26,int (m.states.length:Int)),(27,int (k:Int))] [(1,cell b1 [sl 1 strE m.actions,sl 1 edgesE m.states])] _
  have hmk:=hme0 k
  refine sq (rg (bi rfl rfl b_lss (nl (th (sq ?_)))))
  refine cd rfl (fun hc1=> ?_) (fun hc1=> ?_)
  ·try simp at hc1
   refine sk (th (sq (bk (sq (rg (iF rfl rfl T.sl36 (by omega) (by first|exact gN (by omega)|exact gI (by omega) (by omega)) (lF rfl rfl T.one88 (ag (nl (th (sq (rg (mv (mv (fc (slenI 32 rfl) fun hm32=>(lnF rfl T.sl88 (bi rfl rfl (b_add (by unfold I64;omega)) (ag (nl (th (sq (rg (mv (lnF rfl T.sl88 (mv (nl (th (bk ?_))))))))))))))))))))))))))))
   have hI1_0:0≤(ix m.states k).length:=by
    first|omega|simp
   have hI1_1:(∀j,j<0→edgeOK m.actions.length m.states.length (ix (ix m.states k) j)=true)∧∀j,j+1<0→ltP (ix (ix m.states k) j) (ix (ix m.states k) (j+1))=true:=by
    exact⟨fun j hj=>by omega,fun j hj=>by omega⟩
   refine lp (κ:=Nat) (fun p=> [(1,ptr 1 b1 0),(3,int (n+((ix m.states k).length:Int))),(5,sl 2 pairE (ix m.states k)),(25,sl 1 edgesE m.states),(26,int (m.states.length:Int)),(27,int (k:Int)),(35,sl 2 pairE (ix m.states k)),(36,int ((ix m.states k).length:Int)),(37,int (p:Int))]) (fun p=> [(1,cell b1 [sl 1 strE m.actions,sl 1 edgesE m.states])]) (fun p=>(p≤(ix m.states k).length)∧((∀j,j<p→edgeOK m.actions.length m.states.length (ix (ix m.states k) j)=true)∧∀j,j+1<p→ltP (ix (ix m.states k) j) (ix (ix m.states k) (j+1))=true)) (fun p=>(ix m.states k).length- p) 0 ⟨hI1_0,hI1_1⟩ ⟨id,id,id,id,id,id,id,id,id,trivial⟩ ⟨⟨rfl,id⟩,trivial⟩ ?_
   intro k1 hG1
   obtain⟨hk1,hI1⟩:(k1≤(ix m.states k).length)∧((∀j,j<k1→edgeOK m.actions.length m.states.length (ix (ix m.states k) j)=true)∧∀j,j+1<k1→ltP (ix (ix m.states k) j) (ix (ix m.states k) (j+1))=true):=hG1
   refine sq (rg (bi rfl rfl b_lss (nl (th (sq ?_)))))
   refine cd rfl (fun hc2=> ?_) (fun hc2=> ?_)
   ·try simp at hc2
    refine sk (th (sq (bk (sq (rg (mv (iF rfl rfl T.sl88 (by omega) (by first|exact gN (by omega)|exact gI (by omega) (by omega)) (lFA rfl T.agg94 (Nat.le_of_ble_eq_true rfl) (al (key:=7) T.z94 (ex_cons (ex_cons (ex_nil))) fun b7=>(ag (sPA (cs':= [int ((ix (ix m.states k) k1).1),int ((ix (ix m.states k) k1).2)]) rfl rfl rfl T.agg94 rfl rfl (nl (th (sq (dr (nh:=38) [0,1,3,7,15,31,15,79,207,511,1023,2047,4095,8191,16383,32767,65535,131071,262143,131071,655359,1703935,4194303,8388607,16777215,33554431,67108863,134217727,268435455,268435455,805306367,2147483647,4294967295,268435455,17179869183,34359738367,68719476735,137438953471] T.mixed (by kernel_rfl) ?_)))))))))))))))
    refine st_ rfl (fun _ _ _ gq kq=>fP (gq.1.trans rfl) T.fld94_0 kq) ?_
    refine st_ rfl (fun _ _ _ gq kq=>lP (gq.1.trans rfl) rfl rfl T.one3 kq) ?_
    refine st_ rfl (fun _ _ _ gq kq=>bi (gq.1.trans rfl) rfl b_lss kq) ?_
    refine st_ rfl (fun _ _ _ gq kq=>mv' (gq.1.trans rfl) kq) ?_
    refine sg_ (φ:=ptr 7 b7 0) rfl rfl rfl rfl (List.mem_of_elem_eq_true rfl) (fun hgd=> ?_) ?_
    ·have hgd':=hgd
     try simp at hgd'
     exact fun _ _ _ gq kq=>fP (gq.1.trans rfl) T.fld94_0 kq
    refine sg_ (φ:=int ((ix (ix m.states k) k1).1)) rfl rfl rfl rfl (List.mem_of_elem_eq_true rfl) (fun hgd=> ?_) ?_
    ·have hgd':=hgd
     try simp at hgd'
     exact fun _ _ _ gq kq=>lP (gq.1.trans (gif_t hgd)) rfl rfl T.one3 kq
    refine sg_ (φ:=ptr 1 b1 0) rfl rfl rfl rfl (List.mem_of_elem_eq_true rfl) (fun hgd=> ?_) ?_
    ·have hgd':=hgd
     try simp at hgd'
     exact fun _ _ _ gq kq=>fP (gq.1.trans rfl) T.fld38_0 kq
    refine sg_ (φ:=sl 1 strE m.actions) rfl rfl rfl rfl (List.mem_of_elem_eq_true rfl) (fun hgd=> ?_) ?_
    ·have hgd':=hgd
     try simp at hgd'
     exact fun _ _ _ gq kq=>lP (gq.1.trans (gif_t hgd)) rfl rfl T.one22 kq
    refine sg_ (φ:=int (m.actions.length:Int)) rfl rfl rfl rfl (List.mem_of_elem_eq_true rfl) (fun hgd=> ?_) ?_
    ·have hgd':=hgd
     try simp at hgd'
     exact fun _ _ _ gq kq=>lnF (gq.1.trans (gif_t hgd)) T.sl22 kq
    refine sg_ (φ:=bl (decide ((m.actions.length:Int)≤((ix (ix m.states k) k1).1)))) rfl rfl rfl rfl (List.mem_of_elem_eq_true rfl) (fun hgd=> ?_) ?_
    ·have hgd':=hgd
     try simp at hgd'
     exact fun _ _ _ gq kq=>bi (gq.1.trans (gif_t hgd)) (gq.2.1.trans (gif_t hgd)) b_geq kq
    refine st_ rfl (fun _ _ _ gq kq=>pk (gq.1.trans rfl) (pk_or (x:= .tmp 45) (gq.1.trans rfl) (gq.2.1.trans rfl) rfl) kq) ?_
    refine st_ rfl (fun _ _ _ gq kq=>mv' (gq.1.trans rfl) kq) ?_
    refine sg_ (φ:=ptr 7 b7 1) rfl rfl rfl rfl (List.mem_of_elem_eq_true rfl) (fun hgd=> ?_) ?_
    ·have hgd':=hgd
     try simp at hgd'
     exact fun _ _ _ gq kq=>fP (gq.1.trans rfl) T.fld94_1 kq
    refine sg_ (φ:=int ((ix (ix m.states k) k1).2)) rfl rfl rfl rfl (List.mem_of_elem_eq_true rfl) (fun hgd=> ?_) ?_
    ·have hgd':=hgd
     try simp at hgd'
     exact fun _ _ _ gq kq=>lP (gq.1.trans (gif_t hgd)) rfl rfl T.one3 kq
    refine sg_ (φ:=bl (decide (((ix (ix m.states k) k1).2)<0))) rfl rfl rfl rfl (List.mem_of_elem_eq_true rfl) (fun hgd=> ?_) ?_
    ·have hgd':=hgd
     try simp at hgd'
     exact fun _ _ _ gq kq=>bi (gq.1.trans (gif_t hgd)) rfl b_lss kq
    refine st_ rfl (fun _ _ _ gq kq=>pk (gq.1.trans rfl) (pk_or (x:= .tmp 53) (gq.1.trans rfl) (gq.2.1.trans rfl) rfl) kq) ?_
    refine st_ rfl (fun _ _ _ gq kq=>mv' (gq.1.trans rfl) kq) ?_
    refine sg_ (φ:=ptr 7 b7 1) rfl rfl rfl rfl (List.mem_of_elem_eq_true rfl) (fun hgd=> ?_) ?_
    ·have hgd':=hgd
     try simp at hgd'
     exact fun _ _ _ gq kq=>fP (gq.1.trans rfl) T.fld94_1 kq
    refine sg_ (φ:=int ((ix (ix m.states k) k1).2)) rfl rfl rfl rfl (List.mem_of_elem_eq_true rfl) (fun hgd=> ?_) ?_
    ·have hgd':=hgd
     try simp at hgd'
     exact fun _ _ _ gq kq=>lP (gq.1.trans (gif_t hgd)) rfl rfl T.one3 kq
    refine sg_ (φ:=ptr 1 b1 1) rfl rfl rfl rfl (List.mem_of_elem_eq_true rfl) (fun hgd=> ?_) ?_
    ·have hgd':=hgd
     try simp at hgd'
     exact fun _ _ _ gq kq=>fP (gq.1.trans rfl) T.fld38_1 kq
    refine sg_ (φ:=sl 1 edgesE m.states) rfl rfl rfl rfl (List.mem_of_elem_eq_true rfl) (fun hgd=> ?_) ?_
    ·have hgd':=hgd
     try simp at hgd'
     exact fun _ _ _ gq kq=>lP (gq.1.trans (gif_t hgd)) rfl rfl T.one36 kq
    refine sg_ (φ:=int (m.states.length:Int)) rfl rfl rfl rfl (List.mem_of_elem_eq_true rfl) (fun hgd=> ?_) ?_
    ·have hgd':=hgd
     try simp at hgd'
     exact fun _ _ _ gq kq=>lnF (gq.1.trans (gif_t hgd)) T.sl36 kq
    refine sg_ (φ:=bl (decide ((m.states.length:Int)≤((ix (ix m.states k) k1).2)))) rfl rfl rfl rfl (List.mem_of_elem_eq_true rfl) (fun hgd=> ?_) ?_
    ·have hgd':=hgd
     try simp at hgd'
     exact fun _ _ _ gq kq=>bi (gq.1.trans (gif_t hgd)) (gq.2.1.trans (gif_t hgd)) b_geq kq
    refine st_ rfl (fun _ _ _ gq kq=>pk (gq.1.trans rfl) (pk_or (x:= .tmp 58) (gq.1.trans rfl) (gq.2.1.trans rfl) rfl) kq) ?_
    refine st_ rfl (fun _ _ _ gq kq=>mv' (gq.1.trans rfl) kq) ?_
    refine sg_ (φ:=int (k1:Int)) rfl rfl rfl rfl (List.mem_of_elem_eq_true rfl) (fun hgd=> ?_) ?_
    ·have hgd':=hgd
     try simp at hgd'
     exact fun _ _ _ gq kq=>mv' (gq.1.trans rfl) kq
    refine sg_ (φ:=bl (decide (0<(k1:Int)))) rfl rfl rfl rfl (List.mem_of_elem_eq_true rfl) (fun hgd=> ?_) ?_
    ·have hgd':=hgd
     try simp at hgd'
     exact fun _ _ _ gq kq=>bi (gq.1.trans (gif_t hgd)) rfl b_gtr kq
    refine sg_ (φ:=bl (decide (0<(k1:Int)))) rfl rfl rfl rfl (List.mem_of_elem_eq_true rfl) (fun hgd=> ?_) ?_
    ·have hgd':=hgd
     try simp at hgd'
     exact fun _ _ _ gq kq=>mv' (gq.1.trans (gif_t hgd)) kq
    refine sg2_ (φ:=sl 2 pairE (ix m.states k)) rfl rfl rfl rfl (List.mem_of_elem_eq_true rfl) (fun hgd hgd2=> ?_) ?_
    ·have hgd':=hgd
     try simp at hgd'
     have hgd2':=hgd2
     try simp at hgd2'
     exact fun _ _ _ gq kq=>mv' (gq.1.trans rfl) kq
    refine sg2_ (φ:=int (k1:Int)) rfl rfl rfl rfl (List.mem_of_elem_eq_true rfl) (fun hgd hgd2=> ?_) ?_
    ·have hgd':=hgd
     try simp at hgd'
     have hgd2':=hgd2
     try simp at hgd2'
     exact fun _ _ _ gq kq=>mv' (gq.1.trans rfl) kq
    refine sg2_ (φ:=int ((k1:Int)- 1)) rfl rfl rfl rfl (List.mem_of_elem_eq_true rfl) (fun hgd hgd2=> ?_) ?_
    ·have hgd':=hgd
     try simp at hgd'
     have hgd2':=hgd2
     try simp at hgd2'
     exact fun _ _ _ gq kq=>bi (gq.1.trans (gif_t2 hgd hgd2)) rfl (b_sub (by unfold I64;omega)) kq
    refine sg2_ (φ:=fp [int ((ix (ix m.states k) (((k1:Int)- 1).toNat)).1),int ((ix (ix m.states k) (((k1:Int)- 1).toNat)).2)]) rfl rfl rfl rfl (List.mem_of_elem_eq_true rfl) (fun hgd hgd2=> ?_) ?_
    ·have hgd':=hgd
     try simp at hgd'
     have hgd2':=hgd2
     try simp at hgd2'
     exact fun _ _ _ gq kq=>iF (gq.1.trans (gif_t2 hgd hgd2)) (gq.2.1.trans (gif_t2 hgd hgd2)) T.sl88 (by omega) (by first|exact gN (by omega)|exact gI (by omega) (by omega)) kq
    refine sg2_ (φ:=agg [int ((ix (ix m.states k) (((k1:Int)- 1).toNat)).1),int ((ix (ix m.states k) (((k1:Int)- 1).toNat)).2)]) rfl rfl rfl rfl (List.mem_of_elem_eq_true rfl) (fun hgd hgd2=> ?_) ?_
    ·have hgd':=hgd
     try simp at hgd'
     have hgd2':=hgd2
     try simp at hgd2'
     exact fun _ _ _ gq kq=>lFA (gq.1.trans (gif_t2 hgd hgd2)) T.agg94 (Nat.le_of_ble_eq_true rfl) kq
    refine sg2_ (φ:=agg [int ((ix (ix m.states k) k1).1),int ((ix (ix m.states k) k1).2)]) rfl rfl rfl rfl (List.mem_of_elem_eq_true rfl) (fun hgd hgd2=> ?_) ?_
    ·have hgd':=hgd
     try simp at hgd'
     have hgd2':=hgd2
     try simp at hgd2'
     exact fun _ _ _ gq kq=>lPA (gq.1.trans rfl) rfl T.agg94 rfl kq
    refine sg2_ (φ:=bl (ltP ((ix (ix m.states k) (((k1:Int)- 1).toNat)).1,(ix (ix m.states k) (((k1:Int)- 1).toNat)).2) ((ix (ix m.states k) k1).1,(ix (ix m.states k) k1).2))) rfl rfl rfl rfl (List.mem_of_elem_eq_true rfl) (fun hgd hgd2=> ?_) ?_
    ·have hgd':=hgd
     try simp at hgd'
     have hgd2':=hgd2
     try simp at hgd2'
     exact fun _ _ _ gq kq=>cal0 (φs:= [agg [int ((ix (ix m.states k) (((k1:Int)- 1).toNat)).1),int ((ix (ix m.states k) (((k1:Int)- 1).toNat)).2)],agg [int ((ix (ix m.states k) k1).1),int ((ix (ix m.states k) k1).2)]]) (φ:=bl (ltP ((ix (ix m.states k) (((k1:Int)- 1).toNat)).1,(ix (ix m.states k) (((k1:Int)- 1).toNat)).2) ((ix (ix m.states k) k1).1,(ix (ix m.states k) k1).2))) ⟨(gq.1.trans (gif_t2 hgd hgd2)),(gq.2.1.trans (gif_t2 hgd hgd2)),trivial⟩ (divs.before_ok ((ix (ix m.states k) (((k1:Int)- 1).toNat)).1,(ix (ix m.states k) (((k1:Int)- 1).toNat)).2) ((ix (ix m.states k) k1).1,(ix (ix m.states k) k1).2)) T.ent86 kq
    refine sg2_ (φ:=bl (!(ltP ((ix (ix m.states k) (((k1:Int)- 1).toNat)).1,(ix (ix m.states k) (((k1:Int)- 1).toNat)).2) ((ix (ix m.states k) k1).1,(ix (ix m.states k) k1).2)))) rfl rfl rfl rfl (List.mem_of_elem_eq_true rfl) (fun hgd hgd2=> ?_) ?_
    ·have hgd':=hgd
     try simp at hgd'
     have hgd2':=hgd2
     try simp at hgd2'
     exact fun _ _ _ gq kq=>no (gq.1.trans (gif_t2 hgd hgd2)) kq
    refine sg_ (φ:=bl ((decide (0<(k1:Int)))&&(!(ltP ((ix (ix m.states k) (((k1:Int)- 1).toNat)).1,(ix (ix m.states k) (((k1:Int)- 1).toNat)).2) ((ix (ix m.states k) k1).1,(ix (ix m.states k) k1).2))))) rfl rfl rfl rfl (List.mem_of_elem_eq_true rfl) (fun hgd=> ?_) ?_
    ·have hgd':=hgd
     try simp at hgd'
     exact fun _ _ _ gq kq=>pk (gq.1.trans (gif_t hgd)) (pk_and (x:= .tmp 69) (gq.1.trans (gif_t hgd)) (gq.2.1.trans (gif_and hgd)) rfl) kq
    refine st_ rfl (fun _ _ _ gq kq=>pk (gq.1.trans rfl) (pk_or (x:= .tmp 66) (gq.1.trans rfl) (gq.2.1.trans rfl) rfl) kq) ?_
    refine pn (nl (th ?_))
    refine cd rfl (fun hc3=> ?_) (fun hc3=> ?_)
    ·skip
     simp only [Bool.or_eq_true,Bool.and_eq_true,decide_eq_true_eq] at hc3
     refine sq (rg (ag (nl (th (rt (rb (rt_ (rt_ (rb (rb (rt_ (rt_ (rb (rt_ ?_))))))))))))))
     have hr0:false=(sysOK m):=by
      unfold sysOK
      rw[all_fail (xs:=m.states) (k:=k) (by omega) ?_];simp
      have hno:∀{p:Prop},(edgeOK m.actions.length m.states.length (ix (ix m.states k) k1)=true→¬p)→p→edgesOK m.actions.length m.states.length (ix m.states k)=false:=fun hh hp=>edges_no1 hc2 (by cases g:edgeOK m.actions.length m.states.length (ix (ix m.states k) k1) with|false=>rfl|true=>exact absurd hp (hh g))
      rcases hc3 with(((h|h)|h)|h)|h
      ·exact hno (fun g=>by have:=edgeOK_iff.1 g;omega) h
      ·exact hno (fun g=>by have:=edgeOK_iff.1 g;omega) h
      ·exact hno (fun g=>by have:=edgeOK_iff.1 g;omega) h
      ·exact hno (fun g=>by have:=edgeOK_iff.1 g;omega) h
      ·have h5:=h.2
       rw[show((k1:Int)- 1).toNat=k1- 1 by omega] at h5
       refine edges_no2 hc2 (by omega) ?_
       simpa using h5
     have hall:∀x0,false=x0→resAV [bl false]=resAV [bl x0]:=by rintro _ rfl;rfl
     exact rE () [.tmp 2] rfl [bl false] ⟨.tmp rfl,trivial⟩ (hall _ hr0) trivial (by first|exact .inr rfl|exact .inl rfl)
    ·skip
     simp only [Bool.or_eq_false_iff,Bool.and_eq_false_iff,decide_eq_false_iff_not] at hc3
     obtain⟨⟨⟨⟨h41,h42⟩,h43⟩,h44⟩,h45⟩:=hc3
     refine sk (eb (th (rg (bi rfl rfl (b_add (by unfold I64;omega)) (mv (nl ?_))))))
     have hN0:(k1+1)≤(ix m.states k).length:=by
      first|omega|simp_all
     have hN1:(∀j,j<(k1+1)→edgeOK m.actions.length m.states.length (ix (ix m.states k) j)=true)∧∀j,j+1<(k1+1)→ltP (ix (ix m.states k) j) (ix (ix m.states k) (j+1))=true:=by
      refine⟨fun j hj=> ?_,fun j hj=> ?_⟩
      ·by_cases e:j=k1
       ·subst e;exact edgeOK_iff.2 ⟨by omega,by omega,by omega,by omega⟩
       ·exact hI1.1 j (by omega)
      ·by_cases e:j+1=k1
       ·subst e
        rcases h45 with h|h
        ·exact absurd (by omega) h
        ·rw[show(((j+1:Nat):Int)- 1).toNat=j by omega] at h
         simpa using h
       ·exact hI1.2 j (by omega)
     exact ln (k1+1) ⟨hN0,hN1⟩ (by first|omega|(dsimp only;omega)) ⟨id,id,id,id,id,id,id,id,id,trivial⟩ ⟨⟨rfl,id⟩,trivial⟩
   ·try simp at hc2
    refine ex (xt_ (xt_ (xb (eb (th (rg (bi rfl rfl (b_add (by unfold I64;omega)) (mv (nl ?_)))))))))
    have hN0:(k+1)≤m.states.length:=by
     first|omega|simp_all
    have hN1:(n+((ix m.states k).length:Int))=(sumLen (m.states.take (k+1)):Int)∧(m.states.take (k+1)).all (edgesOK m.actions.length m.states.length)=true∧(n+((ix m.states k).length:Int))≤140737488355328*((k+1):Int):=by
     refine⟨?_,?_,by omega⟩
     ·rw[take_s (by omega),sumLen_snoc];omega
     ·rw[all_take_succ (by omega),hal,edges_of (fun j hj=>hI1.1 j (by omega)) (fun j hj=>hI1.2 j (by omega))];rfl
    exact ln (⟨k+1,n+((ix m.states k).length:Int)⟩:Nat × Int) ⟨hN0,hN1⟩ (by first|omega|(dsimp only;omega)) ⟨id,id,id,id,id,trivial⟩ ⟨⟨rfl,id⟩,trivial⟩
  ·try simp at hc1
   refine ex (xt_ (xt_ (xb (th (sq (rg (mv (bi rfl rfl b_leq (ag (nl (th (rt ?_))))))))))))
   have hr0:(decide (n≤400000))=(sysOK m):=by
    have hkk:k=m.states.length:=by omega
    rw[hkk,List.take_length] at hal hn
    unfold sysOK
    rw[hal,hc0.1.1,hn,decide_eq_true (p:=1≤m.states.length) (by omega),decide_eq_true (p:=m.states.length≤5000) (by omega)]
    simp only [Bool.true_and,Bool.and_true]
    exact decide_eq_decide.2 (by omega)
   have hall:∀x0,(decide (n≤400000))=x0→resAV [bl (decide (n≤400000))]=resAV [bl x0]:=by rintro _ rfl;rfl
   exact rE () [.tmp 2] rfl [bl (decide (n≤400000))] ⟨.tmp rfl,trivial⟩ (hall _ hr0) trivial (by first|exact .inr rfl|exact .inl rfl)
end divs
end Go.Proofs.YtcjemmihcplgdaaGreat
namespace Go.Proofs.YtcjemmihcplgdaaGreat
open AL Go
set_option maxRecDepth 100000
set_option linter.all false
namespace LevM
open ref01 ref03 ref04 ref06 Part Rungs LeftM TrimM BisM BisM5 WitM
inductive Rch (B:PP→Prop) (S:PP→PP→Prop):PP→Prop
 |zero:Rch B S (0,0)
 |step {p q:PP}:Rch B S p→¬B p→S p q→Rch B S q
def Well (B:PP→Prop) (S:PP→PP→Prop):Prop:=∀p,Rch B S p→¬B p
def Fin (B:PP→Prop) (S:PP→PP→Prop) (vis:List PP) (p:PP):Prop:=¬B p∧∀q,S p q→q∈vis
structure LI (B:PP→Prop) (S:PP→PP→Prop) (vis op:List PP):Prop where
 nd:vis.Nodup
 z:((0,0):PP)∈vis
 rch:∀p∈vis,Rch B S p
 opn:∀p∈op,p∈vis
 dn:∀p∈vis,p∈op∨Fin B S vis p
variable {B:PP→Prop} {S:PP→PP→Prop} {vis op:List PP}
theorem li_zero:LI B S [(0,0)] [(0,0)]:=
 ⟨by simp,by simp,fun p hp=>by rw[List.mem_singleton.1 hp];exact .zero,fun p hp=>hp,fun p hp=> .inl hp⟩
theorem fin_mono {v:List PP} {p:PP} (h:Fin B S vis p):Fin B S (vis++v) p:=⟨h.1,fun q hq=>List.mem_append.2 (.inl (h.2 q hq))⟩
theorem li_push (h:LI B S vis op) {q:PP} (hq:q∉vis) (hr:Rch B S q):LI B S (vis++ [q]) (op++ [q]):=by
 refine⟨?_,List.mem_append.2 (.inl h.z),fun p hp=> ?_,fun p hp=> ?_,fun p hp=> ?_⟩
 ·rw[List.nodup_append]
  refine⟨h.nd,by simp,fun a ha b hb e=> ?_⟩
  rw[List.mem_singleton.1 hb] at e
  subst e;exact hq ha
 ·rcases List.mem_append.1 hp with g|g
  ·exact h.rch p g
  ·rw[List.mem_singleton.1 g];exact hr
 ·rcases List.mem_append.1 hp with g|g
  ·exact List.mem_append.2 (.inl (h.opn p g))
  ·exact List.mem_append.2 (.inr g)
 ·rcases List.mem_append.1 hp with g|g
  ·rcases h.dn p g with g|g
   ·exact .inl (List.mem_append.2 (.inl g))
   ·exact .inr (fin_mono g)
  ·exact .inl (List.mem_append.2 (.inr g))
theorem li_pop {p:PP} (h:LI B S vis (p::op)) (hf:Fin B S vis p):LI B S vis op:=
 ⟨h.nd,h.z,h.rch,fun q hq=>h.opn q (List.mem_cons_of_mem _ hq),fun q hq=>by
   rcases h.dn q hq with g|g
   ·rcases List.mem_cons.1 g with g|g
    ·subst g;exact .inr hf
    ·exact .inl g
   ·exact .inr g⟩
theorem li_yes (h:LI B S vis []):Well B S:=fun p hp=>by
 have:p∈vis∧Fin B S vis p:=by
  induction hp with
  |zero=>exact⟨h.z,by rcases h.dn _ h.z with g|g;cases g;exact g⟩
  |step h1 h2 h3 ih=>
   have hq:=ih.2.2 _ h3
   exact⟨hq,by rcases h.dn _ hq with g|g;cases g;exact g⟩
 exact this.2.1
theorem li_no (h:LI B S vis op) {p:PP} (hp:p∈vis) (hb:B p):¬Well B S:=fun hw=>hw p (h.rch p hp) hb
theorem drop_ix {l:List PP} {k:Nat} (h:k<l.length):l.drop k=ix l k::l.drop (k+1):=by
 rw[ix_get h];exact List.drop_eq_getElem_cons h
def mat (n m:Nat) (vis:List PP):List (List Bool):=(List.range n).map fun(x:Nat)=>(List.range m).map fun(y:Nat)=>decide (((x:Int),(y:Int))∈vis)
theorem mat_zero (n m:Nat):mat n m []=List.replicate n (List.replicate m false):=by
 unfold mat
 rw[show(fun(x:Nat)=>(List.range m).map fun(y:Nat)=>decide (((x:Int),(y:Int))∈([]:List PP)))=fun _=>List.replicate m false from funext fun x=>by
  rw[show(fun(y:Nat)=>decide (((x:Int),(y:Int))∈([]:List PP)))=fun _=>false from funext fun y=>by simp]
  rw[List.map_const'];simp]
 rw[List.map_const'];simp
theorem mat_len (n m:Nat) (vis:List PP):(mat n m vis).length=n:=by simp[mat]
theorem mat_row {n m:Nat} {vis:List PP} {x:Nat} (hx:x<n):ix (mat n m vis) x=(List.range m).map fun(y:Nat)=>decide (((x:Int),(y:Int))∈vis):=ix_map_range hx
theorem mat_rowlen {n m:Nat} {vis:List PP} {x:Nat} (hx:x<n):(ix (mat n m vis) x).length=m:=by rw[mat_row hx];simp
theorem mat_ix {n m:Nat} {vis:List PP} {x y:Nat} (hx:x<n) (hy:y<m):ix (ix (mat n m vis) x) y=decide (((x:Int),(y:Int))∈vis):=by
 rw[mat_row hx];exact ix_map_range hy
theorem mat_set {n m:Nat} {vis:List PP} {x y:Nat} (hx:x<n) (hy:y<m):(mat n m vis).set x ((ix (mat n m vis) x).set y true)=mat n m (vis++ [((x:Int),(y:Int))]):=by
 rw[mat_row hx]
 refine map_upd hx ?_ (fun z _ hne=> ?_)
 ·refine(map_upd hy ?_ (fun z _ hne=> ?_)).symm
  ·simp
  ·rw[decide_eq_decide]
   constructor
   ·intro h
    rcases List.mem_append.1 h with h|h
    ·exact h
    ·have h:=List.mem_singleton.1 h
     simp only [Prod.mk.injEq] at h
     omega
   ·exact fun h=>List.mem_append.2 (.inl h)
 ·refine List.map_congr_left fun w _=> ?_
  rw[decide_eq_decide]
  constructor
  ·intro h
   rcases List.mem_append.1 h with h|h
   ·exact h
   ·have h:=List.mem_singleton.1 h
    simp only [Prod.mk.injEq] at h
    omega
  ·exact fun h=>List.mem_append.2 (.inl h)
def BadD (T t:SSpec) (p:PP):Prop:=∃u∈acc T p.1.toNat,u∉acc t p.2.toNat
def SucD (T t:SSpec) (p q:PP):Prop:=∃a:Nat,a<(nxt T p.1.toNat).length∧0≤ix (nxt T p.1.toNat) a∧q=(ix (nxt T p.1.toNat) a,ix (nxt t p.2.toNat) a)
def Used (T:SSpec):Prop:=∀x,x<T.states.length→∀a,a<T.actions.length→(0≤ix (nxt T x) a↔has (orAll (acc T x)) (a:Int)=true)
def boxD (T t:SSpec) (p:PP):Prop:=0≤p.1∧p.1<(T.states.length:Int)∧0≤p.2∧p.2<(t.states.length:Int)
theorem suc_box {T t:SSpec} (hT:okSpec T) (ht:okSpec t) (hu:Used T) {p q:PP} (hp:boxD T t p) (hb:¬BadD T t p) (hs:SucD T t p q):boxD T t q:=by
 obtain⟨a,ha,h0,rfl⟩:=hs
 obtain⟨p0,p1,p2,p3⟩:=hp
 have hx:p.1.toNat<T.states.length:=by omega
 have hy:p.2.toNat<t.states.length:=by omega
 have hl:=(hT.st _ hx).len
 have ha':a<T.actions.length:=by have:(nxt T p.1.toNat).length=T.actions.length:=hl;omega
 have hg:=WalkM.acc_go hT ht hx hy (fun u hu=>Classical.byContradiction fun hn=>hb ⟨u,hu,hn⟩) ((hu _ hx a ha').1 h0)
 have hn:=((hT.st _ hx).nx a ha').2
 exact⟨h0,hn,hg.2.1,hg.2.2⟩
theorem rch_box {T t:SSpec} (hT:okSpec T) (ht:okSpec t) (hu:Used T) {p:PP} (h:Rch (BadD T t) (SucD T t) p):boxD T t p:=by
 induction h with
 |zero=>exact⟨by simp,by have:=hT.few0;show(0:Int)<_;omega,by simp,by have:=ht.few0;show(0:Int)<_;omega⟩
 |step h1 h2 h3 ih=>exact suc_box hT ht hu ih h2 h3
theorem well_ref {T t:SSpec} (hT:okSpec T) (ht:okSpec t) (hu:Used T):Well (BadD T t) (SucD T t)↔∃R,Ref T t R∧R 0 0:=by
 constructor
 ·intro hw
  refine⟨fun x y=>Rch (BadD T t) (SucD T t) ((x:Int),(y:Int)),⟨fun {x y} h=> ?_,fun {x y} h u hu'=> ?_,fun {x y} h a ha=> ?_⟩,.zero⟩
  ·obtain⟨_,h1,_,h2⟩:=rch_box hT ht hu h
   dsimp only at h1 h2
   omega
  ·refine Classical.byContradiction fun hn=>hw _ h ⟨u,hu',hn⟩
  ·have hb:=rch_box hT ht hu h
   have hx:x<T.states.length:=by have:=hb.2.1;dsimp only at this;omega
   have hg:=WalkM.or_go hT hx ha
   have hs:SucD T t ((x:Int),(y:Int)) (ix (nxt T x) a,ix (nxt t y) a):=⟨a,by have:(nxt T x).length=T.actions.length:=(hT.st _ hx).len;show a<(nxt T x).length;omega,hg.2.1,rfl⟩
   have hr:=Rch.step h (hw _ h) hs
   have hq:=rch_box hT ht hu hr
   rw[Int.toNat_of_nonneg hg.2.1,Int.toNat_of_nonneg hq.2.2.1]
   exact hr
 ·rintro⟨R,hR,h0⟩ p hp
  have:boxD T t p∧R p.1.toNat p.2.toNat:=by
   induction hp with
   |zero=>exact⟨rch_box hT ht hu .zero,h0⟩
   |step h1 h2 h3 ih=>
    refine⟨suc_box hT ht hu ih.1 h2 h3,?_⟩
    obtain⟨a,ha,g0,rfl⟩:=h3
    have hx:_<T.states.length:=(hR.bd ih.2).1
    have hl:(nxt T _).length=T.actions.length:=(hT.st _ hx).len
    have ha':a<T.actions.length:=by rw[←hl];exact ha
    exact hR.nxt ih.2 a ((hu _ hx a ha').1 g0)
  rintro⟨u,hu',hn⟩
  exact hn (hR.acc this.2 u hu')
end LevM
end Go.Proofs.YtcjemmihcplgdaaGreat
namespace Go.Proofs.YtcjemmihcplgdaaGreat
open AL Go
set_option maxRecDepth 100000
set_option linter.all false
open ref01 ref03 ref04 ref06 prog prog2 prog3 prog6 prog13 Part Rungs LeftM TrimM RoundM MergeM BisM BisM4 BisM5 WalkM StepM WitM JudgM refw judg wit sysw divr divs LevM
theorem trim_ok {s:SSpec} (hs:okSpec s):okSpec (trimS s).1:=by
 cases h:ix (hollow s) 0 with
 |true=>rw[trimmed_hol h];exact nothing_ok hs.acts
 |false=>rw[trimmed_not h];exact tS_ok hs
theorem trim_acts (s:SSpec):(trimS s).1.actions=s.actions:=by
 cases h:ix (hollow s) 0 with
 |true=>rw[trimmed_hol h];rfl
 |false=>rw[trimmed_not h]
theorem trim_used {s:SSpec} (hs:okSpec s):Used (trimS s).1:=by
 cases h:ix (hollow s) 0 with
 |true=>
  rw[trimmed_hol h]
  intro x hx a ha
  have hx:x=0:=by have hx:x<1:=hx;omega
  subst hx
  have ha:a<s.actions.length:=ha
  have e:ix (nxt (nothing s.actions) 0) a= -1:=by
   show ix (List.replicate s.actions.length (-1)) a= -1
   rw[ix_get (by simpa using ha)];simp
  rw[e]
  constructor
  ·intro h;omega
  ·intro h
   have h:has (orAll []) (a:Int)=true:=h
   rw[has_zero] at h;cases h
 |false=>
  rw[trimmed_not h]
  intro x hx a ha
  have hx:x<(ordS s).length:=by simpa using hx
  have ha:a<s.actions.length:=ha
  have e1:ix (nxt (tS s) x) a=_:=tS_nx hx ha
  have e2:acc (tS s) x=_:=tS_acc hx
  show 0≤ix (nxt (tS s) x) a↔has (orAll (acc (tS s) x)) (a:Int)=true
  rw[e1,e2]
  by_cases g:has (orAll (keep s (ix (ordS s) x).toNat)) (a:Int)=true
  ·rw[if_pos g];exact⟨fun _=>g,fun _=>(posN_bd _ _).1⟩
  ·rw[if_neg g];exact⟨fun h=>absurd h (by decide),fun h=>absurd h g⟩
theorem trim_refp {s t:SSpec} (hs:okSpec s) (ht:okSpec t):Well (BadD (trimS s).1 t) (SucD (trimS s).1 t)↔RefP s t:=by
 unfold RefP
 cases h:ix (hollow s) 0 with
 |true=>
  refine⟨fun _=> .inl rfl,fun _=> ?_⟩
  have hx:∀p,¬BadD (trimS s).1 t p:=by
   rintro p ⟨u,hu,_⟩
   rw[trimmed_hol h] at hu
   have:p.1.toNat<1:=BisM6.acc_in hu
   have e:p.1.toNat=0:=by omega
   rw[e] at hu;cases hu
  exact fun p _=>hx p
 |false=>
  rw[well_ref (trim_ok hs) ht (trim_used hs),trimmed_not h]
  simp
theorem set_rep {α:Type} (a b:α) {n k:Nat} (h:k<n):(List.replicate k a++List.replicate (n- k) b).set k a=List.replicate (k+1) a++List.replicate (n- (k+1)) b:=by
 rw[List.set_append_right _ _ (by simp),List.length_replicate,Nat.sub_self,show n- k=(n- (k+1))+1 by omega,List.replicate_succ,List.set_cons_zero,List.replicate_succ',List.append_assoc]
 rfl
theorem parts_bad {T t:SSpec} {p:Int × Int}:partsB (ix T.states p.1.toNat) (ix t.states p.2.toNat)=true↔BadD T t p:=by
 unfold partsB BadD
 rw[List.any_eq_true]
 simp
namespace T
theorem ent162:Ent Tryz.prog 162:=ent_of (by kernel_rfl)
end T
namespace divd
theorem Depth_ok (s t:SSpec) (hs:okSpec s) (ht:okSpec t):
 AL.Fn Tryz.prog 135 [spec s,spec t] [] (ι:= { d:Int//d<0↔RefP s t }) (fun _ i=>int i.1) (fun _=> []):=by
 refine fnI Tryz.func135 rfl rfl (fun w0 F0=> ?_)
 have hT:=trim_ok hs;have hU:=trim_used hs;have hT0:=hT.few0;have hT1:=hT.few1;have ht0:=ht.few0;have ht1:=ht.few1;have hn8:=hT.n8;have hm8:=ht.n8
 have hmm:(trimS s).1.states.length*t.states.length≤10000*10000:=Nat.mul_le_mul hT1 ht1
 refine fcC (inhS 0 rfl) (fun hS0=> ?_)
 obtain⟨hsa0,hss0,hse0⟩:=spec_lens hS0
 refine fcC (inhS 1 rfl) (fun hS1=> ?_)
 obtain⟨hsa1,hss1,hse1⟩:=spec_lens hS1
 refine sq (rg (bx (key:=2) (cs:= [sl 1 strE s.actions,sl 2 stateE s.states]) rfl fun b2=>(bx (key:=3) (cs:= [sl 1 strE t.actions,sl 2 stateE t.states]) rfl fun b3=>(ag (nl (th (sq (rg (lPA rfl rfl T.agg25 rfl (cal0 (φs:= [agg [sl 1 strE s.actions,sl 2 stateE s.states]]) (φ:=tup [agg [sl 1 strE (((trimS s).1).actions),sl 2 stateE (((trimS s).1).states)],sl 1 intE ((trimS s).2)]) ⟨rfl,trivial⟩ (divr.Trim_ok s (by assumption)) T.ent43 (mv (xt rfl rfl (xt rfl rfl (sPA (cs':= [sl 1 strE (((trimS s).1).actions),sl 2 stateE (((trimS s).1).states)]) rfl rfl rfl T.agg25 rfl rfl (nl (th (sq (rg (fP rfl T.fld25_1 (lP rfl rfl rfl T.one23 (fc (slenI 21 rfl) fun hm21=>(lnF rfl T.sl23 (mk (key:=23) (m:=(((trimS s).1).states).length) (enc:=eqvE) (y:=(.slice none 0 0:Value)) rfl rfl T.mk161 (ex_cons ex_nil) (by unfold maxL;omega) (by unfold maxL;omega) fun v23=>(ag (nl (th (sq (sq (rg (nbB 231 ((trimS s).1.states.length) 4 1 blE (mv (lnO rfl rfl T.sl161 (mv (nl (th (bk ?_))))))))))))))))))))))))))))))))))))
 have hI0_0:0≤(List.replicate ((((trimS s).1).states).length) (.slice none 0 0:Value)).length:=by
  first|omega|simp
 have hI0_1:(List.replicate ((((trimS s).1).states).length) (.slice none 0 0:Value)).length=(trimS s).1.states.length∧(List.replicate ((trimS s).1.states.length) [])=List.replicate 0 (List.replicate t.states.length false)++List.replicate ((trimS s).1.states.length- 0) []:=by
  exact⟨by simp,by simp⟩
 refine lp (κ:=Nat × (List Value) × (List (List Bool))) (fun p=> [(2,ptr 2 b2 0),(3,ptr 3 b3 0),(4,int 0),(5,osl 23 v23),(25,int ((List.replicate ((((trimS s).1).states).length) (.slice none 0 0:Value)).length:Int)),(26,int (p.1:Int))]) (fun p=> [(2,cell b2 [sl 1 strE (((trimS s).1).actions),sl 2 stateE (((trimS s).1).states)]),(3,cell b3 [sl 1 strE t.actions,sl 2 stateE t.states]),(23,own v23 31 1 eqvE p.2.1),(231,bigown p.2.1 4 1 blE p.2.2 none)]) (fun p=>(p.1≤(List.replicate ((((trimS s).1).states).length) (.slice none 0 0:Value)).length)∧(p.2.1.length=(trimS s).1.states.length∧p.2.2=List.replicate p.1 (List.replicate t.states.length false)++List.replicate ((trimS s).1.states.length- p.1) [])) (fun p=>(List.replicate ((((trimS s).1).states).length) (.slice none 0 0:Value)).length- p.1) ⟨0,List.replicate ((((trimS s).1).states).length) (.slice none 0 0:Value),List.replicate ((trimS s).1.states.length) []⟩ ⟨hI0_0,hI0_1⟩ ⟨id,id,id,id,id,id,trivial⟩ ⟨⟨rfl,id⟩,⟨rfl,id⟩,⟨rfl,id⟩,⟨rfl,id⟩,trivial⟩ ?_
 intro⟨k,us,mt⟩ hG0
 obtain⟨hk0,⟨hul,hmt⟩⟩:(k≤(List.replicate ((((trimS s).1).states).length) (.slice none 0 0:Value)).length)∧(us.length=(trimS s).1.states.length∧mt=List.replicate k (List.replicate t.states.length false)++List.replicate ((trimS s).1.states.length- k) []):=hG0
 show Ct _ _ _ _ [(2,ptr 2 b2 0),(3,ptr 3 b3 0),(4,int 0),(5,osl 23 v23),(25,int ((List.replicate ((((trimS s).1).states).length) (.slice none 0 0:Value)).length:Int)),(26,int (k:Int))] [(2,cell b2 [sl 1 strE (((trimS s).1).actions),sl 2 stateE (((trimS s).1).states)]),(3,cell b3 [sl 1 strE t.actions,sl 2 stateE t.states]),(23,own v23 31 1 eqvE us),(231,bigown us 4 1 blE mt none)] _
 have hml:mt.length=(trimS s).1.states.length:=by rw[hmt];simp;omega
 refine sq (rg (bi rfl rfl b_lss (nl (th (sq ?_)))))
 refine cd rfl (fun hc0=> ?_) (fun hc0=> ?_)
 ·try simp at hc0
  refine sk (th (sq (bk (sq (rg (mv (ag (nl (th (tkBC 231 2399 k rfl rfl (by decide) (gK (by omega)) (gK (by omega)) (rg (mv (mv (fP rfl T.fld25_1 (lP rfl rfl rfl T.one23 (fc (slenI 32 rfl) fun hm32=>(lnF rfl T.sl23 (mk (key:=34) (m:=t.states.length) (enc:=blE) (y:=false) rfl rfl T.mk31 (ex_cons ex_nil) (by unfold maxL;omega) (by unfold maxL;omega) fun v34=>(iO rfl rfl rfl T.sl161 (by omega) (by omega) (sOO (k2:=34) rfl rfl osl_is rfl T.one31 (by first|exact gN (by omega)|exact gI (by omega) (by omega)) rfl (y':=v34) rfl (nl (eb (th (rg (gvB (us:=us) 231 34 k rfl rfl (by decide) (by omega) (bi rfl rfl (b_add (by unfold I64;omega)) (mv (nl ?_))))))))))))))))))))))))))))
  have hN0:(k+1)≤(List.replicate ((((trimS s).1).states).length) (.slice none 0 0:Value)).length:=by
   first|omega|simp_all
  have hN1:(us.set k v34).length=(trimS s).1.states.length∧(mt.set k (List.replicate t.states.length false))=List.replicate (k+1) (List.replicate t.states.length false)++List.replicate ((trimS s).1.states.length- (k+1)) []:=by
   refine⟨by simpa using hul,?_⟩
   rw[hmt];exact set_rep _ _ hc0
  exact ln (⟨k+1,us.set k v34,mt.set k (List.replicate t.states.length false)⟩:Nat × (List Value) × (List (List Bool))) ⟨hN0,hN1⟩ (by first|omega|(dsimp only;omega)) ⟨id,id,id,id,id,id,trivial⟩ ⟨⟨rfl,id⟩,⟨rfl,id⟩,⟨rfl,id⟩,⟨rfl,id⟩,trivial⟩
 ·try simp at hc0
  have hmz:mt=mat (trimS s).1.states.length t.states.length []:=by rw[hmt,show k=(trimS s).1.states.length by omega,Nat.sub_self,mat_zero];simp
  have hr0:(ix mt 0).length=t.states.length:=by rw[hmz];exact mat_rowlen (by omega)
  refine ex (xt_ (xt_ (xb (th (sq (rg (mv (iO rfl rfl rfl T.sl161 (by omega) (by omega) (lO rfl rfl (by first|exact gN (by omega)|exact gI (by omega) (by omega)) rfl T.one31 (tkB 231 2310 0 rfl rfl (by decide) (gK (k:=0) (by omega)) (gK (k:=0) (by omega)) (kn 39 (osl 2310 (ix us 0)) rfl eq_osl (iO rfl rfl rfl T.sl31 (by omega) (by omega) (sO (φ:=bl true) rfl rfl rfl T.one4 (by first|exact gN (by omega)|exact gI (by omega) (by omega)) rfl (y':=true) rfl (nl (th (sq (rg (gvU 231 2310 0 rfl rfl (by decide) (gK (k:=0) (by omega)) (bd (css:= [(0,_),(1,_)]) T.st78 (ex_cons (ex_cons (ex_nil))) ⟨rfl,rfl,p1 (φ:=int 0) rfl,⟨rfl,rfl,p1 (φ:=int 0) rfl,trivial⟩⟩ (bsE (enc:=pairE) (xs:= [(0,0)]) (css:= [[int 0,int 0]]) T.mk62 ⟨rfl,rfl,pA (cs:= [int 0,int 0]) rfl,trivial⟩ rfl rfl rfl rfl (ag (nl (th (sq (sq (rg (ag (nl (th (bk ?_))))))))))))))))))))))))))))))
  have hI1_0:(mt.set 0 ((ix mt 0).set 0 true))=mat (trimS s).1.states.length t.states.length ([(0,0)]:List (Int × Int))∧LI (BadD (trimS s).1 t) (SucD (trimS s).1 t) ([(0,0)]:List (Int × Int)) ([(0,0)]:List (Int × Int))∧0≤(0:Int)∧(0:Int)+((min ([(0,0)]:List (Int × Int)).length 1:Nat):Int)≤(([(0,0)]:List (Int × Int)).length:Int):=by
   refine⟨?_,li_zero,by omega,by simp⟩
   rw[hmz]
   exact mat_set (vis:= []) (x:=0) (y:=0) (by omega) (by omega)
  refine lp (κ:=(List (List Bool)) × (List (Int × Int)) × (List (Int × Int)) × Int) (fun p=> [(2,ptr 2 b2 0),(3,ptr 3 b3 0),(5,osl 23 v23),(7,sl 2 pairE p.2.2.1),(8,int p.2.2.2)]) (fun p=> [(2,cell b2 [sl 1 strE (((trimS s).1).actions),sl 2 stateE (((trimS s).1).states)]),(3,cell b3 [sl 1 strE t.actions,sl 2 stateE t.states]),(23,own v23 31 1 eqvE us),(231,bigown us 4 1 blE p.1 none)]) (fun p=>p.1=mat (trimS s).1.states.length t.states.length p.2.1∧LI (BadD (trimS s).1 t) (SucD (trimS s).1 t) p.2.1 p.2.2.1∧0≤p.2.2.2∧p.2.2.2+((min p.2.2.1.length 1:Nat):Int)≤(p.2.1.length:Int)) (fun p=>(trimS s).1.states.length*t.states.length- p.2.1.length+min p.2.2.1.length 1) ⟨mt.set 0 ((ix mt 0).set 0 true),([(0,0)]:List (Int × Int)),([(0,0)]:List (Int × Int)),(0:Int)⟩ hI1_0 ⟨id,id,id,id,id,trivial⟩ ⟨⟨rfl,id⟩,⟨rfl,id⟩,⟨rfl,id⟩,⟨rfl,id⟩,trivial⟩ ?_
  intro⟨mt1,vis,now,dp⟩ hG1
  obtain⟨hmt1,hLI,hd0,hdp⟩:mt1=mat (trimS s).1.states.length t.states.length vis∧LI (BadD (trimS s).1 t) (SucD (trimS s).1 t) vis now∧0≤dp∧dp+((min now.length 1:Nat):Int)≤(vis.length:Int):=hG1
  show Ct _ _ _ _ [(2,ptr 2 b2 0),(3,ptr 3 b3 0),(5,osl 23 v23),(7,sl 2 pairE now),(8,int dp)] [(2,cell b2 [sl 1 strE (((trimS s).1).actions),sl 2 stateE (((trimS s).1).states)]),(3,cell b3 [sl 1 strE t.actions,sl 2 stateE t.states]),(23,own v23 31 1 eqvE us),(231,bigown us 4 1 blE mt1 none)] _
  have hv1:=nodup_pairs (trimS s).1.states.length t.states.length vis hLI.nd (fun p hp=>rch_box hT ht hU (hLI.rch p hp))
  have hml1:mt1.length=(trimS s).1.states.length:=by rw[hmt1];exact mat_len _ _ _
  refine sq (sq (rg (mv (fc (slenI 43 rfl) fun hm43=>(lnF rfl T.sl62 (bi rfl rfl b_gtr (nl (th ?_))))))))
  refine cd rfl (fun hc1=> ?_) (fun hc1=> ?_)
  ·try simp at hc1
   refine sk (th (sq (bk (sq (rg (nw 9 78 2 pairE (ag (rtg (key:=9) 9 rfl (nl (th (sq (sq (rg (mv (lnF rfl T.sl62 (mv (nl (th (bk ?_)))))))))))))))))))
   have hI2_0:0≤now.length:=by
    first|omega|simp
   have hI2_1:mt1=mat (trimS s).1.states.length t.states.length vis∧LI (BadD (trimS s).1 t) (SucD (trimS s).1 t) vis (now.drop 0++([]:List (Int × Int)))∧vis.length=vis.length+([]:List (Int × Int)).length:=by
    exact⟨hmt1,by simpa using hLI,rfl⟩
   refine lp (κ:=Nat × (List (List Bool)) × Value × (List (Int × Int)) × (List (Int × Int))) (fun p=> [(2,ptr 2 b2 0),(3,ptr 3 b3 0),(5,osl 23 v23),(7,sl 2 pairE now),(8,int dp),(9,osl 9 p.2.2.1),(48,sl 2 pairE now),(49,int (now.length:Int)),(50,int (p.1:Int))]) (fun p=> [(2,cell b2 [sl 1 strE (((trimS s).1).actions),sl 2 stateE (((trimS s).1).states)]),(3,cell b3 [sl 1 strE t.actions,sl 2 stateE t.states]),(9,own p.2.2.1 78 2 pairE p.2.2.2.1),(23,own v23 31 1 eqvE us),(231,bigown us 4 1 blE p.2.1 none)]) (fun p=>(p.1≤now.length)∧(p.2.1=mat (trimS s).1.states.length t.states.length p.2.2.2.2∧LI (BadD (trimS s).1 t) (SucD (trimS s).1 t) p.2.2.2.2 (now.drop p.1++p.2.2.2.1)∧p.2.2.2.2.length=vis.length+p.2.2.2.1.length)) (fun p=>now.length- p.1) ⟨0,mt1,(.slice none 0 0),([]:List (Int × Int)),vis⟩ ⟨hI2_0,hI2_1⟩ ⟨id,id,id,id,id,id,id,id,id,trivial⟩ ⟨⟨rfl,id⟩,⟨rfl,id⟩,⟨rfl,id⟩,⟨rfl,id⟩,⟨rfl,id⟩,trivial⟩ ?_
   intro⟨k2,mt2,v9x,nx,vis2⟩ hG2
   obtain⟨hk2,⟨hmt2,hLI2,hvl2⟩⟩:(k2≤now.length)∧(mt2=mat (trimS s).1.states.length t.states.length vis2∧LI (BadD (trimS s).1 t) (SucD (trimS s).1 t) vis2 (now.drop k2++nx)∧vis2.length=vis.length+nx.length):=hG2
   show Ct _ _ _ _ [(2,ptr 2 b2 0),(3,ptr 3 b3 0),(5,osl 23 v23),(7,sl 2 pairE now),(8,int dp),(9,osl 9 v9x),(48,sl 2 pairE now),(49,int (now.length:Int)),(50,int (k2:Int))] [(2,cell b2 [sl 1 strE (((trimS s).1).actions),sl 2 stateE (((trimS s).1).states)]),(3,cell b3 [sl 1 strE t.actions,sl 2 stateE t.states]),(9,own v9x 78 2 pairE nx),(23,own v23 31 1 eqvE us),(231,bigown us 4 1 blE mt2 none)] _
   have hv2:=nodup_pairs (trimS s).1.states.length t.states.length vis2 hLI2.nd (fun p hp=>rch_box hT ht hU (hLI2.rch p hp))
   have hml2:mt2.length=(trimS s).1.states.length:=by rw[hmt2];exact mat_len _ _ _
   refine sq (rg (bi rfl rfl b_lss (nl (th (sq ?_)))))
   refine cd rfl (fun hc2=> ?_) (fun hc2=> ?_)
   ·try simp at hc2
    have hpv:ix now k2∈vis2:=hLI2.opn _ (List.mem_append.2 (.inl (by rw[drop_ix (by omega)];exact List.mem_cons_self)))
    have hpr:=hLI2.rch _ hpv
    obtain⟨hp0,hp1,hp2,hp3⟩:=rch_box hT ht hU hpr
    have hxl:=(hT.st (ix now k2).1.toNat (by omega)).len
    have hyl:=(ht.st (ix now k2).2.toNat (by omega)).len
    refine sk (th (sq (bk (sq (rg (iF rfl rfl T.sl62 (by omega) (by first|exact gN (by omega)|exact gI (by omega) (by omega)) (lFA rfl T.agg78 (Nat.le_of_ble_eq_true rfl) (al (key:=11) T.z78 (ex_cons (ex_cons (ex_nil))) fun b11=>(sPA (cs':= [int ((ix now k2).1),int ((ix now k2).2)]) rfl rfl rfl T.agg78 rfl rfl (nl (th (sq (sq (dr (nh:=13) [0,1,0,4,15,31,0,64,0,256,960,1984,4095] T.mixed (by kernel_rfl) ?_))))))))))))))
    refine st_ rfl (fun _ _ _ gq kq=>fP (gq.1.trans rfl) T.fld25_1 kq) ?_
    refine st_ rfl (fun _ _ _ gq kq=>lP (gq.1.trans rfl) rfl rfl T.one23 kq) ?_
    refine st_ rfl (fun _ _ _ gq kq=>iPA (gq.1.trans rfl) rfl T.arr78 T.one3 rfl kq) ?_
    refine st_ rfl (fun _ _ _ gq kq=>lP (gq.1.trans rfl) rfl rfl T.one3 kq) ?_
    refine st_ rfl (fun _ _ _ gq kq=>iF (gq.1.trans rfl) (gq.2.1.trans rfl) T.sl23 (by omega) (by first|exact gN (by omega)|exact gI (by omega) (by omega)) kq) ?_
    refine st_ rfl (fun _ _ _ gq kq=>lFA (gq.1.trans rfl) T.agg72 (Nat.le_of_ble_eq_true rfl) kq) ?_
    refine st_ rfl (fun _ _ _ gq kq=>fP (gq.1.trans rfl) T.fld25_1 kq) ?_
    refine st_ rfl (fun _ _ _ gq kq=>lP (gq.1.trans rfl) rfl rfl T.one23 kq) ?_
    refine st_ rfl (fun _ _ _ gq kq=>iPA (gq.1.trans rfl) rfl T.arr78 T.one3 rfl kq) ?_
    refine st_ rfl (fun _ _ _ gq kq=>lP (gq.1.trans rfl) rfl rfl T.one3 kq) ?_
    refine st_ rfl (fun _ _ _ gq kq=>iF (gq.1.trans rfl) (gq.2.1.trans rfl) T.sl23 (by omega) (by first|exact gN (by omega)|exact gI (by omega) (by omega)) kq) ?_
    refine st_ rfl (fun _ _ _ gq kq=>lFA (gq.1.trans rfl) T.agg72 (Nat.le_of_ble_eq_true rfl) kq) ?_
    refine st_ rfl (fun _ _ _ gq kq=>cal0 (φs:= [agg [sl 1 intE ((ix (((trimS s).1).states) (((ix now k2).1).toNat)).accept),sl 1 intE ((ix (((trimS s).1).states) (((ix now k2).1).toNat)).next)],agg [sl 1 intE ((ix t.states (((ix now k2).2).toNat)).accept),sl 1 intE ((ix t.states (((ix now k2).2).toNat)).next)]]) (φ:=bl (partsB (ix (((trimS s).1).states) (((ix now k2).1).toNat)) (ix t.states (((ix now k2).2).toNat)))) ⟨(gq.1.trans rfl),(gq.2.1.trans rfl),trivial⟩ (divs.parts_ok (ix (((trimS s).1).states) (((ix now k2).1).toNat)) (ix t.states (((ix now k2).2).toNat))) T.ent162 kq) ?_
    refine pn (nl (th ?_))
    refine cd rfl (fun hc3=> ?_) (fun hc3=> ?_)
    ·try simp at hc3
     refine sq (rg (mv (ag (nl (th (rt (rt_ (rb (rt_ (rt_ (rb (rt_ (rb (rt_ (rt_ (rb (rt_ ?_)))))))))))))))))
     exact rE ⟨dp,⟨fun h=>absurd h (by omega),fun h=>absurd ((trim_refp hs ht).2 h) (li_no hLI2 hpv (parts_bad.1 hc3))⟩⟩ [.tmp 4] rfl [int dp] ⟨.tmp rfl,trivial⟩ (rfl) trivial (by first|exact .inr rfl|exact .inl rfl)
    ·try simp at hc3
     have hnb:¬BadD (trimS s).1 t (ix now k2):=fun h=>by have h2:=parts_bad.2 h;exact absurd h2 (by rw[hc3];decide)
     refine sk (th (sq (rg (fP rfl T.fld25_1 (lP rfl rfl rfl T.one23 (iPA rfl rfl T.arr78 T.one3 rfl (lP rfl rfl rfl T.one3 (iF rfl rfl T.sl23 (by omega) (by first|exact gN (by omega)|exact gI (by omega) (by omega)) (fF rfl T.fld72_1 (lF rfl rfl T.one63 (fc (slenI 74 rfl) fun hm74=>(lnF rfl T.sl63 (mv (nl (th (bk ?_))))))))))))))))
     have hI3_0:0≤((ix (((trimS s).1).states) (((ix now k2).1).toNat)).next).length:=by
      first|omega|simp
     have hI3_1:mt2=mat (trimS s).1.states.length t.states.length vis2∧LI (BadD (trimS s).1 t) (SucD (trimS s).1 t) vis2 (now.drop k2++nx)∧vis2.length=vis.length+nx.length∧∀a,a<0→0≤ix (ix (trimS s).1.states (ix now k2).1.toNat).next a→(ix (ix (trimS s).1.states (ix now k2).1.toNat).next a,ix (ix t.states (ix now k2).2.toNat).next a)∈vis2:=by
      exact⟨hmt2,hLI2,hvl2,fun a ha=>absurd ha (by omega)⟩
     refine lp (κ:=Nat × (List (List Bool)) × Value × (List (Int × Int)) × (List (Int × Int))) (fun p=> [(2,ptr 2 b2 0),(3,ptr 3 b3 0),(5,osl 23 v23),(7,sl 2 pairE now),(8,int dp),(9,osl 9 p.2.2.1),(11,ptr 11 b11 0),(48,sl 2 pairE now),(49,int (now.length:Int)),(50,int (k2:Int)),(74,sl 1 intE ((ix (((trimS s).1).states) (((ix now k2).1).toNat)).next)),(75,int (((ix (((trimS s).1).states) (((ix now k2).1).toNat)).next).length:Int)),(76,int (p.1:Int))]) (fun p=> [(2,cell b2 [sl 1 strE (((trimS s).1).actions),sl 2 stateE (((trimS s).1).states)]),(3,cell b3 [sl 1 strE t.actions,sl 2 stateE t.states]),(9,own p.2.2.1 78 2 pairE p.2.2.2.1),(11,cell b11 [int ((ix now k2).1),int ((ix now k2).2)]),(23,own v23 31 1 eqvE us),(231,bigown us 4 1 blE p.2.1 none)]) (fun p=>(p.1≤((ix (((trimS s).1).states) (((ix now k2).1).toNat)).next).length)∧(p.2.1=mat (trimS s).1.states.length t.states.length p.2.2.2.2∧LI (BadD (trimS s).1 t) (SucD (trimS s).1 t) p.2.2.2.2 (now.drop k2++p.2.2.2.1)∧p.2.2.2.2.length=vis.length+p.2.2.2.1.length∧∀a,a<p.1→0≤ix (ix (trimS s).1.states (ix now k2).1.toNat).next a→(ix (ix (trimS s).1.states (ix now k2).1.toNat).next a,ix (ix t.states (ix now k2).2.toNat).next a)∈p.2.2.2.2)) (fun p=>((ix (((trimS s).1).states) (((ix now k2).1).toNat)).next).length- p.1) ⟨0,mt2,v9x,nx,vis2⟩ ⟨hI3_0,hI3_1⟩ ⟨id,id,id,id,id,id,id,id,id,id,id,id,id,trivial⟩ ⟨⟨rfl,id⟩,⟨rfl,id⟩,⟨rfl,id⟩,⟨rfl,id⟩,⟨rfl,id⟩,⟨rfl,id⟩,trivial⟩ ?_
     intro⟨k3,mt3,v9y,nx3,vis3⟩ hG3
     obtain⟨hk3,⟨hmt3,hLI3,hvl3,hdn⟩⟩:(k3≤((ix (((trimS s).1).states) (((ix now k2).1).toNat)).next).length)∧(mt3=mat (trimS s).1.states.length t.states.length vis3∧LI (BadD (trimS s).1 t) (SucD (trimS s).1 t) vis3 (now.drop k2++nx3)∧vis3.length=vis.length+nx3.length∧∀a,a<k3→0≤ix (ix (trimS s).1.states (ix now k2).1.toNat).next a→(ix (ix (trimS s).1.states (ix now k2).1.toNat).next a,ix (ix t.states (ix now k2).2.toNat).next a)∈vis3):=hG3
     show Ct _ _ _ _ [(2,ptr 2 b2 0),(3,ptr 3 b3 0),(5,osl 23 v23),(7,sl 2 pairE now),(8,int dp),(9,osl 9 v9y),(11,ptr 11 b11 0),(48,sl 2 pairE now),(49,int (now.length:Int)),(50,int (k2:Int)),(74,sl 1 intE ((ix (((trimS s).1).states) (((ix now k2).1).toNat)).next)),(75,int (((ix (((trimS s).1).states) (((ix now k2).1).toNat)).next).length:Int)),(76,int (k3:Int))] [(2,cell b2 [sl 1 strE (((trimS s).1).actions),sl 2 stateE (((trimS s).1).states)]),(3,cell b3 [sl 1 strE t.actions,sl 2 stateE t.states]),(9,own v9y 78 2 pairE nx3),(11,cell b11 [int ((ix now k2).1),int ((ix now k2).2)]),(23,own v23 31 1 eqvE us),(231,bigown us 4 1 blE mt3 none)] _
     have hv3:=nodup_pairs (trimS s).1.states.length t.states.length vis3 hLI3.nd (fun p hp=>rch_box hT ht hU (hLI3.rch p hp))
     have hml3:mt3.length=(trimS s).1.states.length:=by rw[hmt3];exact mat_len _ _ _
     refine sq (rg (bi rfl rfl b_lss (nl (th (sq ?_)))))
     refine cd rfl (fun hc4=> ?_) (fun hc4=> ?_)
     ·try simp at hc4
      refine sk (th (sq (bk (sq (rg (mv (iF rfl rfl T.sl63 (by omega) (by first|exact gN (by omega)|exact gI (by omega) (by omega)) (lF rfl rfl T.one3 (ag (ag (nl (th (sq (sq (rg (mv (bi rfl rfl b_lss (nl (th ?_)))))))))))))))))))
      refine cd rfl (fun hc5=> ?_) (fun hc5=> ?_)
      ·try simp at hc5
       refine ex (xt_ (xb (th (rg (bi rfl rfl (b_add (by unfold I64;omega)) (mv (nl ?_)))))))
       have hN0:(k3+1)≤((ix (((trimS s).1).states) (((ix now k2).1).toNat)).next).length:=by
        first|omega|simp_all
       have hN1:mt3=mat (trimS s).1.states.length t.states.length vis3∧LI (BadD (trimS s).1 t) (SucD (trimS s).1 t) vis3 (now.drop k2++nx3)∧vis3.length=vis.length+nx3.length∧∀a,a<(k3+1)→0≤ix (ix (trimS s).1.states (ix now k2).1.toNat).next a→(ix (ix (trimS s).1.states (ix now k2).1.toNat).next a,ix (ix t.states (ix now k2).2.toNat).next a)∈vis3:=by
        refine⟨hmt3,hLI3,hvl3,fun a ha h0=> ?_⟩
        by_cases e:a=k3
        ·subst e;omega
        ·exact hdn a (by omega) h0
       exact ln (⟨k3+1,mt3,v9y,nx3,vis3⟩:Nat × (List (List Bool)) × Value × (List (Int × Int)) × (List (Int × Int))) ⟨hN0,hN1⟩ (by first|omega|(dsimp only;omega)) ⟨id,id,id,id,id,id,id,id,id,id,id,id,id,trivial⟩ ⟨⟨rfl,id⟩,⟨rfl,id⟩,⟨rfl,id⟩,⟨rfl,id⟩,⟨rfl,id⟩,⟨rfl,id⟩,trivial⟩
      ·try simp at hc5
       have hka:k3<(trimS s).1.actions.length:=by omega
       have hga:=WalkM.acc_go hT ht (x:=(ix now k2).1.toNat) (y:=(ix now k2).2.toNat) (by omega) (by omega) (fun u hu=>Classical.byContradiction fun hn=>hnb ⟨u,hu,hn⟩) ((hU _ (by omega) k3 hka).1 (by dsimp only [nxt];omega))
       obtain⟨hga1,hga2,hga3⟩:=hga
       dsimp only [nxt] at hga2 hga3
       have hrq:Rch (BadD (trimS s).1 t) (SucD (trimS s).1 t) (ix (ix (trimS s).1.states (ix now k2).1.toNat).next k3,ix (ix t.states (ix now k2).2.toNat).next k3):=Rch.step hpr hnb ⟨k3,by dsimp only [nxt];omega,by dsimp only [nxt];omega,rfl⟩
       have hqn:=((hT.st (ix now k2).1.toNat (by omega)).nx k3 hka).2
       have hrl:(ix mt3 (ix (ix (trimS s).1.states (ix now k2).1.toNat).next k3).toNat).length=t.states.length:=by rw[hmt3];exact mat_rowlen (by omega)
       have hmq:ix (ix mt3 (ix (ix (trimS s).1.states (ix now k2).1.toNat).next k3).toNat) (ix (ix t.states (ix now k2).2.toNat).next k3).toNat=decide ((ix (ix (trimS s).1.states (ix now k2).1.toNat).next k3,ix (ix t.states (ix now k2).2.toNat).next k3)∈vis3):=by
        rw[hmt3,mat_ix (by omega) (by omega),Int.toNat_of_nonneg (by omega),Int.toNat_of_nonneg (by omega)]
       refine sk (th (sq (rg (mv (fP rfl T.fld25_1 (lP rfl rfl rfl T.one23 (iPA rfl rfl T.arr78 T.one3 rfl (lP rfl rfl rfl T.one3 (iF rfl rfl T.sl23 (by omega) (by first|exact gN (by omega)|exact gI (by omega) (by omega)) (fF rfl T.fld72_1 (lF rfl rfl T.one63 (mv (iF rfl rfl T.sl63 (by omega) (by first|exact gN (by omega)|exact gI (by omega) (by omega)) (lF rfl rfl T.one3 (bd (css:= [(0,_),(1,_)]) T.st78 (ex_cons (ex_cons (ex_nil))) ⟨rfl,rfl,p1 (φ:=int (ix ((ix (((trimS s).1).states) (((ix now k2).1).toNat)).next) k3)) rfl,⟨rfl,rfl,p1 (φ:=int (ix ((ix t.states (((ix now k2).2).toNat)).next) k3)) rfl,trivial⟩⟩ (al (key:=14) T.z78 (ex_cons (ex_cons (ex_nil))) fun b14=>(sPA (cs':= [int (ix ((ix (((trimS s).1).states) (((ix now k2).1).toNat)).next) k3),int (ix ((ix t.states (((ix now k2).2).toNat)).next) k3)]) rfl rfl rfl T.agg78 rfl rfl (nl (th (sq (tkBC 231 2310 ((ix (ix (trimS s).1.states (ix now k2).1.toNat).next k3).toNat) rfl rfl (by decide) (gK (by omega)) (gK (by omega)) (dr (nh:=10) [0,0,2,7,15,0,32,127,255,511] T.mixed (by kernel_rfl) ?_))))))))))))))))))))))
       refine st_ rfl (fun _ _ _ gq kq=>mv' (gq.1.trans rfl) kq) ?_
       refine st_ rfl (fun _ _ _ gq kq=>iPA (gq.1.trans rfl) rfl T.arr78 T.one3 rfl kq) ?_
       refine st_ rfl (fun _ _ _ gq kq=>lP (gq.1.trans rfl) rfl rfl T.one3 kq) ?_
       refine st_ rfl (fun _ _ _ gq kq=>iO (gq.1.trans rfl) rfl (gq.2.1.trans rfl) T.sl161 (by omega) (by omega) kq) ?_
       refine st_ rfl (fun _ _ _ gq kq=>lO (gq.1.trans rfl) rfl (by first|exact gN (by omega)|exact gI (by omega) (by omega)) rfl T.one31 kq) ?_
       refine st_ rfl (fun _ _ _ gq kq=>iPA (gq.1.trans rfl) rfl T.arr78 T.one3 rfl kq) ?_
       refine st_ rfl (fun _ _ _ gq kq=>lP (gq.1.trans rfl) rfl rfl T.one3 kq) ?_
       refine st_ rfl (fun _ _ _ gq kq=>iO ((gq.1.trans rfl).trans (osl_is (key:=2310)).symm) rfl (gq.2.1.trans rfl) T.sl31 (by omega) (by omega) kq) ?_
       refine st_ rfl (fun _ _ _ gq kq=>lO (gq.1.trans rfl) rfl (by first|exact gN (by omega)|exact gI (by omega) (by omega)) rfl T.one4 kq) ?_
       refine st_ rfl (fun _ _ _ gq kq=>no (gq.1.trans rfl) kq) ?_
       refine pn (nl (th ?_))
       refine cd rfl (fun hc6=> ?_) (fun hc6=> ?_)
       ·skip
        have hnq:(ix (ix (trimS s).1.states (ix now k2).1.toNat).next k3,ix (ix t.states (ix now k2).2.toNat).next k3)∉vis3:=by
                  intro h
                  rw[hmq] at hc6
                  simp[h] at hc6
        refine sq (dr (nh:=8) [0,0,2,7,15,0,32,127,255] T.mixed (by kernel_rfl) ?_)
        refine st_ rfl (fun _ _ _ gq kq=>mv' (gq.1.trans rfl) kq) ?_
        refine st_ rfl (fun _ _ _ gq kq=>iPA (gq.1.trans rfl) rfl T.arr78 T.one3 rfl kq) ?_
        refine st_ rfl (fun _ _ _ gq kq=>lP (gq.1.trans rfl) rfl rfl T.one3 kq) ?_
        refine st_ rfl (fun _ _ _ gq kq=>iO (gq.1.trans rfl) rfl (gq.2.1.trans rfl) T.sl161 (by omega) (by omega) kq) ?_
        refine st_ rfl (fun _ _ _ gq kq=>lO (gq.1.trans rfl) rfl (by first|exact gN (by omega)|exact gI (by omega) (by omega)) rfl T.one31 kq) ?_
        refine st_ rfl (fun _ _ _ gq kq=>iPA (gq.1.trans rfl) rfl T.arr78 T.one3 rfl kq) ?_
        refine st_ rfl (fun _ _ _ gq kq=>lP (gq.1.trans rfl) rfl rfl T.one3 kq) ?_
        refine st_ rfl (fun _ _ _ gq kq=>iO ((gq.1.trans rfl).trans (osl_is (key:=2310)).symm) rfl (gq.2.1.trans rfl) T.sl31 (by omega) (by omega) kq) ?_
        refine pn (sO (φ:=bl true) rfl rfl rfl T.one4 (by first|exact gN (by omega)|exact gI (by omega) (by omega)) rfl (y':=true) rfl (nl (th (rg (gvU 231 2310 ((ix (ix (trimS s).1.states (ix now k2).1.toNat).next k3).toNat) rfl rfl (by decide) (gK (by omega)) (mv (lPA rfl rfl T.agg78 rfl (bs (css:= [[int (ix ((ix (((trimS s).1).states) (((ix now k2).1).toNat)).next) k3),int (ix ((ix t.states (((ix now k2).2).toNat)).next) k3)]]) T.mk62 ⟨rfl,rfl,pA (cs:= [int (ix ((ix (((trimS s).1).states) (((ix now k2).1).toNat)).next) k3),int (ix ((ix t.states (((ix now k2).2).toNat)).next) k3)]) rfl,trivial⟩ rfl rfl rfl (ap (key:=9) (zs:= [(ix ((ix (((trimS s).1).states) (((ix now k2).1).toNat)).next) k3,ix ((ix t.states (((ix now k2).2).toNat)).next) k3)]) osl_eq rfl rfl rfl T.mk62 (by unfold maxL at*;simp;omega) (by unfold maxL at*;simp;omega) fun v116=>(ag (nl (eb (th (rg (bi rfl rfl (b_add (by unfold I64;omega)) (mv (nl ?_)))))))))))))))))
        have hN0:(k3+1)≤((ix (((trimS s).1).states) (((ix now k2).1).toNat)).next).length:=by
                  first|omega|simp_all
        have hN1:(mt3.set ((ix (ix (trimS s).1.states (ix now k2).1.toNat).next k3).toNat) ((ix mt3 ((ix (ix (trimS s).1.states (ix now k2).1.toNat).next k3).toNat)).set ((ix ((ix t.states (((ix now k2).2).toNat)).next) k3).toNat) true))=mat (trimS s).1.states.length t.states.length (vis3++ [(ix (ix (trimS s).1.states (ix now k2).1.toNat).next k3,ix (ix t.states (ix now k2).2.toNat).next k3)])∧LI (BadD (trimS s).1 t) (SucD (trimS s).1 t) (vis3++ [(ix (ix (trimS s).1.states (ix now k2).1.toNat).next k3,ix (ix t.states (ix now k2).2.toNat).next k3)]) (now.drop k2++(nx3++ [(ix ((ix (((trimS s).1).states) (((ix now k2).1).toNat)).next) k3,ix ((ix t.states (((ix now k2).2).toNat)).next) k3)]))∧(vis3++ [(ix (ix (trimS s).1.states (ix now k2).1.toNat).next k3,ix (ix t.states (ix now k2).2.toNat).next k3)]).length=vis.length+(nx3++ [(ix ((ix (((trimS s).1).states) (((ix now k2).1).toNat)).next) k3,ix ((ix t.states (((ix now k2).2).toNat)).next) k3)]).length∧∀a,a<(k3+1)→0≤ix (ix (trimS s).1.states (ix now k2).1.toNat).next a→(ix (ix (trimS s).1.states (ix now k2).1.toNat).next a,ix (ix t.states (ix now k2).2.toNat).next a)∈(vis3++ [(ix (ix (trimS s).1.states (ix now k2).1.toNat).next k3,ix (ix t.states (ix now k2).2.toNat).next k3)]):=by
                  refine⟨?_,?_,by simp;omega,fun a ha h0=> ?_⟩
                  ·have hms:=mat_set (n:=(trimS s).1.states.length) (m:=t.states.length) (vis:=vis3) (x:=(ix (ix (trimS s).1.states (ix now k2).1.toNat).next k3).toNat) (y:=(ix (ix t.states (ix now k2).2.toNat).next k3).toNat) (by omega) (by omega)
                   rw[Int.toNat_of_nonneg (by omega),Int.toNat_of_nonneg (by omega),←hmt3] at hms
                   exact hms
                  ·have:=li_push hLI3 hnq hrq
                   rwa [List.append_assoc] at this
                  ·by_cases e:a=k3
                   ·subst e;exact List.mem_append.2 (.inr (List.mem_singleton.2 rfl))
                   ·exact List.mem_append.2 (.inl (hdn a (by omega) h0))
        exact ln (⟨k3+1,mt3.set ((ix (ix (trimS s).1.states (ix now k2).1.toNat).next k3).toNat) ((ix mt3 ((ix (ix (trimS s).1.states (ix now k2).1.toNat).next k3).toNat)).set ((ix ((ix t.states (((ix now k2).2).toNat)).next) k3).toNat) true),v116,nx3++ [(ix ((ix (((trimS s).1).states) (((ix now k2).1).toNat)).next) k3,ix ((ix t.states (((ix now k2).2).toNat)).next) k3)],vis3++ [(ix (ix (trimS s).1.states (ix now k2).1.toNat).next k3,ix (ix t.states (ix now k2).2.toNat).next k3)]⟩:Nat × (List (List Bool)) × Value × (List (Int × Int)) × (List (Int × Int))) ⟨hN0,hN1⟩ (by first|omega|(dsimp only;omega)) ⟨id,id,id,id,id,id,id,id,id,id,id,id,id,trivial⟩ ⟨⟨rfl,id⟩,⟨rfl,id⟩,⟨rfl,id⟩,⟨rfl,id⟩,⟨rfl,id⟩,⟨rfl,id⟩,trivial⟩
       ·skip
        have hyq:(ix (ix (trimS s).1.states (ix now k2).1.toNat).next k3,ix (ix t.states (ix now k2).2.toNat).next k3)∈vis3:=by
                  rw[hmq] at hc6
                  simpa using hc6
        refine gvSC 231 2310 ((ix (ix (trimS s).1.states (ix now k2).1.toNat).next k3).toNat) rfl rfl (by decide) (gK (by omega)) (gK (by omega)) (sk (eb (th (rg (bi rfl rfl (b_add (by unfold I64;omega)) (mv (nl ?_)))))))
        have hN0:(k3+1)≤((ix (((trimS s).1).states) (((ix now k2).1).toNat)).next).length:=by
                  first|omega|simp_all
        have hN1:mt3=mat (trimS s).1.states.length t.states.length vis3∧LI (BadD (trimS s).1 t) (SucD (trimS s).1 t) vis3 (now.drop k2++nx3)∧vis3.length=vis.length+nx3.length∧∀a,a<(k3+1)→0≤ix (ix (trimS s).1.states (ix now k2).1.toNat).next a→(ix (ix (trimS s).1.states (ix now k2).1.toNat).next a,ix (ix t.states (ix now k2).2.toNat).next a)∈vis3:=by
                  refine⟨hmt3,hLI3,hvl3,fun a ha h0=> ?_⟩
                  by_cases e:a=k3
                  ·subst e;exact hyq
                  ·exact hdn a (by omega) h0
        exact ln (⟨k3+1,mt3,v9y,nx3,vis3⟩:Nat × (List (List Bool)) × Value × (List (Int × Int)) × (List (Int × Int))) ⟨hN0,hN1⟩ (by first|omega|(dsimp only;omega)) ⟨id,id,id,id,id,id,id,id,id,id,id,id,id,trivial⟩ ⟨⟨rfl,id⟩,⟨rfl,id⟩,⟨rfl,id⟩,⟨rfl,id⟩,⟨rfl,id⟩,⟨rfl,id⟩,trivial⟩
     ·try simp at hc4
      refine ex (xt_ (xt_ (xb (eb (th (rg (bi rfl rfl (b_add (by unfold I64;omega)) (mv (nl ?_)))))))))
      have hN0:(k2+1)≤now.length:=by
       first|omega|simp_all
      have hN1:mt3=mat (trimS s).1.states.length t.states.length vis3∧LI (BadD (trimS s).1 t) (SucD (trimS s).1 t) vis3 (now.drop (k2+1)++nx3)∧vis3.length=vis.length+nx3.length:=by
       refine⟨hmt3,?_,hvl3⟩
       have h3:=hLI3
       rw[drop_ix (by omega)] at h3
       refine li_pop h3 ⟨hnb,?_⟩
       rintro _ ⟨a,ha,h0,rfl⟩
       exact hdn a (by dsimp only [nxt] at ha;omega) h0
      exact ln (⟨k2+1,mt3,v9y,nx3,vis3⟩:Nat × (List (List Bool)) × Value × (List (Int × Int)) × (List (Int × Int))) ⟨hN0,hN1⟩ (by first|omega|(dsimp only;omega)) ⟨id,id,id,id,id,id,id,id,id,trivial⟩ ⟨⟨rfl,id⟩,⟨rfl,id⟩,⟨rfl,id⟩,⟨rfl,id⟩,⟨rfl,id⟩,trivial⟩
   ·try simp at hc2
    refine ex (xt_ (xt_ (xb (th (rg (fz 9 9 rfl rfl (mv (ag (nl (eb (th (rg (mv (bi rfl rfl (b_add (by unfold I64;omega)) (ag (nl ?_))))))))))))))))
    have hN0:mt2=mat (trimS s).1.states.length t.states.length vis2∧LI (BadD (trimS s).1 t) (SucD (trimS s).1 t) vis2 nx∧0≤(dp+1)∧(dp+1)+((min nx.length 1:Nat):Int)≤(vis2.length:Int):=by
     refine⟨hmt2,?_,by omega,?_⟩
     ·rw[show now.drop k2= [] from List.drop_eq_nil_of_le (by omega)] at hLI2
      simpa using hLI2
     ·omega
    exact ln (⟨mt2,vis2,nx,dp+1⟩:(List (List Bool)) × (List (Int × Int)) × (List (Int × Int)) × Int) hN0 (by first|omega|(dsimp only;omega)) ⟨id,id,id,id,id,trivial⟩ ⟨⟨rfl,id⟩,⟨rfl,id⟩,⟨rfl,id⟩,⟨rfl,id⟩,trivial⟩
  ·try simp at hc1
   refine ex (xt_ (xt_ (xb (th (sq (rg (ag (nl (th (rt ?_))))))))))
   exact rE ⟨-1,⟨fun _=>(trim_refp hs ht).1 (li_yes (by rw[show now= [] from by first|exact hc1|exact List.eq_nil_of_length_eq_zero (by omega)] at hLI;exact hLI)),fun _=>by decide⟩⟩ [.tmp 4] rfl [int (-1)] ⟨.tmp rfl,trivial⟩ (rfl) trivial (by first|exact .inr rfl|exact .inl rfl)
end divd
end Go.Proofs.YtcjemmihcplgdaaGreat
namespace Go.Proofs.YtcjemmihcplgdaaGreat
open AL ref01 ref03 ref04 ref06 prog6 prog15 starts Part Rungs LeftM TrimM RoundM MergeM BisM BisM5 BisM6 WalkM StepM WitM JudgM
set_option linter.all false
namespace JudgM2
theorem tS_ne {s:SSpec} (hs:okSpec s) (h0:ix (hollow s) 0=false) {x:Nat} (hx:x<(tS s).states.length):0<(acc (tS s) x).length:=by
 rw[tS_len] at hx
 rw[tS_acc hx]
 exact List.length_pos_iff.2 (keep_ne (by have:=ord_bd hs hx;omega) (ord_solid hs h0 hx))
structure VR where
 holds:Bool
 ladder:List Int
 pairs:List PP
 wit:SSys
structure RefOK (s t:SSpec) (v:VR):Prop where
 yes:v.holds=true→RefP s t∧v.ladder=rungs s∧v.wit=⟨[],[]⟩∧(ix (hollow s) 0=true→v.pairs= [])∧(ix (hollow s) 0=false→∃q,QInv (tS s) t q∧(∀k,k<q.length→Done (tS s) t q k)∧v.pairs=q.map fun m=>(ix (ordS s) m.s.toNat,m.t))
 no:v.holds=false→¬RefP s t∧v.ladder= []∧v.pairs= []∧ix (hollow s) 0=false∧∃q i u,QInv (tS s) t q∧i<q.length∧u∈acc (tS s) (ix q i).s.toNat∧u∉acc t (ix q i).t.toNat∧WitOK (tS s) (pathL (tS s) (wordTo q i) u) v.wit
end JudgM2
end Go.Proofs.YtcjemmihcplgdaaGreat
namespace Go.Proofs.YtcjemmihcplgdaaGreat
open AL Go
set_option maxRecDepth 100000
set_option linter.all false
open ref01 ref03 ref04 ref06 prog prog2 prog3 prog4 prog5 prog6 prog13 prog15 starts search Part Rungs LeftM TrimM RoundM MergeM BisM BisM5 WalkM StepM WitM JudgM JudgM2 refw judg wit
theorem okSpec.small {s:SSpec} (h:okSpec s):smallSpec s:=fun k hk i hi=>by
 have:=(h.st k hk).ac i hi
 omega
noncomputable def refB (s t:SSpec):Bool:= @decide (RefP s t) (Classical.propDecidable _)
theorem refB_iff {s t:SSpec}:refB s t=true↔RefP s t:=by unfold refB;simp
theorem fine_ok {s t:SSpec} (h:fineE s t=0):specOK s=true∧specOK t=true∧s.actions=t.actions:=by
 unfold fineE at h
 split at h
 ·next g=>
  split at h
  ·next g2=>exact⟨g.1,g.2,g2⟩
  ·exact absurd h (by decide)
 ·exact absurd h (by decide)
namespace refj
end refj
end Go.Proofs.YtcjemmihcplgdaaGreat
namespace Go.Proofs.YtcjemmihcplgdaaGreat
open AL Go
set_option maxRecDepth 100000
set_option linter.all false
open ref01 ref03 ref04 ref06 prog prog2 prog3 prog6 prog13 Part Rungs LeftM TrimM RoundM MergeM BisM BisM4 BisM5 WalkM StepM WitM JudgM refw judg wit refj sysw divr divs divd LevM
noncomputable def eqR (s t:SSpec):Bool:=refB s t&&refB t s
noncomputable def fineR (g w:SSpec):Bool:=specOK g&&decide (g.actions=w.actions)&&isTrimS g&&eqR g w
noncomputable def toldB (g:SSpec) (e err:Int) (w:SSpec) (large:Bool):Bool:=if err=0 then(decide (e=2)&&large&&isNone g)||(decide (e=0)&&fineR g w) else decide (e=err)&&isNone g
namespace T
theorem ent135:Ent Tryz.prog 135:=ent_of (by kernel_rfl)
theorem ent100:Ent Tryz.prog 100:=ent_of (by kernel_rfl)
theorem ent70:Ent Tryz.prog 70:=ent_of (by kernel_rfl)
theorem ent71:Ent Tryz.prog 71:=ent_of (by kernel_rfl)
theorem ent53:Ent Tryz.prog 53:=ent_of (by kernel_rfl)
theorem ent40:Ent Tryz.prog 40:=ent_of (by kernel_rfl)
end T
namespace dive
theorem Refines_ok (s t:SSpec) (hs:okSpec s) (ht:okSpec t):
 Fn0 Tryz.prog 100 [spec s,spec t] (bl (refB s t)):=by
 refine fnI Tryz.func100 rfl rfl (fun w0 F0=> ?_)
 refine fcC (inhS 0 rfl) (fun hS0=> ?_)
 obtain⟨hsa0,hss0,hse0⟩:=spec_lens hS0
 refine fcC (inhS 1 rfl) (fun hS1=> ?_)
 obtain⟨hsa1,hss1,hse1⟩:=spec_lens hS1
 refine sq (rg (bx (key:=2) (cs:= [sl 1 strE s.actions,sl 2 stateE s.states]) rfl fun b2=>(bx (key:=3) (cs:= [sl 1 strE t.actions,sl 2 stateE t.states]) rfl fun b3=>(ag (nl (th (sq (rg (lPA rfl rfl T.agg25 rfl (lPA rfl rfl T.agg25 rfl (cl (divd.Depth_ok s t (by assumption) (by assumption)) T.ent135 trivial fun N7 i7=>(bi rfl rfl b_lss (ag (nl (th (rt ?_))))))))))))))))
 have hr0:(decide (i7.1<0))=(refB s t):=by
  rw[Bool.eq_iff_iff,refB_iff,decide_eq_true_eq];exact i7.2
 have hall:∀x0,(decide (i7.1<0))=x0→resAV [bl (decide (i7.1<0))]=resAV [bl x0]:=by rintro _ rfl;rfl
 exact rE () [.tmp 4] rfl [bl (decide (i7.1<0))] ⟨.tmp rfl,trivial⟩ (hall _ hr0) trivial (by first|exact .inr rfl|exact .inl rfl)
theorem Equal_ok (s t:SSpec) (hs:okSpec s) (ht:okSpec t):
 Fn0 Tryz.prog 71 [spec s,spec t] (bl (eqR s t)):=by
 refine fnI Tryz.func71 rfl rfl (fun w0 F0=> ?_)
 refine fcC (inhS 0 rfl) (fun hS0=> ?_)
 obtain⟨hsa0,hss0,hse0⟩:=spec_lens hS0
 refine fcC (inhS 1 rfl) (fun hS1=> ?_)
 obtain⟨hsa1,hss1,hse1⟩:=spec_lens hS1
 refine sq (rg (bx (key:=2) (cs:= [sl 1 strE s.actions,sl 2 stateE s.states]) rfl fun b2=>(bx (key:=3) (cs:= [sl 1 strE t.actions,sl 2 stateE t.states]) rfl fun b3=>(ag (nl (th (sq (rg (lPA rfl rfl T.agg25 rfl (lPA rfl rfl T.agg25 rfl (cal0 (φs:= [agg [sl 1 strE s.actions,sl 2 stateE s.states],agg [sl 1 strE t.actions,sl 2 stateE t.states]]) (φ:=bl (refB s t)) ⟨rfl,rfl,trivial⟩ (dive.Refines_ok s t (by assumption) (by assumption)) T.ent100 (mv ?_))))))))))))
 apply gAnd (t:=8) (pd:=12) rfl
 rotate_left
 ·intro hg0 fin
  have hg0':=hg0
  try simp at hg0'
  exact gy rfl rfl rfl hg0 (lPA rfl rfl T.agg25 rfl (gy rfl rfl rfl hg0 (lPA rfl rfl T.agg25 rfl (gy rfl rfl rfl hg0 (cal0 (φs:= [agg [sl 1 strE t.actions,sl 2 stateE t.states],agg [sl 1 strE s.actions,sl 2 stateE s.states]]) (φ:=bl (refB t s)) ⟨rfl,rfl,trivial⟩ (dive.Refines_ok t s (by assumption) (by assumption)) T.ent100 (pkT rfl hg0 rfl (drp (X:= [(11,_),(10,_),(9,_)]) ⟨rfl,rfl,rfl,trivial⟩ (fin))))))))
 ·intro hg0 fin
  exact gn rfl rfl rfl hg0 rfl rfl (gn rfl rfl rfl hg0 rfl rfl (gn rfl rfl rfl hg0 rfl rfl (pkF rfl hg0 rfl (drp (X:= [(11,_),(10,_),(9,_)]) ⟨rfl,rfl,rfl,trivial⟩ (fin)))))
 refine ag (nl (th (rt ?_)))
 have hr0:((refB s t)&&(refB t s))=(eqR s t):=by
  first|rfl|simp_all|omega
 have hall:∀x0,((refB s t)&&(refB t s))=x0→resAV [bl ((refB s t)&&(refB t s))]=resAV [bl x0]:=by rintro _ rfl;rfl
 exact rE () [.tmp 4] rfl [bl ((refB s t)&&(refB t s))] ⟨.tmp rfl,trivial⟩ (hall _ hr0) trivial (by first|exact .inr rfl|exact .inl rfl)
theorem Fine_ok (g w:SSpec) (hw:okSpec w):
 Fn0 Tryz.prog 40 [spec g,spec w] (bl (fineR g w)):=by
 refine fnI Tryz.func40 rfl rfl (fun w0 F0=> ?_)
 refine fcC (inhS 0 rfl) (fun hS0=> ?_)
 obtain⟨hsa0,hss0,hse0⟩:=spec_lens hS0
 refine fcC (inhS 1 rfl) (fun hS1=> ?_)
 obtain⟨hsa1,hss1,hse1⟩:=spec_lens hS1
 refine sq (rg (bx (key:=2) (cs:= [sl 1 strE g.actions,sl 2 stateE g.states]) rfl fun b2=>(bx (key:=3) (cs:= [sl 1 strE w.actions,sl 2 stateE w.states]) rfl fun b3=>(ag (nl (th (sq (rg (lPA rfl rfl T.agg25 rfl (cal0 (φs:= [agg [sl 1 strE g.actions,sl 2 stateE g.states]]) (φ:=bl (specOK g)) ⟨rfl,trivial⟩ (ref03.Is_ok g) T.ent41 (mv ?_)))))))))))
 apply gAnd (t:=7) (pd:=13) rfl
 rotate_left
 ·intro hg0 fin
  have hg0':=hg0
  try simp at hg0'
  exact gy rfl rfl rfl hg0 (fP rfl T.fld25_0 (gy rfl rfl rfl hg0 (lP rfl rfl rfl T.one22 (gy rfl rfl rfl hg0 (fP rfl T.fld25_0 (gy rfl rfl rfl hg0 (lP rfl rfl rfl T.one22 (gy rfl rfl rfl hg0 (cal0 (φs:= [sl 1 strE g.actions,sl 1 strE w.actions]) (φ:=bl (decide (g.actions=w.actions))) ⟨rfl,rfl,trivial⟩ (ref01.SameStrings_ok _ _) T.ent42 (pkT rfl hg0 rfl (drp (X:= [(12,_),(11,_),(10,_),(9,_),(8,_)]) ⟨rfl,rfl,rfl,rfl,rfl,trivial⟩ (fin))))))))))))
 ·intro hg0 fin
  exact gn rfl rfl rfl hg0 rfl rfl (gn rfl rfl rfl hg0 rfl rfl (gn rfl rfl rfl hg0 rfl rfl (gn rfl rfl rfl hg0 rfl rfl (gn rfl rfl rfl hg0 rfl rfl (pkF rfl hg0 rfl (drp (X:= [(12,_),(11,_),(10,_),(9,_),(8,_)]) ⟨rfl,rfl,rfl,rfl,rfl,trivial⟩ (fin)))))))
 refine mv ?_
 apply gAnd (t:=14) (pd:=17) rfl
 rotate_left
 ·intro hg1 fin
  have hg1':=hg1
  try simp at hg1'
  have hok:okSpec g:=okSpec_of (by simp at hg1;exact hg1.1)
  exact gy rfl rfl rfl hg1 (lPA rfl rfl T.agg25 rfl (gy rfl rfl rfl hg1 (cal0 (φs:= [agg [sl 1 strE g.actions,sl 2 stateE g.states]]) (φ:=bl (isTrimS g)) ⟨rfl,trivial⟩ (divr.IsTrim_ok g (by assumption)) T.ent70 (pkT rfl hg1 rfl (drp (X:= [(16,_),(15,_)]) ⟨rfl,rfl,trivial⟩ (fin))))))
 ·intro hg1 fin
  exact gn rfl rfl rfl hg1 rfl rfl (gn rfl rfl rfl hg1 rfl rfl (pkF rfl hg1 rfl (drp (X:= [(16,_),(15,_)]) ⟨rfl,rfl,trivial⟩ (fin))))
 refine mv ?_
 apply gAnd (t:=18) (pd:=22) rfl
 rotate_left
 ·intro hg2 fin
  have hg2':=hg2
  try simp at hg2'
  have hok:okSpec g:=okSpec_of (by simp at hg2;exact hg2.1.1)
  exact gy rfl rfl rfl hg2 (lPA rfl rfl T.agg25 rfl (gy rfl rfl rfl hg2 (lPA rfl rfl T.agg25 rfl (gy rfl rfl rfl hg2 (cal0 (φs:= [agg [sl 1 strE g.actions,sl 2 stateE g.states],agg [sl 1 strE w.actions,sl 2 stateE w.states]]) (φ:=bl (eqR g w)) ⟨rfl,rfl,trivial⟩ (dive.Equal_ok g w (by assumption) (by assumption)) T.ent71 (pkT rfl hg2 rfl (drp (X:= [(21,_),(20,_),(19,_)]) ⟨rfl,rfl,rfl,trivial⟩ (fin))))))))
 ·intro hg2 fin
  exact gn rfl rfl rfl hg2 rfl rfl (gn rfl rfl rfl hg2 rfl rfl (gn rfl rfl rfl hg2 rfl rfl (pkF rfl hg2 rfl (drp (X:= [(21,_),(20,_),(19,_)]) ⟨rfl,rfl,rfl,trivial⟩ (fin)))))
 refine ag (nl (th (rt ?_)))
 have hr0:((((specOK g)&&(decide (g.actions=w.actions)))&&(isTrimS g))&&(eqR g w))=(fineR g w):=by
  first|rfl|simp_all|omega
 have hall:∀x0,((((specOK g)&&(decide (g.actions=w.actions)))&&(isTrimS g))&&(eqR g w))=x0→resAV [bl ((((specOK g)&&(decide (g.actions=w.actions)))&&(isTrimS g))&&(eqR g w))]=resAV [bl x0]:=by rintro _ rfl;rfl
 exact rE () [.tmp 4] rfl [bl ((((specOK g)&&(decide (g.actions=w.actions)))&&(isTrimS g))&&(eqR g w))] ⟨.tmp rfl,trivial⟩ (hall _ hr0) trivial (by first|exact .inr rfl|exact .inl rfl)
theorem Told_ok (g:SSpec) (e err:Int) (w:SSpec) (large:Bool) (hw:err=0→okSpec w):
 Fn0 Tryz.prog 17 [spec g,int e,int err,spec w,bl large] (bl (toldB g e err w large)):=by
 refine fnI Tryz.func17 rfl rfl (fun w0 F0=> ?_)
 refine fcC (inhS 0 rfl) (fun hS0=> ?_)
 obtain⟨hsa0,hss0,hse0⟩:=spec_lens hS0
 refine fcC (inhS 3 rfl) (fun hS3=> ?_)
 obtain⟨hsa3,hss3,hse3⟩:=spec_lens hS3
 refine sq (rg (bx (key:=5) (cs:= [sl 1 strE g.actions,sl 2 stateE g.states]) rfl fun b5=>(bx (key:=8) (cs:= [sl 1 strE w.actions,sl 2 stateE w.states]) rfl fun b8=>(ag (nl (th (sq (sq (rg (mv (bi rfl rfl b_neq (nl (th ?_)))))))))))))
 refine cd rfl (fun hc0=> ?_) (fun hc0=> ?_)
 ·try simp at hc0
  refine sq (rg (mv (mv (bi rfl rfl b_eql (mv ?_)))))
  apply gAnd (t:=16) (pd:=19) rfl
  rotate_left
  ·intro hg0 fin
   have hg0':=hg0
   try simp at hg0'
   exact gy rfl rfl rfl hg0 (lPA rfl rfl T.agg25 rfl (gy rfl rfl rfl hg0 (cal0 (φs:= [agg [sl 1 strE g.actions,sl 2 stateE g.states]]) (φ:=bl (isNone g)) ⟨rfl,trivial⟩ (ref03.None_ok g) T.ent53 (pkT rfl hg0 rfl (drp (X:= [(18,_),(17,_)]) ⟨rfl,rfl,trivial⟩ (fin))))))
  ·intro hg0 fin
   exact gn rfl rfl rfl hg0 rfl rfl (gn rfl rfl rfl hg0 rfl rfl (pkF rfl hg0 rfl (drp (X:= [(18,_),(17,_)]) ⟨rfl,rfl,trivial⟩ (fin))))
  refine ag (nl (th (rt (rt_ ?_))))
  have hr0:((decide (e=err))&&(isNone g))=(toldB g e err w large):=by
   unfold toldB;rw[if_neg hc0]
  have hall:∀x0,((decide (e=err))&&(isNone g))=x0→resAV [bl ((decide (e=err))&&(isNone g))]=resAV [bl x0]:=by rintro _ rfl;rfl
  exact rE () [.tmp 10] rfl [bl ((decide (e=err))&&(isNone g))] ⟨.tmp rfl,trivial⟩ (hall _ hr0) trivial (by first|exact .inr rfl|exact .inl rfl)
 ·try simp at hc0
  have hww:=hw hc0
  refine sk (th (sq (rg (mv (bi rfl rfl b_eql (mv ?_))))))
  apply gAnd (t:=22) (pd:=24) rfl
  rotate_left
  ·intro hg1 fin
   have hg1':=hg1
   try simp at hg1'
   exact gy rfl rfl rfl hg1 (mv (pkT rfl hg1 rfl (drp (X:= [(23,_)]) ⟨rfl,trivial⟩ (fin))))
  ·intro hg1 fin
   exact gn rfl rfl rfl hg1 rfl rfl (pkF rfl hg1 rfl (drp (X:= [(23,_)]) ⟨rfl,trivial⟩ (fin)))
  refine mv ?_
  apply gAnd (t:=25) (pd:=28) rfl
  rotate_left
  ·intro hg2 fin
   have hg2':=hg2
   try simp at hg2'
   exact gy rfl rfl rfl hg2 (lPA rfl rfl T.agg25 rfl (gy rfl rfl rfl hg2 (cal0 (φs:= [agg [sl 1 strE g.actions,sl 2 stateE g.states]]) (φ:=bl (isNone g)) ⟨rfl,trivial⟩ (ref03.None_ok g) T.ent53 (pkT rfl hg2 rfl (drp (X:= [(27,_),(26,_)]) ⟨rfl,rfl,trivial⟩ (fin))))))
  ·intro hg2 fin
   exact gn rfl rfl rfl hg2 rfl rfl (gn rfl rfl rfl hg2 rfl rfl (pkF rfl hg2 rfl (drp (X:= [(27,_),(26,_)]) ⟨rfl,rfl,trivial⟩ (fin))))
  refine mv ?_
  apply gOr (t:=29) (pd:=37) rfl
  rotate_left
  ·intro hg3 fin
   have hg3':=hg3
   try simp at hg3'
   refine gy rfl rfl rfl hg3 (mv (gy rfl rfl rfl hg3 (bi rfl rfl b_eql (gy rfl rfl rfl hg3 (mv ?_)))))
   apply gAnd (t:=32) (pd:=36) rfl
   rotate_left
   ·intro hg4 fin
    have hg4':=hg4
    try simp at hg4'
    exact gy rfl rfl rfl hg4 (lPA rfl rfl T.agg25 rfl (gy rfl rfl rfl hg4 (lPA rfl rfl T.agg25 rfl (gy rfl rfl rfl hg4 (cal0 (φs:= [agg [sl 1 strE g.actions,sl 2 stateE g.states],agg [sl 1 strE w.actions,sl 2 stateE w.states]]) (φ:=bl (fineR g w)) ⟨rfl,rfl,trivial⟩ (dive.Fine_ok g w (by assumption)) T.ent40 (gy rfl rfl rfl hg3 (pkT rfl hg4 rfl (drp (X:= [(35,_),(34,_),(33,_)]) ⟨rfl,rfl,rfl,trivial⟩ (fin)))))))))
   ·intro hg4 fin
    exact gn rfl rfl rfl hg4 rfl rfl (gn rfl rfl rfl hg4 rfl rfl (gn rfl rfl rfl hg4 rfl rfl (gy rfl rfl rfl hg3 (pkF rfl hg4 rfl (drp (X:= [(35,_),(34,_),(33,_)]) ⟨rfl,rfl,rfl,trivial⟩ (fin))))))
   exact pkF rfl hg3 rfl (drp (X:= [(36,_),(32,_),(31,_),(30,_)]) ⟨rfl,rfl,rfl,rfl,trivial⟩ (fin))
  ·intro hg3 fin
   exact gn rfl rfl rfl hg3 rfl rfl (gn rfl rfl rfl hg3 rfl rfl (gn rfl rfl rfl hg3 rfl rfl (gu rfl rfl rfl rfl rfl (gu rfl rfl rfl rfl rfl (gu rfl rfl rfl rfl rfl (gn rfl rfl rfl hg3 rfl rfl (pkT rfl hg3 rfl (drp (X:= [(36,_),(35,_),(34,_),(33,_),(32,_),(31,_),(30,_)]) ⟨rfl,rfl,rfl,rfl,rfl,rfl,rfl,trivial⟩ (fin)))))))))
  refine ag (nl (th (rt ?_)))
  have hr0:((((decide (e=2))&&large)&&(isNone g))||((decide (e=0))&&(fineR g w)))=(toldB g e err w large):=by
   unfold toldB;rw[if_pos hc0]
  have hall:∀x0,((((decide (e=2))&&large)&&(isNone g))||((decide (e=0))&&(fineR g w)))=x0→resAV [bl ((((decide (e=2))&&large)&&(isNone g))||((decide (e=0))&&(fineR g w)))]=resAV [bl x0]:=by rintro _ rfl;rfl
  exact rE () [.tmp 10] rfl [bl ((((decide (e=2))&&large)&&(isNone g))||((decide (e=0))&&(fineR g w)))] ⟨.tmp rfl,trivial⟩ (hall _ hr0) trivial (by first|exact .inr rfl|exact .inl rfl)
end dive
end Go.Proofs.YtcjemmihcplgdaaGreat
namespace Go.Proofs.YtcjemmihcplgdaaGreat
open AL Go
set_option maxRecDepth 100000
set_option linter.all false
namespace LevM2
open ref01 ref03 ref04 ref06 Part Rungs LeftM TrimM BisM BisM5 BisM6 WitM JudgM LevM
def BadM (m:SSys) (t:SSpec) (p:PP):Prop:=offM m p.1.toNat∉acc t p.2.toNat
def SucM (m:SSys) (t:SSpec) (p q:PP):Prop:=∃e∈edg m p.1.toNat,q=(e.2,ix (nxt t p.2.toNat) e.1.toNat)
def boxM (m:SSys) (t:SSpec) (p:PP):Prop:=0≤p.1∧p.1<(m.states.length:Int)∧0≤p.2∧p.2<(t.states.length:Int)
theorem sucm_box {m:SSys} {t:SSpec} (hm:okSys m) (ht:okSpec t) {p q:PP} (hp:boxM m t p) (hb:¬BadM m t p) (hs:SucM m t p q):boxM m t q:=by
 obtain⟨e,he,rfl⟩:=hs
 obtain⟨p0,p1,p2,p3⟩:=hp
 have ha:offM m p.1.toNat∈acc t p.2.toNat:=Classical.byContradiction hb
 have g1:=hm.ed p.1.toNat (by omega) e he
 have g2:=edge_go hm ht (x:=p.1.toNat) (y:=p.2.toNat) (by omega) (by omega) ha he
 exact⟨g1.2.2.1,g1.2.2.2,g2.2.1,g2.2.2⟩
theorem rchm_box {m:SSys} {t:SSpec} (hm:okSys m) (ht:okSpec t) {p:PP} (h:Rch (BadM m t) (SucM m t) p):boxM m t p:=by
 induction h with
 |zero=>exact⟨by simp,by have:=hm.few0;show(0:Int)<_;omega,by simp,by have:=ht.few0;show(0:Int)<_;omega⟩
 |step h1 h2 h3 ih=>exact sucm_box hm ht ih h2 h3
theorem well_sat {m:SSys} {t:SSpec} (hm:okSys m) (ht:okSpec t):Well (BadM m t) (SucM m t)↔SatM m t:=by
 constructor
 ·intro hw
  have hacc:∀{x y:Nat},Rch (BadM m t) (SucM m t) ((x:Int),(y:Int))→offM m x∈acc t y:=fun {x y} h=>Classical.byContradiction (hw _ h)
  have hbox:∀{x y:Nat},Rch (BadM m t) (SucM m t) ((x:Int),(y:Int))→x<m.states.length∧y<t.states.length:=fun {x y} h=>by
   obtain⟨_,h1,_,h2⟩:=rchm_box hm ht h
   dsimp only at h1 h2
   omega
  refine⟨fun x y=>Rch (BadM m t) (SucM m t) ((x:Int),(y:Int)),⟨fun {x y} h=>(hbox h).2,fun {x y} h=>hacc h,fun {x y} h e he=> ?_,fun {x y} h e he=> ?_⟩,.zero⟩
  ·obtain⟨e',he',rfl⟩:=List.mem_map.1 he
   have:=(edge_go hm ht (hbox h).1 (hbox h).2 (hacc h) he').1
   show e'.1.toNat<_
   rw[(ht.st y (hbox h).2).len];exact this
  ·obtain⟨e',he',rfl⟩:=List.mem_map.1 he
   have hr:Rch (BadM m t) (SucM m t) (e'.2,ix (nxt t y) e'.1.toNat):=Rch.step h (hw _ h) ⟨e',he',rfl⟩
   have hb:=rchm_box hm ht hr
   obtain⟨b0,_,b2,_⟩:=hb
   dsimp only at b0 b2
   refine⟨b2,?_⟩
   show Rch _ _ (((e'.2.toNat:Nat):Int),_)
   rw[Int.toNat_of_nonneg b0,Int.toNat_of_nonneg b2]
   exact hr
 ·rintro⟨R,hR,h0⟩ p hp
  have:boxM m t p∧R p.1.toNat p.2.toNat:=by
   induction hp with
   |zero=>exact⟨rchm_box hm ht .zero,h0⟩
   |step h1 h2 h3 ih=>
    refine⟨sucm_box hm ht ih.1 h2 h3,?_⟩
    obtain⟨e,he,rfl⟩:=h3
    exact(hR.nxt ih.2 _ (List.mem_map.2 ⟨e,he,rfl⟩)).2
  exact fun hb=>hb (hR.acc this.2)
end LevM2
end Go.Proofs.YtcjemmihcplgdaaGreat
