/- The walks of the functions and the plain laws. Own texts of this claim, packed: MkItoa, MkKeys, Mkprog10, MkRoundM, Mkprog11. -/
import Derived.Test.YtnlfjojfgghchaaGreatDoorX03
import Derived.Test.YtnlfjojfgghchaaGreatDoorX02
import Derived.Shelf.LaysM
import Derived.Shelf.Strconv.Itoa3
import Derived.Lib.ItoaLen
import Derived.Test.YtnlfjojfgghchaaGreatDoorX04
set_option linter.all false
namespace Go.Proofs.YtnlfjojfgghchaaGreatDoor
open AL Go
set_option maxRecDepth 100000
section
open Go.Shelf
namespace Itoa
def He:Go.Shelf.Ren:=⟨fun|171=>189|243=>204|246=>219|283=>205|284=>206|285=>207|286=>208|129=>174|317=>220|318=>221|319=>222|320=>223|337=>227|338=>228|n=>n,fun|3=>3|9=>9|2=>2|4=>4|171=>251|0=>0|53=>219|37=>181|5=>5|173=>253|212=>267|51=>216|20=>20|213=>268|46=>183|232=>272|233=>273|n=>n,fun|17=>0|18=>1|19=>2|n=>n⟩
theorem RG:LaysM.n171 Tryz.prog He where
 mixed:=by kernel_rfl
 f129:=Tryz.func174.trans (congrArg some kR)
 f171:=Tryz.func189.trans (congrArg some kR)
 f243:=Tryz.func204.trans (congrArg some kR)
 f246:=Tryz.func219.trans (congrArg some kR)
 f283:=Tryz.func205.trans (congrArg some kR)
 f284:=Tryz.func206.trans (congrArg some kR)
 f285:=Tryz.func207.trans (congrArg some kR)
 f286:=Tryz.func208.trans (congrArg some kR)
 f317:=Tryz.func220.trans (congrArg some kR)
 f318:=Tryz.func221.trans (congrArg some kR)
 f319:=Tryz.func222.trans (congrArg some kR)
 f320:=Tryz.func223.trans (congrArg some kR)
 f337:=Tryz.func227.trans (congrArg some kR)
 f338:=Tryz.func228.trans (congrArg some kR)
 t0:=Tryz.underlying0
 a0:=Tryz.isAgg0
 z0:=Tryz.sizeOf0
 v0:=Tryz.zeroValue0
 t2:=Tryz.underlying2
 a2:=Tryz.isAgg2
 z2:=Tryz.sizeOf2
 v2:=Tryz.zeroValue2
 t3:=Tryz.underlying3
 a3:=Tryz.isAgg3
 z3:=Tryz.sizeOf3
 v3:=Tryz.zeroValue3
 t4:=Tryz.underlying4
 a4:=Tryz.isAgg4
 z4:=Tryz.sizeOf4
 v4:=Tryz.zeroValue4
 t5:=Tryz.underlying5
 a5:=Tryz.isAgg5
 z5:=Tryz.sizeOf5
 v5:=Tryz.zeroValue5
 t9:=Tryz.underlying9
 a9:=Tryz.isAgg9
 z9:=Tryz.sizeOf9
 v9:=Tryz.zeroValue9
 t20:=Tryz.underlying20
 a20:=Tryz.isAgg20
 z20:=Tryz.sizeOf20
 v20:=Tryz.zeroValue20
 t37:=Tryz.underlying181
 a37:=Tryz.isAgg181
 z37:=Tryz.sizeOf181
 v37:=Tryz.zeroValue181
 t46:=Tryz.underlying183
 a46:=Tryz.isAgg183
 z46:=Tryz.sizeOf183
 v46:=Tryz.zeroValue183
 t51:=Tryz.underlying216
 a51:=Tryz.isAgg216
 z51:=Tryz.sizeOf216
 v51:=Tryz.zeroValue216
 t53:=Tryz.underlying219
 a53:=Tryz.isAgg219
 z53:=Tryz.sizeOf219
 v53:=Tryz.zeroValue219
 t171:=Tryz.underlying251
 a171:=Tryz.isAgg251
 z171:=Tryz.sizeOf251
 v171:=Tryz.zeroValue251
 t173:=Tryz.underlying253
 a173:=Tryz.isAgg253
 z173:=Tryz.sizeOf253
 v173:=Tryz.zeroValue253
 t212:=Tryz.underlying267
 a212:=Tryz.isAgg267
 z212:=Tryz.sizeOf267
 v212:=Tryz.zeroValue267
 t213:=Tryz.underlying268
 a213:=Tryz.isAgg268
 z213:=Tryz.sizeOf268
 t232:=Tryz.underlying272
 a232:=Tryz.isAgg272
 z232:=Tryz.sizeOf272
 v232:=Tryz.zeroValue272
 t233:=Tryz.underlying273
 a233:=Tryz.isAgg273
 z233:=Tryz.sizeOf273
 v233:=Tryz.zeroValue273
 g17:=by kernel_rfl
 g18:=by kernel_rfl
 g19:=by kernel_rfl
 i0:=by kernel_rfl
 i2:=by kernel_rfl
 i3:=by kernel_rfl
 i4:=by kernel_rfl
 i5:=by kernel_rfl
 i9:=by kernel_rfl
 i20:=by kernel_rfl
 i37:=by kernel_rfl
 i46:=by kernel_rfl
 i51:=by kernel_rfl
 i53:=by kernel_rfl
 i171:=by kernel_rfl
 i173:=by kernel_rfl
 i212:=by kernel_rfl
 i232:=by kernel_rfl
 i233:=by kernel_rfl
 m17:=by kernel_rfl
 m18:=by kernel_rfl
 m19:=by kernel_rfl
def Cw:String:= "internal/strconv.uint64pow10"
def tab:AV:=⟨fun w F _=> ∃g,Tryz.prog.globalNamed Cw=some g∧F g∧Lib.TabIs Tryz.prog w Cw .u64 Lib.pow10Tab,fun {w F w' F' v} hF hw ⟨g,h1,h2,h3⟩=>⟨g,h1,hF g h2,by
 unfold Lib.TabIs World.var? at h3 ⊢
 rw[h1] at h3 ⊢
 simp only [Option.bind_some] at h3 ⊢
 rw[hw g h2];exact h3⟩⟩
instance:Amb tab:=⟨fun _ h=>h⟩
abbrev mN (φ:AV):AV:=both φ tab
def lY (n:Int):ByteArray:=⟨(Lib.itoa n).toArray⟩
theorem Dp {n:Int} (h0: -9223372036854775808≤n) (h1:n≤9223372036854775807):(lY n).size≤21:=by
 have:=Lib.itoa_length_le n h0 h1
 show(Lib.itoa n).toArray.size≤21
 simpa using this
attribute [local semireducible] eqv emp in
theorem HP (n:Int) (h0: -9223372036854775808≤n) (h1:n≤9223372036854775807):Fn0 Tryz.prog 189 [mN (int n)] (str (lY n)):=by
 intro w F vs hvs hb hH
 match vs,hvs with
 | [v],⟨⟨hv,g,hg,hF,ht⟩,_⟩=>
   have hv:v= .int .i64 n:=hv
   subst hv
   refine(Any.strconv_Itoa RG n h0 h1 w ht).mono ?_
   rintro e w' ⟨rfl,k,os,rfl⟩
   refine⟨(),_,F,rfl,?_⟩
   have hheap:∀b,b<w.heap.size→(Sort.grow (w.drewN k) os).heap[b]?=w.heap[b]?:=fun b hb=>by
     show(w.heap++os)[b]?=_
     rw[Array.getElem?_append_left hb]
   exact { res:=rfl,ok:=vP _ _,sub:=fun _ h=>h,new:=fun b h=> .inl h,foot:=fun b h=>by obtain⟨k,h⟩:=h;exact(show False from h).elim,old:=fun b hb _=>hheap b hb,size:=by show _≤(w.heap++os).size;simp,os:=rfl,tape:=rfl,out:=rfl }
end Itoa
end
section
open ref01 ref03 ref04 ref06 Rungs LeftM TrimM Itoa
namespace Keys
def JD (l:List UInt8):Nat:=l.foldl (fun a d=>a*10+(d.toNat- 48)) 0
theorem Dq (l:List UInt8) (d:UInt8):JD (l++ [d])=JD l*10+(d.toNat- 48):=by simp[JD]
theorem Aa (u:Nat):JD (Lib.decDigits u)=u∧(∀d∈Lib.decDigits u,d≠32)∧Lib.decDigits u≠[]:=by
 induction u using Nat.strongRecOn with
 |ind u ih=>
  have hd:∀k,k<10→(UInt8.ofNat (48+k)).toNat=48+k:=fun k hk=>by
   rw[UInt8.toNat_ofNat'];omega
  have hne:∀k,k<10→UInt8.ofNat (48+k)≠32:=fun k hk e=>by
   have:=congrArg UInt8.toNat e
   rw[hd k hk] at this
   have h2:(32:UInt8).toNat=32:=rfl
   omega
  rw[Lib.decDigits]
  by_cases h:u<10
  ·rw[dif_pos h]
   refine⟨?_,fun d hm=> ?_,by simp⟩
   ·have:=Dq [] (UInt8.ofNat (48+u))
    rw[List.nil_append] at this
    rw[this,hd u h]
    show 0*10+_=u
    omega
   ·have:d=UInt8.ofNat (48+u):=by simpa using hm
    subst this;exact hne u h
  ·rw[dif_neg h]
   obtain⟨h1,h2,h3⟩:=ih (u/10) O
   refine⟨?_,fun d hm=> ?_,by simp⟩
   ·rw[Dq,h1,hd _ O];omega
   ·rcases List.mem_append.1 hm with hm|hm
    ·exact h2 d hm
    ·have:d=UInt8.ofNat (48+u % 10):=by simpa using hm
     subst this;exact hne _ O
theorem Cx {n:Int} (h:0≤n):Lib.itoa n=Lib.decDigits n.toNat:=by unfold Lib.itoa;rw[if_neg O]
theorem vX {m n:Int} (hm:0≤m) (hn:0≤n) (h:Lib.itoa m=Lib.itoa n):m=n:=by
 rw[Cx hm,Cx hn] at h
 have h1:=(Aa m.toNat).1
 have h2:=(Aa n.toNat).1
 rw[h,h2] at h1
 omega
theorem nP {m:Int} (hm:0≤m):∀d∈Lib.itoa m,d≠32:=by
 rw[Cx hm];exact(Aa _).2.1
def iW (l:List Int):List UInt8:=l.flatMap fun t=>32::Lib.itoa t
theorem Bt {a b r s:List UInt8} (ha:∀d∈a,d≠32) (hb:∀d∈b,d≠32) (hr:r= []∨∃t,r=32::t) (hs:s= []∨∃t,s=32::t) (h:a++r=b++s):a=b∧r=s:=by
 induction a generalizing b with
 |nil=>
  cases b with
  |nil=>exact⟨rfl,h⟩
  |cons y b=>
   rcases hr with rfl|⟨t,rfl⟩
   ·simp at h
   ·simp at h;exact absurd h.1.symm (hb y (by simp))
 |cons x a ih=>
  cases b with
  |nil=>
   rcases hs with rfl|⟨t,rfl⟩
   ·simp at h
   ·simp at h;exact absurd h.1 (ha x (by simp))
  |cons y b=>
   simp at h
   obtain⟨h1,h2⟩:=ih (fun d hd=>ha d (by simp[hd])) (fun d hd=>hb d (by simp[hd])) h.2
   exact⟨by rw[h.1,h1],h2⟩
theorem rC (l:List Int):iW l= []∨∃t,iW l=32::t:=by
 cases l with
 |nil=>exact .inl rfl
 |cons x l=>exact .inr ⟨_,rfl⟩
theorem Fx:∀{l m:List Int},(∀x∈l,0≤x)→(∀x∈m,0≤x)→iW l=iW m→l=m
 | [],[],_,_,_=>rfl
 | [],y::m,_,_,h=>by simp[iW] at h
 |x::l,[],_,_,h=>by simp[iW] at h
 |x::l,y::m,hl,hm,h=>by
  have h:32::(Lib.itoa x++iW l)=32::(Lib.itoa y++iW m):=h
  obtain⟨h1,h2⟩:=Bt (nP (hl x (by simp))) (nP (hm y (by simp))) (rC l) (rC m) (List.cons.inj h).2
  rw[vX (hl x (by simp)) (hm y (by simp)) h1,Fx (fun z hz=>hl z (by simp[hz])) (fun z hz=>hm z (by simp[hz])) h2]
theorem Lm (l:List Int) (x:Int):iW (l++ [x])=iW l++32::Lib.itoa x:=by simp[iW]
theorem Dr (a b:List UInt8):(⟨a.toArray⟩:ByteArray)++⟨b.toArray⟩=⟨(a++b).toArray⟩:=by
 apply ByteArray.ext
 rw[ByteArray.data_append]
 simp
def nD (c:Int) (l:List Int):ByteArray:=⟨(Lib.itoa c++iW l).toArray⟩
theorem NY (c:Int):lY c=nD c []:=by unfold lY nD;simp[iW]
theorem Ln (c:Int) (l:List Int) (x:Int):nD c l++(⟨#[32]⟩++lY x)=nD c (l++ [x]):=by
 unfold nD lY
 rw[Lm,show(⟨#[32]⟩:ByteArray)=⟨([32]:List UInt8).toArray⟩ from rfl,Dr,Dr];simp
theorem Lp {a b:List UInt8} (h:(⟨a.toArray⟩:ByteArray)=⟨b.toArray⟩):a=b:=by
 have:=congrArg (fun z:ByteArray=>z.data.toList) h
 simpa using this
theorem NZ {c d:Int} {l m:List Int} (hc:0≤c) (hd:0≤d) (hl:∀x∈l,0≤x) (hm:∀x∈m,0≤x) (h:nD c l=nD d m):c=d∧l=m:=by
 obtain⟨h1,h2⟩:=Bt (nP hc) (nP hd) (rC l) (rC m) (Lp h)
 exact⟨vX hc hd h1,Fx hl hm h2⟩
theorem Oa (l:List Int) (h:∀x∈l,0≤x∧x≤9223372036854775807):(iW l).length≤22*l.length:=by
 induction l with
 |nil=>simp[iW]
 |cons x l ih=>
  have h1:=Lib.itoa_length_le x (by have:=h x (by simp);omega) (h x (by simp)).2
  have h2:=ih (fun y hy=>h y (by simp[hy]))
  have:iW (x::l)=32::(Lib.itoa x++iW l):=rfl
  rw[this];simp;omega
theorem Dt (c:Int) (l:List Int) (hc:0≤c∧c≤9223372036854775807) (h:∀x∈l,0≤x∧x≤9223372036854775807):(nD c l).size≤22+22*l.length:=by
 have h1:=Oa l h
 have h2:=Lib.itoa_length_le c O hc.2
 show(Lib.itoa c++iW l).toArray.size≤_
 simp;omega
end Keys
end
section
open ref01 ref03 ref04 ref06 prog prog2 prog3 prog4 prog5 prog6 prog7 prog8 prog9 Part Rungs LeftM TrimM Itoa Keys
noncomputable def keeps (s:SS):List (List Int):=(List.range s.sT.length).map (keep s)
namespace prog10
end prog10
end
section
open ref01 ref03 ref04 ref06 Part Rungs LeftM TrimM Itoa Keys
namespace RoundM
theorem RH {s:SS} (hs:oK s) (x:Nat):(∀t∈keep s x,0≤t∧t<256)∧(keep s x).length≤256:=by
 by_cases hx:x<s.sT.length
 ·have hok:=hs.st x hx
  refine⟨fun t ht=>xH hok (zY ht).1,?_⟩
  have h1:=List.length_filter_le (fun t=> !ix (hOl s) x&& !dF (ix s.sT x) t (hOl s)) (ix s.sT x).aP
  have h2:=hok.acl
  unfold keep;omega
 ·have e:(ix s.sT x).aP= []:=by
   have:ix s.sT x=default:=by unfold ix;rw[List.getD_eq_getElem?_getD,List.getElem?_eq_none O];rfl
   rw[this];rfl
  have e2:keep s x= []:=by unfold keep;rw[e];rfl
  rw[e2];exact⟨fun t ht=>by simp at ht,by simp⟩
end RoundM
end
section
open ref01 ref03 ref04 ref06 prog prog2 prog3 prog4 prog5 prog6 prog7 prog8 prog9 prog10 Part Rungs LeftM TrimM Itoa Keys RoundM
namespace prog11
end prog11
end
end Go.Proofs.YtnlfjojfgghchaaGreatDoor
