/- The walks of the functions and the plain laws. Own texts of this claim, packed: ZdItoa, ZdKeys, Zdprog10, ZdRoundM, Zdprog11. -/
import Derived.Test.YtcjemmihcplgdaaGreatDoorX03
import Derived.Test.YtcjemmihcplgdaaGreatDoorX02
import Derived.Shelf.LaysM
import Derived.Shelf.Strconv.Itoa3
import Derived.Lib.ItoaLen
import Derived.Test.YtcjemmihcplgdaaGreatDoorX04
set_option linter.all false
namespace Go.Proofs.YtcjemmihcplgdaaGreatDoor
open AL Go
set_option maxRecDepth 100000
section
open Go.Shelf
namespace Itoa
def Kw:Go.Shelf.Ren:=⟨fun|171=>88|243=>139|246=>171|283=>200|284=>201|285=>202|286=>203|129=>185|317=>228|318=>229|319=>230|320=>231|337=>239|338=>240|n=>n,fun|3=>3|9=>9|2=>2|4=>4|171=>243|0=>0|53=>224|37=>245|5=>5|173=>246|212=>275|51=>222|20=>20|213=>276|46=>188|232=>286|233=>287|n=>n,fun|17=>0|18=>1|19=>2|n=>n⟩
theorem Ux:LaysM.n171 Tryz.prog Kw where
 mixed:=by kernel_rfl
 f129:=Tryz.func185.trans (congrArg some kR)
 f171:=Tryz.func88.trans (congrArg some kR)
 f243:=Tryz.func139.trans (congrArg some kR)
 f246:=Tryz.func171.trans (congrArg some kR)
 f283:=Tryz.func200.trans (congrArg some kR)
 f284:=Tryz.func201.trans (congrArg some kR)
 f285:=Tryz.func202.trans (congrArg some kR)
 f286:=Tryz.func203.trans (congrArg some kR)
 f317:=Tryz.func228.trans (congrArg some kR)
 f318:=Tryz.func229.trans (congrArg some kR)
 f319:=Tryz.func230.trans (congrArg some kR)
 f320:=Tryz.func231.trans (congrArg some kR)
 f337:=Tryz.func239.trans (congrArg some kR)
 f338:=Tryz.func240.trans (congrArg some kR)
 t0:=Tryz.underlying0
 a0:=Tryz.isAgg0
 z0:=Tryz.sizeOf0
 v0:=Tryz.zeroValue0
 t2:=Tryz.underlying2
 a2:=Tryz.isAgg2
 z2:=Tryz.sizeOf2
 v2:=Tryz.zeroValue2
 t3:=Tryz.underlying3
 a3:=Tryz.isAgg3
 z3:=Tryz.sizeOf3
 v3:=Tryz.zeroValue3
 t4:=Tryz.underlying4
 a4:=Tryz.isAgg4
 z4:=Tryz.sizeOf4
 v4:=Tryz.zeroValue4
 t5:=Tryz.underlying5
 a5:=Tryz.isAgg5
 z5:=Tryz.sizeOf5
 v5:=Tryz.zeroValue5
 t9:=Tryz.underlying9
 a9:=Tryz.isAgg9
 z9:=Tryz.sizeOf9
 v9:=Tryz.zeroValue9
 t20:=Tryz.underlying20
 a20:=Tryz.isAgg20
 z20:=Tryz.sizeOf20
 v20:=Tryz.zeroValue20
 t37:=Tryz.underlying245
 a37:=Tryz.isAgg245
 z37:=Tryz.sizeOf245
 v37:=Tryz.zeroValue245
 t46:=Tryz.underlying188
 a46:=Tryz.isAgg188
 z46:=Tryz.sizeOf188
 v46:=Tryz.zeroValue188
 t51:=Tryz.underlying222
 a51:=Tryz.isAgg222
 z51:=Tryz.sizeOf222
 v51:=Tryz.zeroValue222
 t53:=Tryz.underlying224
 a53:=Tryz.isAgg224
 z53:=Tryz.sizeOf224
 v53:=Tryz.zeroValue224
 t171:=Tryz.underlying243
 a171:=Tryz.isAgg243
 z171:=Tryz.sizeOf243
 v171:=Tryz.zeroValue243
 t173:=Tryz.underlying246
 a173:=Tryz.isAgg246
 z173:=Tryz.sizeOf246
 v173:=Tryz.zeroValue246
 t212:=Tryz.underlying275
 a212:=Tryz.isAgg275
 z212:=Tryz.sizeOf275
 v212:=Tryz.zeroValue275
 t213:=Tryz.underlying276
 a213:=Tryz.isAgg276
 z213:=Tryz.sizeOf276
 t232:=Tryz.underlying286
 a232:=Tryz.isAgg286
 z232:=Tryz.sizeOf286
 v232:=Tryz.zeroValue286
 t233:=Tryz.underlying287
 a233:=Tryz.isAgg287
 z233:=Tryz.sizeOf287
 v233:=Tryz.zeroValue287
 g17:=by kernel_rfl
 g18:=by kernel_rfl
 g19:=by kernel_rfl
 i0:=by kernel_rfl
 i2:=by kernel_rfl
 i3:=by kernel_rfl
 i4:=by kernel_rfl
 i5:=by kernel_rfl
 i9:=by kernel_rfl
 i20:=by kernel_rfl
 i37:=by kernel_rfl
 i46:=by kernel_rfl
 i51:=by kernel_rfl
 i53:=by kernel_rfl
 i171:=by kernel_rfl
 i173:=by kernel_rfl
 i212:=by kernel_rfl
 i232:=by kernel_rfl
 i233:=by kernel_rfl
 m17:=by kernel_rfl
 m18:=by kernel_rfl
 m19:=by kernel_rfl
def Dl:String:= "internal/strconv.uint64pow10"
def tab:AV:=⟨fun w F _=> ∃g,Tryz.prog.globalNamed Dl=some g∧F g∧Lib.TabIs Tryz.prog w Dl .u64 Lib.pow10Tab,fun {w F w' F' v} hF hw ⟨g,h1,h2,h3⟩=>⟨g,h1,hF g h2,by
 unfold Lib.TabIs World.var? at h3 ⊢
 rw[h1] at h3 ⊢
 simp only [Option.bind_some] at h3 ⊢
 rw[hw g h2];exact h3⟩⟩
instance:Amb tab:=⟨fun _ h=>h⟩
abbrev kQ (φ:AV):AV:=both φ tab
def iD (n:Int):ByteArray:=⟨(Lib.itoa n).toArray⟩
theorem xQ {n:Int} (h0: -9223372036854775808≤n) (h1:n≤9223372036854775807):(iD n).size≤21:=by
 have:=Lib.itoa_length_le n h0 h1
 show(Lib.itoa n).toArray.size≤21
 simpa using this
attribute [local semireducible] eqv emp in
theorem yY (n:Int) (h0: -9223372036854775808≤n) (h1:n≤9223372036854775807):Fn0 Tryz.prog 88 [kQ (int n)] (str (iD n)):=by
 intro w F vs hvs hb hH
 match vs,hvs with
 | [v],⟨⟨hv,g,hg,hF,ht⟩,_⟩=>
   have hv:v= .int .i64 n:=hv
   subst hv
   refine(Any.strconv_Itoa Ux n h0 h1 w ht).mono ?_
   rintro e w' ⟨rfl,k,os,rfl⟩
   refine⟨(),_,F,rfl,?_⟩
   have hheap:∀b,b<w.heap.size→(Sort.grow (w.drewN k) os).heap[b]?=w.heap[b]?:=fun b hb=>by
     show(w.heap++os)[b]?=_
     rw[Array.getElem?_append_left hb]
   exact { res:=rfl,ok:=Ay _ _,sub:=fun _ h=>h,new:=fun b h=> .inl h,foot:=fun b h=>by obtain⟨k,h⟩:=h;exact(show False from h).elim,old:=fun b hb _=>hheap b hb,size:=by show _≤(w.heap++os).size;simp,os:=rfl,tape:=rfl,out:=rfl }
end Itoa
end
section
open ref01 ref03 ref04 ref06 Rungs LeftM TrimM Itoa
namespace Keys
def Kx (l:List UInt8):Nat:=l.foldl (fun a d=>a*10+(d.toNat- 48)) 0
theorem Em (l:List UInt8) (d:UInt8):Kx (l++ [d])=Kx l*10+(d.toNat- 48):=by simp[Kx]
theorem AU (u:Nat):Kx (Lib.decDigits u)=u∧(∀d∈Lib.decDigits u,d≠32)∧Lib.decDigits u≠[]:=by
 induction u using Nat.strongRecOn with
 |ind u ih=>
  have hd:∀k,k<10→(UInt8.ofNat (48+k)).toNat=48+k:=fun k hk=>by
   rw[UInt8.toNat_ofNat'];omega
  have hne:∀k,k<10→UInt8.ofNat (48+k)≠32:=fun k hk e=>by
   have:=congrArg UInt8.toNat e
   rw[hd k hk] at this
   have h2:(32:UInt8).toNat=32:=rfl
   omega
  rw[Lib.decDigits]
  by_cases h:u<10
  ·rw[dif_pos h]
   refine⟨?_,fun d hm=> ?_,by simp⟩
   ·have:=Em [] (UInt8.ofNat (48+u))
    rw[List.nil_append] at this
    rw[this,hd u h]
    show 0*10+_=u
    omega
   ·have:d=UInt8.ofNat (48+u):=by simpa using hm
    subst this;exact hne u h
  ·rw[dif_neg h]
   obtain⟨h1,h2,h3⟩:=ih (u/10) O
   refine⟨?_,fun d hm=> ?_,by simp⟩
   ·rw[Em,h1,hd _ O];omega
   ·rcases List.mem_append.1 hm with hm|hm
    ·exact h2 d hm
    ·have:d=UInt8.ofNat (48+u % 10):=by simpa using hm
     subst this;exact hne _ O
theorem Dm {n:Int} (h:0≤n):Lib.itoa n=Lib.decDigits n.toNat:=by unfold Lib.itoa;rw[if_neg O]
theorem Ge {m n:Int} (hm:0≤m) (hn:0≤n) (h:Lib.itoa m=Lib.itoa n):m=n:=by
 rw[Dm hm,Dm hn] at h
 have h1:=(AU m.toNat).1
 have h2:=(AU n.toNat).1
 rw[h,h2] at h1
 omega
theorem yZ {m:Int} (hm:0≤m):∀d∈Lib.itoa m,d≠32:=by
 rw[Dm hm];exact(AU _).2.1
def jQ (l:List Int):List UInt8:=l.flatMap fun t=>32::Lib.itoa t
theorem Mv {a b r s:List UInt8} (ha:∀d∈a,d≠32) (hb:∀d∈b,d≠32) (hr:r= []∨∃t,r=32::t) (hs:s= []∨∃t,s=32::t) (h:a++r=b++s):a=b∧r=s:=by
 induction a generalizing b with
 |nil=>
  cases b with
  |nil=>exact⟨rfl,h⟩
  |cons y b=>
   rcases hr with rfl|⟨t,rfl⟩
   ·simp at h
   ·simp at h;exact absurd h.1.symm (hb y (by simp))
 |cons x a ih=>
  cases b with
  |nil=>
   rcases hs with rfl|⟨t,rfl⟩
   ·simp at h
   ·simp at h;exact absurd h.1 (ha x (by simp))
  |cons y b=>
   simp at h
   obtain⟨h1,h2⟩:=ih (fun d hd=>ha d (by simp[hd])) (fun d hd=>hb d (by simp[hd])) h.2
   exact⟨by rw[h.1,h1],h2⟩
theorem rS (l:List Int):jQ l= []∨∃t,jQ l=32::t:=by
 cases l with
 |nil=>exact .inl rfl
 |cons x l=>exact .inr ⟨_,rfl⟩
theorem Gf:∀{l m:List Int},(∀x∈l,0≤x)→(∀x∈m,0≤x)→jQ l=jQ m→l=m
 | [],[],_,_,_=>rfl
 | [],y::m,_,_,h=>by simp[jQ] at h
 |x::l,[],_,_,h=>by simp[jQ] at h
 |x::l,y::m,hl,hm,h=>by
  have h:32::(Lib.itoa x++jQ l)=32::(Lib.itoa y++jQ m):=h
  obtain⟨h1,h2⟩:=Mv (yZ (hl x (by simp))) (yZ (hm y (by simp))) (rS l) (rS m) (List.cons.inj h).2
  rw[Ge (hl x (by simp)) (hm y (by simp)) h1,Gf (fun z hz=>hl z (by simp[hz])) (fun z hz=>hm z (by simp[hz])) h2]
theorem Mw (l:List Int) (x:Int):jQ (l++ [x])=jQ l++32::Lib.itoa x:=by simp[jQ]
theorem En (a b:List UInt8):(⟨a.toArray⟩:ByteArray)++⟨b.toArray⟩=⟨(a++b).toArray⟩:=by
 apply ByteArray.ext
 rw[ByteArray.data_append]
 simp
def lG (c:Int) (l:List Int):ByteArray:=⟨(Lib.itoa c++jQ l).toArray⟩
theorem Gg (c:Int):iD c=lG c []:=by unfold iD lG;simp[jQ]
theorem Eo (c:Int) (l:List Int) (x:Int):lG c l++(⟨#[32]⟩++iD x)=lG c (l++ [x]):=by
 unfold lG iD
 rw[Mw,show(⟨#[32]⟩:ByteArray)=⟨([32]:List UInt8).toArray⟩ from rfl,En,En];simp
theorem Uy {a b:List UInt8} (h:(⟨a.toArray⟩:ByteArray)=⟨b.toArray⟩):a=b:=by
 have:=congrArg (fun z:ByteArray=>z.data.toList) h
 simpa using this
theorem Gh {c d:Int} {l m:List Int} (hc:0≤c) (hd:0≤d) (hl:∀x∈l,0≤x) (hm:∀x∈m,0≤x) (h:lG c l=lG d m):c=d∧l=m:=by
 obtain⟨h1,h2⟩:=Mv (yZ hc) (yZ hd) (rS l) (rS m) (Uy h)
 exact⟨Ge hc hd h1,Gf hl hm h2⟩
theorem Pc (l:List Int) (h:∀x∈l,0≤x∧x≤9223372036854775807):(jQ l).length≤22*l.length:=by
 induction l with
 |nil=>simp[jQ]
 |cons x l ih=>
  have h1:=Lib.itoa_length_le x (by have:=h x (by simp);omega) (h x (by simp)).2
  have h2:=ih (fun y hy=>h y (by simp[hy]))
  have:jQ (x::l)=32::(Lib.itoa x++jQ l):=rfl
  rw[this];simp;omega
theorem xR (c:Int) (l:List Int) (hc:0≤c∧c≤9223372036854775807) (h:∀x∈l,0≤x∧x≤9223372036854775807):(lG c l).size≤22+22*l.length:=by
 have h1:=Pc l h
 have h2:=Lib.itoa_length_le c O hc.2
 show(Lib.itoa c++jQ l).toArray.size≤_
 simp;omega
end Keys
end
section
open ref01 ref03 ref04 ref06 prog prog2 prog3 prog4 prog5 prog6 prog7 prog8 prog9 Part Rungs LeftM TrimM Itoa Keys
noncomputable def keeps (s:SS):List (List Int):=(List.range s.sT.length).map (keep s)
namespace prog10
end prog10
end
section
open ref01 ref03 ref04 ref06 Part Rungs LeftM TrimM Itoa Keys
namespace RoundM
theorem Sg {s:SS} (hs:oK s) (x:Nat):(∀t∈keep s x,0≤t∧t<256)∧(keep s x).length≤256:=by
 by_cases hx:x<s.sT.length
 ·have hok:=hs.st x hx
  refine⟨fun t ht=>oV hok (sY ht).1,?_⟩
  have h1:=List.length_filter_le (fun t=> !ix (hOl s) x&& !falls (ix s.sT x) t (hOl s)) (ix s.sT x).aP
  have h2:=hok.acl
  unfold keep;omega
 ·have e:(ix s.sT x).aP= []:=by
   have:ix s.sT x=default:=by unfold ix;rw[List.getD_eq_getElem?_getD,List.getElem?_eq_none O];rfl
   rw[this];rfl
  have e2:keep s x= []:=by unfold keep;rw[e];rfl
  rw[e2];exact⟨fun t ht=>by simp at ht,by simp⟩
end RoundM
end
section
open ref01 ref03 ref04 ref06 prog prog2 prog3 prog4 prog5 prog6 prog7 prog8 prog9 prog10 Part Rungs LeftM TrimM Itoa Keys RoundM
namespace prog11
end prog11
end
end Go.Proofs.YtcjemmihcplgdaaGreatDoor
