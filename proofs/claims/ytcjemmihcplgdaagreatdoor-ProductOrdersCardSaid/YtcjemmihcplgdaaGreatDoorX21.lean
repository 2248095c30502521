/- The abstract logic. Own texts of this claim, packed: ZdALDraw3, ZdALWh. -/
import Derived.Test.YtcjemmihcplgdaaGreatDoorX02
import Derived.Test.YtcjemmihcplgdaaGreatDoorX08
set_option linter.all false
set_option linter.unusedVariables false
namespace AL
open Go
section
variable {P:Program} {r:Option Nat} {ops:Array Oper} {Q:Exit→Act→World→Prop} {B:Base}
variable {ms:List Nat} {i:Nat} {E:(Nat→Value)→Env} {H:(Nat→Value)→Hp} {l:List Oper} {ks:List (Option Nat × List Nat)} {K:((Nat→Value)→Env)→((Nat→Value)→Hp)→Prop}
def whn (p:Prop) (φ:AV):AV:=⟨fun w F v=>p∧φ.p w F v,fun hF hw h=>⟨h.1,φ.st hF hw h.2⟩⟩
theorem ste {ι:Type} {o:Oper} {d:Nat} (enc:ι→Value) (dec:Value→ι) (hdec:∀z,dec (enc z)=z) (R:ι→Prop) (φ:ι→AV) (hd:o.dst=some d)
 (h:∀(β:Nat→Value) (Q:Exit→Act→World→Prop) (E':Env) (H':Hp) (rest:List Oper),Agr E' (E β) (o.looksAt ops)→AF H' (H β) []→(∀z,R z→St r P ops Q B ((d,φ z)::E') H' rest)→St r P ops Q B E' H' (o::rest))
 (k:lR r P ops B ms (i+1) (fun β=>(d,whn (R (dec (β i))) (φ (dec (β i))))::E β) H l ks K):lR r P ops B ms i E H (o::l) ((none,[])::ks) K:=
 shH ⟨some d,fun β=>whn (R (dec (β i))) (φ (dec (β i))),none,fun _=>emp,[]⟩ (fun hm hb hi=>⟨hd,fun β β' hj=>by
  have e:=hj i (.inl rfl)
  simp only [e,and_self],fun β Q E' H' rest hl hk kk=>h β Q E' H' rest (lZ hl) (sH hk) (fun z hz=>by
  have:=kk (enc z)
  have e:upd β i (enc z) i=enc z:=by simp[upd]
  simp only [nN,nO,e,hdec] at this
  exact fun a w hs=>this a w (hs.less (fun t w F v hv=>by
   by_cases e:d=t
   ·subst e;rw[dB] at hv ⊢;exact⟨hz,hv⟩
   ·rw[bZ _ _ e] at hv ⊢;exact hv) (fun t=>⟨fun _ h=>h,fun h=>h⟩)))⟩) k
variable {rest:List Oper} {ty:Nat} {pos:String} {af:Array Edge} {d:Nat}
attribute [local semireducible] tup in
theorem xtW {E:Env} {H:Hp} {x:Operand} {cs:List AV} {i:Nat} {φ:AV} {p:Prop} (hx:lkO x E=whn p (tup cs)) (hi:cs[i]?=some φ)
 (k:St r P ops Q B ((d,φ)::E) H rest) (hn:Nat.blt d B.nt=true:=by rfl):
 St r P ops Q B E H ({ dst:=some d,op:= .extract x i,type:=ty,pos:=pos,after:=af,guard:=none }::rest):=
 fun a w h=>dG h rfl rfl hn (fun _=>nofun) (fun F Ds hs=>by
  have h1:=hs.opd x
  rw[hx] at h1
  obtain⟨vs,hv,ha⟩:=h1.2
  obtain⟨v,hv',hp⟩:=ha.get hi
  exact⟨v,by simp[execOp,hv,Instr.extract,hv'],hp⟩) k
theorem Sim.wh {E:Env} {H:Hp} {a:Act} {w:World} {p:Prop} {φ:AV} (h:Sim B E H a w) (t:Nat) (hx:lk t E=whn p φ):p∧Sim B ((t,φ)::E) H a w:=by
 obtain⟨F,Ds,hs⟩:=h
 have h1:=hs.env t
 rw[hx] at h1
 refine⟨h1.1,F,Ds,{ hs with env:=fun s=> ?_ }⟩
 by_cases e:t=s
 ·subst e;rw[dB];exact h1.2
 ·rw[bZ _ _ e];exact hs.env s
theorem Vz {E:Env} {H:Hp} {c:Code} {p:Prop} {φ:AV} (t:Nat) (hx:lk t E=whn p φ) (k:p→Ct r P Q B ((t,φ)::E) H c):Ct r P Q B E H c:=fun a w hs=>k (hs.wh t hx).1 a w (hs.wh t hx).2
end
end AL
set_option linter.unusedVariables false
namespace AL
open Go
theorem VA {ι:Type} {P:Program} {f:FuncId} {args:List AV} {Hi:Hp} {res res':Nat→ι→AV} {Ho:ι→Hp} (h:Fn P f args Hi res Ho) (hr:∀N i {w F v},(res N i).p w F v→(res' N i).p w F v):Fn P f args Hi res' Ho:=fun w F vs h1 h2 h3=>(h w F vs h1 h2 h3).mono (fun en w' hq=>by
 obtain⟨i,v,F',he,hl⟩:=hq
 exact⟨i,v,F',he,{ hl with res:=hr _ _ hl.res }⟩)
section
variable {P:Program} {r:Option Nat} {ops:Array Oper} {Q:Exit→Act→World→Prop} {rest:List Oper} {B:Base} {E:Env} {H:Hp} {ty:Nat} {pos:String} {af:Array Edge}
theorem VB {T n key b o s t:Nat} {cs cs':List AV} {p:Prop} (hx:lkO (.tmp s) E=ptr key b o) (hk:lkH key H=cell b cs) (hy:lkO (.tmp t) E=whn p (agg cs')) [h1:OneAll cs'] (ht:fH P T n) (hn:cs'.length=n) (ho:Nat.ble (o+n) cs.length=true)
 (k:St r P ops Q B E ((key,cell b (cs.take o++cs'++cs.drop (o+cs'.length)))::H) rest) (hne:Nat.beq t s=false:=by rfl):
 St r P ops Q B E H ({ dst:=none,op:= .store T (.tmp s) (.tmp t),type:=ty,pos:=pos,after:=af,guard:=none }::rest):=fun a w h=>by
 obtain⟨hp,h2⟩:=h.wh t hy
 refine DV h2 (x:= .tmp s) (y:= .tmp t) (cs':=cs') (hx:=(bZ _ _ (Nat.ne_of_beq_eq_false hne)).trans hx) (hk:=hk) (hy:=dB _ _ _) (ht:=ht) (hn:=hn) (ho:=ho) (k:=fun a w hs=>k a w (hs.less (fun t' w F v hv=> ?_) (fun _=>⟨fun _ h=>h,fun h=>h⟩)))
 by_cases e:t=t'
 ·subst e
  rw[dB] at hv
  rw[show lk t E=whn p (agg cs') from hy]
  exact⟨hp,hv⟩
 ·rw[bZ _ _ e] at hv;exact hv
theorem VC {x:Exit} {p:Prop} {φ:AV} (t:Nat) (hx:lk t E=whn p φ) (k:p→At Q x B ((t,φ)::E) H):At Q x B E H:=fun a w hs=>k (hs.wh t hx).1 a w (hs.wh t hx).2
end
end AL
